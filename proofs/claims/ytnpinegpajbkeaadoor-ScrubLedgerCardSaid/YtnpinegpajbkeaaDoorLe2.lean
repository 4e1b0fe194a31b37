/- Texts of one claim, one behind the other: MapK, LeftZ, Law, Rd, RF, RangeG, FileQ, ArrEq, Kep, By, DiskM, CrcP, CrcM, CrcU, CrcG, PtC, ExtA, ConcA, Asc, ExtB, ExtF, ExtO, DiskRm, Nones, PairA, PairW, StA, StB, DiskRo, StC, PairP, PairD, ChunkA, ChunkB, PairS, PairG, ExtP, FreshP, NeedsP, PairLo, HeldP, LoadP, LostP, StP, AppZ, StR, StS, StL, StX, StY, StN, StPm, RdO, AnchA, Laid, Tied, TabO. -/
import Derived.Test.YtnpinegpajbkeaaDoorLe1
import Derived.DeepKeys5
import Derived.Test.YtnpinegpajbkeaaDoorRows
import Derived.WalkKit
import Derived.ProofKit
import Derived.OpenShut
import Derived.Below
import Derived.Carry
import Derived.Deep.Slices
import Derived.Deep.Fields
import Derived.ChangeSame
import Derived.RangeFuncNested
import Derived.RangeFuncBound
import Derived.RangeFuncCalls
import Derived.RangeFuncLeaves
import Derived.RangeFuncBox
import Derived.TacticsIn
import Derived.Laws.StructEq
import Derived.ChangeKeysEq
import Derived.Laws.BytesString
import Derived.Laws.MakeOwn
import Derived.WideShapes
import Derived.Laws.BitsAllLaws
import Derived.Laws.IdiomStrings
import Derived.Shelf.Abstract
import Derived.Shelf.RegionOpen
import Derived.OwnWalkIn
import Derived.TacticsInMore
import Derived.LoopNIn
import Derived.LoopIn
import Derived.Outline
import Derived.IntWalk
import Derived.Lib.AppendZerosOnto
import Derived.LaidMore
import Derived.Stop.Joined
import Derived.Lib.LaidTab
set_option linter.unusedSimpArgs false
set_option linter.unusedVariables false
namespace Go.Proofs.YtnpinegpajbkeaaDoor
open Go.RowKit HP
section
variable {P : Program} {t k e : TypeId} {w : World} {b : Nat} {es : Array MapEntry} {clock : Nat}
def KeysOk (P : Program) (k : TypeId) (es : Array MapEntry) : Prop := ∀ x ∈ es.toList, ∃ l, keyOf P k x.key = some l
end
def spotV (s : ByteArray) (i : Int) : Value := .agg #[.string s, .int .i64 i]
def wf64 (i : Int) : Prop := -9223372036854775808 ≤ i ∧ i ≤ 9223372036854775807
theorem wf64_lit {i : Int} (h : wf64 i) : (Lit.int .i64 i).wf = true := by
  obtain ⟨h1, h2⟩ := h
  simp [Lit.wf, IntKind.min, IntKind.max, IntKind.signed, IntKind.bits]
  omega
theorem spot_keyType : Tryd.prog.keyType 25 = true := by kernel_rfl
theorem spot_key {s : ByteArray} {i : Int} (hs : s.size ≤ maxLen) (hi : wf64 i) : ∃ l, keyOf Tryd.prog 25 (spotV s i) = some l := by
  have hu := Tryd.underlying25
  have hw := wf64_lit hi
  have c1 : Tryd.prog.cellsOf 25 = 2 := by kernel_rfl
  have c2 : Tryd.prog.cellsOf 9 = 1 := by kernel_rfl
  have c3 : Tryd.prog.cellsOf 3 = 1 := by kernel_rfl
  obtain ⟨m, hm⟩ : ∃ m, Tryd.prog.types.size = m + 1 := ⟨Tryd.prog.types.size - 1, by kernel_rfl⟩
  unfold keyOf spotV
  simp only [hu]
  rw [if_pos (by simp [spot_keyType, Value.formed, hu, c1])]
  unfold Program.keyLits
  simp only [hu, Value.cells]
  rw [if_pos ⟨by rw [c1]; rfl, by kernel_rfl⟩, hm]
  simp only [List.mapM_cons, List.mapM_nil]
  simp [Program.keyLits, Tryd.underlying9, Tryd.underlying3, c2, c3, hs, hw]
theorem spotV_inj {s t : ByteArray} {i j : Int} (h : spotV s i = spotV t j) : s = t ∧ i = j := by
  unfold spotV at h
  simp only [Value.agg.injEq, Array.mk.injEq, List.cons.injEq, Value.string.injEq, Value.int.injEq, and_true, true_and] at h
  first
    | exact h
    | simpa using h
structure SpotMap (es : Array MapEntry) (f : ByteArray → Int → Int) : Prop where
  keys : ∀ x ∈ es.toList, ∃ s i, x.key = spotV s i ∧ s.size ≤ maxLen ∧ wf64 i ∧ x.val = .int .i64 (f s i)
  none : ∀ s i, (∀ x ∈ es.toList, x.key ≠ spotV s i) → f s i = 0
  apart : ∀ (i j : Nat) (x y : MapEntry), es.toList[i]? = some x → es.toList[j]? = some y → x.key = y.key → i = j
theorem SpotMap.empty : SpotMap #[] (fun _ _ => 0) := ⟨fun x hx => by simp at hx, fun _ _ _ => rfl, fun i j x y h => by simp at h⟩
theorem SpotMap.ok {es : Array MapEntry} {f : ByteArray → Int → Int} (h : SpotMap es f) : KeysOk Tryd.prog 25 es := fun x hx => by
  obtain ⟨s, i, hk, hs, hi, _⟩ := h.keys x hx
  rw [hk]; exact spot_key hs hi
open Classical in
noncomputable def spotPut (f : ByteArray → Int → Int) (s : ByteArray) (i v : Int) : ByteArray → Int → Int := fun t j => if t = s ∧ j = i then v else f t j
theorem SpotMap.push {es : Array MapEntry} {f : ByteArray → Int → Int} (h : SpotMap es f) {s : ByteArray} {i v : Int} {clock : Nat} (hs : s.size ≤ maxLen) (hi : wf64 i) (hn : ∀ x ∈ es.toList, x.key ≠ spotV s i) : SpotMap (es.push ⟨spotV s i, .int .i64 v, clock⟩) (spotPut f s i v) := by
  refine ⟨fun x hx => ?_, fun t j hno => ?_, fun a b x y hx hy he => ?_⟩
  · simp only [Array.toList_push, List.mem_append, List.mem_singleton] at hx
    rcases hx with hx | rfl
    · obtain ⟨t, j, hk, ht, hj, hv⟩ := h.keys x hx
      refine ⟨t, j, hk, ht, hj, ?_⟩
      have hne : ¬ (t = s ∧ j = i) := fun ⟨h1, h2⟩ => hn x hx (by rw [hk, h1, h2])
      simp only [spotPut, if_neg hne, hv]
    · exact ⟨s, i, rfl, hs, hi, by simp [spotPut]⟩
  · have h1 : ∀ x ∈ es.toList, x.key ≠ spotV t j := fun x hx => hno x (by simp [Array.toList_push, hx])
    have h2 : spotV s i ≠ spotV t j := hno ⟨spotV s i, .int .i64 v, clock⟩ (by simp [Array.toList_push])
    have hne : ¬ (t = s ∧ j = i) := fun ⟨h3, h4⟩ => h2 (by rw [h3, h4])
    simp only [spotPut, if_neg hne]
    exact h.none t j h1
  · rw [Array.toList_push, List.getElem?_append] at hx hy
    split at hx <;> split at hy
    · exact h.apart a b x y hx hy he
    · rename_i h1 h2
      have : y = ⟨spotV s i, .int .i64 v, clock⟩ := by
        rcases Nat.eq_or_lt_of_le (Nat.le_of_not_lt h2) with h3 | h3
        · rw [← h3, Nat.sub_self] at hy; simpa using hy.symm
        · rw [List.getElem?_eq_none (by simp only [List.length_cons, List.length_nil]; omega)] at hy; cases hy
      subst this
      exact absurd he (hn x (List.mem_of_getElem? hx))
    · rename_i h1 h2
      have : x = ⟨spotV s i, .int .i64 v, clock⟩ := by
        rcases Nat.eq_or_lt_of_le (Nat.le_of_not_lt h1) with h3 | h3
        · rw [← h3, Nat.sub_self] at hx; simpa using hx.symm
        · rw [List.getElem?_eq_none (by simp only [List.length_cons, List.length_nil]; omega)] at hx; cases hx
      subst this
      exact absurd he.symm (hn y (List.mem_of_getElem? hy))
    · rename_i h1 h2
      have e1 : a = es.toList.length := by
        rcases Nat.eq_or_lt_of_le (Nat.le_of_not_lt h1) with h3 | h3
        · exact h3.symm
        · rw [List.getElem?_eq_none (by simp only [List.length_cons, List.length_nil]; omega)] at hx; cases hx
      have e2 : b = es.toList.length := by
        rcases Nat.eq_or_lt_of_le (Nat.le_of_not_lt h2) with h3 | h3
        · exact h3.symm
        · rw [List.getElem?_eq_none (by simp only [List.length_cons, List.length_nil]; omega)] at hy; cases hy
      omega
theorem SpotMap.set {es : Array MapEntry} {f : ByteArray → Int → Int} (h : SpotMap es f) {s : ByteArray} {i v : Int} {j : Nat} {x0 : MapEntry} (hj : es.toList[j]? = some x0) (hx0 : x0.key = spotV s i) : SpotMap (es.modify j fun e => { e with key := spotV s i, val := .int .i64 v }) (spotPut f s i v) := by
  obtain ⟨s', i', hk, hs, hi, -⟩ := h.keys x0 (List.mem_of_getElem? hj)
  obtain ⟨rfl, rfl⟩ := spotV_inj (hk.symm.trans hx0)
  have hat : ∀ a, (es.modify j fun e => { e with key := spotV s' i', val := .int .i64 v }).toList[a]? = if j = a then (es.toList[a]?).map (fun e => { e with key := spotV s' i', val := .int .i64 v }) else es.toList[a]? := by
    intro a
    rw [Array.toList_modify, List.getElem?_modify]
    split <;> simp
  refine ⟨fun x hx => ?_, fun t m hno => ?_, fun a b x y hx hy he => ?_⟩
  · obtain ⟨a, ha⟩ := List.getElem?_of_mem hx
    rw [hat] at ha
    split at ha
    · rename_i he
      subst he
      rw [hj] at ha
      simp only [Option.map_some, Option.some.injEq] at ha
      subst ha
      exact ⟨s', i', rfl, hs, hi, by simp [spotPut]⟩
    · rename_i hne
      obtain ⟨t, m, hk', ht, hm, hv⟩ := h.keys x (List.mem_of_getElem? ha)
      refine ⟨t, m, hk', ht, hm, ?_⟩
      have hne' : ¬ (t = s' ∧ m = i') := fun ⟨h1, h2⟩ => hne (h.apart j a x0 x hj ha (by rw [hx0, hk', h1, h2]))
      simp only [spotPut, if_neg hne', hv]
  · have hne' : ¬ (t = s' ∧ m = i') := fun ⟨h1, h2⟩ => by
      have := hat j
      rw [if_pos rfl, hj] at this
      exact hno _ (List.mem_of_getElem? this) (by rw [h1, h2])
    simp only [spotPut, if_neg hne']
    refine h.none t m fun x hx hke => ?_
    obtain ⟨a, ha⟩ := List.getElem?_of_mem hx
    by_cases hja : j = a
    · subst hja
      rw [hj] at ha; cases ha
      obtain ⟨h1, h2⟩ := spotV_inj (hx0.symm.trans hke)
      exact hne' ⟨h1.symm, h2.symm⟩
    · have := hat a
      rw [if_neg hja, ha] at this
      exact hno x (List.mem_of_getElem? this) hke
  · have key : ∀ (c : Nat) (z : MapEntry), (es.modify j fun e => { e with key := spotV s' i', val := .int .i64 v }).toList[c]? = some z → ∃ z' : MapEntry, es.toList[c]? = some z' ∧ z'.key = z.key := by
      intro c z hz
      rw [hat] at hz
      split at hz
      · rename_i he
        subst he
        rw [hj] at hz
        simp only [Option.map_some, Option.some.injEq] at hz
        subst hz
        exact ⟨x0, hj, hx0⟩
      · exact ⟨z, hz, rfl⟩
    obtain ⟨x', hx', ex⟩ := key a x hx
    obtain ⟨y', hy', ey⟩ := key b y hy
    exact h.apart a b x' y' hx' hy' (by rw [ex, ey, he])
end Go.Proofs.YtnpinegpajbkeaaDoor
namespace Go.Proofs.YtnpinegpajbkeaaDoor
open Go.RowKit HP
def leftZ (es : Array MapEntry) (seen : Array Nat) (fs : List Fil) : List (MapEntry × Fil) := (es.toList.zip fs).filter fun x => !seen.contains x.1.born
end Go.Proofs.YtnpinegpajbkeaaDoor
namespace Go.Proofs.YtnpinegpajbkeaaDoor
open Go.ChangeShapes Go.WideShapes Go.ChangeAt Go.RowKit
theorem own : ownKnob Tryd.prog.godebug = none := by kernel_rfl
theorem laidOut : laidOutB Tryd.prog = true := by kernel_rfl
theorem trodAll_below {H : Type} {enc : TypeId × Value → H} {P : Program} (hl : laidOutB P = true) {W W' : World} (hb : Below W.heap.size W W') {sp : Nat → Bool} :
    ∀ {ts : List TypeId} {vs : List Value} {ds : List (DataW H)} {ps : List MemPlace}, (ts.all fun t => P.readableRec t && decide (t < P.types.size)) = true → (∀ x ∈ ps, x.block < W.heap.size) → (∀ x ∈ ps, sp x.block = true) →
      DataW.TrodAll enc P W 0 (fun _ => true) true ts vs ds ps → DataW.TrodAll enc P W' 0 sp true ts vs ds ps
  | [], [], [], _, _, _, _, h => h
  | [], _ :: _, _, _, _, _, _, h => h.elim
  | [], [], _ :: _, _, _, _, _, h => h.elim
  | _ :: _, [], _, _, _, _, _, h => h.elim
  | _ :: _, _ :: _, [], _, _, _, _, h => h.elim
  | t :: ts, v :: vs, d :: ds, ps, hr, hlt, hsp, h => by
    obtain ⟨p, q, h1, h2, rfl⟩ := h
    simp only [List.all_cons, Bool.and_eq_true, decide_eq_true_eq] at hr
    exact ⟨p, q, Go.WideElems.Trod_stays hl hr.1.1 hr.1.2 h1 (fun x hx => hb.same (hlt x (List.mem_append.2 (.inl hx)))) (fun x hx => hsp x (List.mem_append.2 (.inl hx))),
      trodAll_below hl hb (by simpa using hr.2) (fun x hx => hlt x (List.mem_append.2 (.inr hx))) (fun x hx => hsp x (List.mem_append.2 (.inr hx))) h2, rfl⟩
theorem law_post {H : Type} {enc : TypeId × Value → H} {P : Program} {f : Func} {s : ChangeSpec} {apart fresh : Bool} {W W' : World} {args : Array Value} {ds gs : List (DataW H)} {before : List MemPlace}
    (hl : laidOutB P = true) (hrow : (f.params.toList.all fun t => P.readableRec t && decide (t < P.types.size)) = true) {tb : TypeId} (hrt : f.resultTypes = #[tb]) (htb : P.underlying tb = some .bool)
    (hv : s.vars = []) (hs : s.fn H (ds ++ gs) = { results := [.lit (.bool true)], args := ds })
    (hW : DataW.Whole enc P f.params.toList s.vars apart W args.toList ds gs before) (hb : Below W.heap.size W W') : s.post enc P f apart fresh false false W args (.bool true) W' := by
  have hlt : ∀ x ∈ before, x.block < W.heap.size := fun x hx => by simpa using hW.lt x hx
  have hW' := hW
  obtain ⟨p, q, hA, hV, rfl, hz, hn⟩ := hW
  rw [hv] at hV
  obtain ⟨rfl, rfl⟩ := trodVars_none hV
  have hres : ∀ (b : Nat) (sp : Nat → Bool) (hd : Bool), DataW.TrodAll enc P W' b sp hd f.resultTypes.toList ((Value.bool true).resultList f.resultTypes.size) (s.fn H (ds ++ [])).results [] := by
    intro b sp hd
    rw [hrt, hs]
    exact trodAll_mk1 (shut_bool htb true)
  simp only [List.append_nil] at hlt hW' 
  refine ⟨ds, [], _, [], p, [], hW', hres _ _ _, ?_, ?_, hb.frame _, fun h => by cases h⟩
  · rw [hs]; exact trodAll_below hl hb hrow hlt (fun x hx => by simpa using hlt x hx) hA
  · rw [hs, hv]; rfl
end Go.Proofs.YtnpinegpajbkeaaDoor
namespace Go.Proofs.YtnpinegpajbkeaaDoor
open Go.ChangeShapes Go.WideShapes Go.ChangeAt Go.RowKit HP
structure Rd (α : Type) where
  cells : α → List Value
  ok : World → α → Prop
  carry : ∀ {W W' : World} {a : α}, (∀ k, k < W.heap.size → W'.heap[k]? = W.heap[k]?) → ok W a → ok W' a
def Rd.At {α : Type} (r : Rd α) (P : Program) (t : TypeId) : Prop :=
  ∀ {H : Type} {enc : TypeId × Value → H} {W : World} {fuel : Nat} {cs : List Value} {x : DataW H × List MemPlace}, DataW.trod enc P W 0 (fun _ => true) true fuel t cs = some x → ∃ a, cs = r.cells a ∧ r.ok W a
def rdInt (k : IntKind) : Rd Int := ⟨fun n => [.int k n], fun _ n => (Lit.int k n).wf = true, fun _ h => h⟩
def rdBool : Rd Bool := ⟨fun b => [.bool b], fun _ _ => True, fun _ h => h⟩
def rdStr : Rd ByteArray := ⟨fun s => [.string s], fun _ s => s.size ≤ maxLen, fun _ h => h⟩
structure Sl (α : Type) where
  A : Option Addr
  cap : Nat
  l : List α
def Sl.val {α : Type} (s : Sl α) : Value := .slice s.A s.l.length s.cap
def rdSl {α : Type} (r : Rd α) : Rd (Sl α) :=
  ⟨fun s => [s.val], fun W s => s.l.length ≤ s.cap ∧ s.cap ≤ maxLen ∧ Cells W s.A (s.l.flatMap r.cells) ∧ ∀ x ∈ s.l, r.ok W x, fun hb h => ⟨h.1, h.2.1, h.2.2.1.carry hb, fun x hx => r.carry hb (h.2.2.2 x hx)⟩⟩
def rdPair {α β : Type} (r : Rd α) (s : Rd β) : Rd (α × β) := ⟨fun x => r.cells x.1 ++ s.cells x.2, fun W x => r.ok W x.1 ∧ s.ok W x.2, fun hb h => ⟨r.carry hb h.1, s.carry hb h.2⟩⟩
def rdEnd : Rd Unit := ⟨fun _ => [], fun _ _ => True, fun _ h => h⟩
def rdMap {α β : Type} (r : Rd α) (f : α → β) (g : β → α) (h : ∀ a, g (f a) = a) : Rd β := ⟨fun b => r.cells (g b), fun W b => r.ok W (g b), fun hb h => r.carry hb h⟩
section
variable {P : Program} {t : TypeId}
theorem rdInt_at {k : IntKind} (ht : P.underlying t = some (.int k)) : (rdInt k).At P t := by
  intro H enc W fuel cs x h
  obtain ⟨n, rfl, -, hw⟩ := DataW.trod_int ht h
  exact ⟨n, rfl, hw⟩
theorem rdStr_at (ht : P.underlying t = some .string) : rdStr.At P t := by
  intro H enc W fuel cs x h
  obtain ⟨n, rfl, -, hw⟩ := DataW.trod_string ht h
  exact ⟨n, rfl, hw⟩
theorem choose_list {α : Type} (n : Nat) (p : Nat → α → Prop) (h : ∀ i, i < n → ∃ a, p i a) : ∃ l : List α, l.length = n ∧ ∀ (i : Nat) (a : α), l[i]? = some a → p i a := by
  induction n with
  | zero => exact ⟨[], rfl, fun i a h => by simp at h⟩
  | succ n ih =>
    obtain ⟨l, hl, hp⟩ := ih fun i hi => h i (by omega)
    obtain ⟨a, ha⟩ := h n (by omega)
    refine ⟨l ++ [a], by simp [hl], fun i b hb => ?_⟩
    rw [List.getElem?_append] at hb
    split at hb
    · exact hp i b hb
    · rename_i hlt
      have hi : i = n := by
        have := (List.getElem?_eq_some_iff.1 hb).1
        simp at this
        omega
      subst hi
      rw [hl, Nat.sub_self] at hb
      simp at hb
      subst hb; exact ha
theorem flat_at {α : Type} (f : α → List Value) (n : Nat) (l : List α) (hn : ∀ x ∈ l, (f x).length = n) : ∀ (j : Nat) (u : Value), (l.flatMap f)[j]? = some u → ∃ (i k : Nat) (x : α), l[i]? = some x ∧ k < n ∧ j = i * n + k ∧ (f x)[k]? = some u := by
  induction l with
  | nil => intro j u h; simp at h
  | cons x l ih =>
    intro j u h
    rw [List.flatMap_cons, List.getElem?_append] at h
    have hx := hn x (by simp)
    split at h
    · rename_i hlt
      exact ⟨0, j, x, rfl, by omega, by omega, h⟩
    · rename_i hlt
      obtain ⟨i, k, y, h1, h2, h3, h4⟩ := ih (fun y hy => hn y (by simp [hy])) _ _ h
      refine ⟨i + 1, k, y, by simpa using h1, h2, ?_, h4⟩
      rw [Nat.add_mul, Nat.one_mul]
      omega
theorem rdSl_at {α : Type} {r : Rd α} {e : TypeId} {n : Nat} (ht : P.underlying t = some (.slice e)) (hc : P.cellsOf e = n) (hr : r.At P e) : (rdSl r).At P t := by
  intro H enc W fuel cs x h
  rcases Go.Deep.open_slice ht h with ⟨rfl, -⟩ | ⟨a, len, cap, m, n', D, Pl, rfl, -, hl, hm, hmm, -, hi⟩
  · exact ⟨⟨none, 0, []⟩, rfl, Nat.le_refl _, Nat.zero_le _, Cells.nil _ _, fun x hx => by cases hx⟩
  · have hml : len ≤ m := by rw [hmm]; split <;> omega
    obtain ⟨l, hll, hp⟩ := choose_list len (fun i x => r.ok W x ∧ W.cells? 0 (a.add (i * n)) n = some (r.cells x)) fun i hil => by
      obtain ⟨cs', h1, h2⟩ := hi i (by omega)
      obtain ⟨x, rfl, hx⟩ := hr h2
      rw [hc] at h1
      exact ⟨x, hx, h1⟩
    have hlen : ∀ x ∈ l, (r.cells x).length = n := fun x hx => by
      obtain ⟨i, hi'⟩ := List.getElem?_of_mem hx
      exact (World.cells?_some (hp i x hi').2).2.1
    refine ⟨⟨some a, cap, l⟩, by simp [rdSl, Sl.val, hll], by simpa [hll] using hl, hm, fun j u hj => ⟨a, rfl, ?_⟩, fun x hx => ?_⟩
    · obtain ⟨i, k, x, h1, h2, h3, h4⟩ := flat_at r.cells n l hlen j u hj
      have h5 := (World.cells?_some (hp i x h1).2).2.2 k h2
      rw [h4, Cells.add_add] at h5
      rw [h3]; exact h5
    · obtain ⟨i, hi'⟩ := List.getElem?_of_mem hx
      exact (hp i x hi').1
def Rd.Fs {α : Type} (r : Rd α) (P : Program) (fs : List Field) (off total : Nat) : Prop :=
  ∀ {H : Type} {enc : TypeId × Value → H} {W : World} {n : Nat} {cs : List Value}, (∀ f ∈ fs, ∃ y, DataW.trod enc P W 0 (fun _ => true) true n f.type ((cs.drop f.offset).take (P.cellsOf f.type)) = some y) → off + total = cs.length →
    ∃ a, cs.drop off = r.cells a ∧ r.ok W a
theorem rdEnd_fs (off : Nat) : rdEnd.Fs P [] off 0 := by
  intro H enc W n cs _ h
  exact ⟨(), by simp [rdEnd]; omega, trivial⟩
theorem rdPair_fs {α β : Type} {r : Rd α} {s : Rd β} {f : Field} {fs : List Field} {off size total : Nat} (hoff : f.offset = off) (hsz : P.cellsOf f.type = size) (hr : r.At P f.type) (hs : s.Fs P fs (off + size) total) : (rdPair r s).Fs P (f :: fs) off (size + total) := by
  intro H enc W n cs h hl
  obtain ⟨y, hy⟩ := h f (by simp)
  obtain ⟨a, ha, hoa⟩ := hr hy
  obtain ⟨b, hb, hob⟩ := hs (fun g hg => h g (by simp [hg])) (by omega)
  refine ⟨(a, b), ?_, hoa, hob⟩
  show cs.drop off = r.cells a ++ s.cells b
  rw [← ha, ← hb, hoff, hsz, ← List.drop_drop, List.take_append_drop]
theorem rdStruct_at {α β : Type} {r : Rd α} {fs : Array Field} {total : Nat} (ht : P.underlying t = some (.struct fs)) (hc : P.cellsOf t = total) (hr : r.Fs P fs.toList 0 total) (f : α → β) (g : β → α) (hg : ∀ a, g (f a) = a) : (rdMap r f g hg).At P t := by
  intro H enc W fuel cs x h
  obtain ⟨xs, n, -, -, hl, hxl, hf⟩ := DataW.trod_struct ht h
  obtain ⟨a, ha, hoa⟩ := hr (W := W) (n := n) (cs := cs) (fun fd hfd => by
    obtain ⟨i, hi⟩ := List.getElem?_of_mem hfd
    have hi' : fs[i]? = some fd := by simpa using hi
    have h1 := hf i fd hi'
    have hlt : i < xs.length := by rw [hxl]; exact (Array.getElem?_eq_some_iff.1 hi').1
    rw [List.getElem?_eq_getElem hlt] at h1
    exact ⟨_, h1⟩) (by omega)
  refine ⟨f a, ?_, ?_⟩
  · show cs = r.cells (g (f a))
    rw [hg, ← ha, List.drop_zero]
  · show r.ok W (g (f a))
    rw [hg]; exact hoa
theorem Rd.arg {α : Type} {r : Rd α} (hr : r.At P t) {H : Type} {enc : TypeId × Value → H} {W : World} {v : Value} {d0 : DataW H} {p : List MemPlace} (h0 : DataW.Trod enc P W 0 (fun _ => true) true t v d0 p) : ∃ a, v.cells.toList = r.cells a ∧ r.ok W a := by
  obtain ⟨fuel, hf⟩ := h0
  exact hr hf
theorem sl_arg {α : Type} {r : Rd α} {e : TypeId} {base : Nat} (ht : P.underlying t = some (.slice e)) (hr : (rdSl r).At P t) {H : Type} {enc : TypeId × Value → H} {W : World} {v : Value} {d0 : DataW H} {p : List MemPlace} (hv : Value.okWide P W .any base t v) (h0 : DataW.Trod enc P W 0 (fun _ => true) true t v d0 p) : ∃ s : Sl α, v = s.val ∧ (rdSl r).ok W s := by
  obtain ⟨a0, len, cap, rfl⟩ := okWide_slice ht hv
  obtain ⟨s, hs, ho⟩ := Rd.arg hr h0
  refine ⟨s, ?_, ho⟩
  have : [Value.slice a0 len cap] = [s.val] := hs
  simpa using this
end
end Go.Proofs.YtnpinegpajbkeaaDoor
namespace Go.Proofs.YtnpinegpajbkeaaDoor
open Go.RowKit HP
section
variable {E : Env} {w w' : World} {p q r : HP}
theorem HP.Solid.emp (B : Nat) : Solid B HP.emp := Celled.emp.solid B
def KeepSl (Bs : Nat) (A : Option Addr) (cs : List Value) (W W' : World) : Prop := W'.heap[Bs]? = W.heap[Bs]? ∧ (Cells W A cs → Cells W' A cs)
theorem KeepSl.trans {Bs : Nat} {A : Option Addr} {cs : List Value} {W X Y : World} (h : KeepSl Bs A cs W X) (k : KeepSl Bs A cs X Y) : KeepSl Bs A cs W Y := ⟨k.1.trans h.1, fun c => k.2 (h.2 c)⟩
theorem Cells.putObj {W : World} {A : Option Addr} {cs : List Value} (h : Cells W A cs) {l : Nat} {o : Obj} (hl : W.heap[l]? = some o) (ho : o.isCells = false) (o' : Obj) : Cells (W.putObj l o') A cs := fun j u hj => by
  obtain ⟨a, ha, hc⟩ := h j u hj
  refine ⟨a, ha, ?_⟩
  obtain ⟨g, i, e⟩ := addr_of_cell hc
  rw [e] at hc ⊢
  have hne : g ≠ l := by
    intro hgl
    subst hgl
    simp only [World.cell?, hl] at hc
    cases o <;> simp_all [Obj.isCells]
  rw [World.cell?_of_block (w := W) (putObj_heap_ne W l o' g hne)]
  exact hc
theorem KeepSl.put {Bs : Nat} {A : Option Addr} {cs : List Value} {W : World} {l : Nat} {o : Obj} (hb : Bs < l) (hl : W.heap[l]? = some o) (ho : o.isCells = false) (o' : Obj) : KeepSl Bs A cs W (W.putObj l o') :=
  ⟨putObj_heap_ne W l o' Bs (by omega), fun h => h.putObj hl ho o'⟩
def RoundPost (E : Env) (p : HP) : Exit → Act → World → Prop
  | .normal, _, W' => Sat E W' p
  | _, _, _ => False
end
end Go.Proofs.YtnpinegpajbkeaaDoor
namespace Go.Proofs.YtnpinegpajbkeaaDoor
open Go.RowKit HP
def seenMap (es : Array MapEntry) (seen : Array Nat) (g : Fil → Fil) (fs : List Fil) : List Fil := List.zipWith (fun e f => if seen.contains e.born then g f else f) es.toList fs
def mapPre (g : Nat → Cel → Cel) (l : List (Nat × Cel)) (k : Nat) : List (Nat × Cel) := l.mapIdx fun i x => if i < k then (x.1, g i x.2) else x
theorem exec_binop {P : Program} {o : Oper} {a : Act} {w : World} {op : BinOp} {t ty : TypeId} {x y : Operand} {X Y V : Value} (ho : o.op = .binOp op t x y ty) (hx : a.eval x = X) (hy : a.eval y = Y) (hg : (eqGuard op t x y X Y).run P w = .ok () w) (hr : (binOp op t X Y).run P w = .ok V w) :
    (execOp a.eval o).run P w = .ok (.value V) w := by
  unfold execOp
  rw [ho]
  simp only [hx, hy, Sem.run_bind, hg, hr, Result.andThen_ok]
  rfl
structure Kep where
  name : ByteArray
  index : Int
  bytes : Int
def Kep.vals (k : Kep) : List Value := [.string k.name, .int .i64 k.index, .int .i64 k.bytes]
def kepCells (l : List Kep) : List Value := l.flatMap Kep.vals
def Bytes (l : List Int) : Prop := ∀ x ∈ l, 0 ≤ x ∧ x ≤ 255
def strOf (l : List Int) : ByteArray := l.foldl (fun r n => r.push (UInt8.ofNat n.toNat)) ByteArray.empty
structure StepV where
  op : Int
  i : Int
  at_ : Int
  n : Int
  name : ByteArray
  b : Sl Int
  mask : Int
  kept : Sl Kep
def rdKep : Rd Kep := rdMap (rdPair rdStr (rdPair (rdInt .i64) (rdPair (rdInt .i64) rdEnd))) (fun x => (⟨x.1, x.2.1, x.2.2.1⟩ : Kep)) (fun k => (k.name, k.index, k.bytes, ())) (fun a => rfl)
def rdStep : Rd StepV := rdMap (rdPair (rdInt .i64) (rdPair (rdInt .i64) (rdPair (rdInt .i64) (rdPair (rdInt .i64) (rdPair rdStr (rdPair (rdSl (rdInt .u8)) (rdPair (rdInt .u8) (rdPair (rdSl rdKep) rdEnd))))))))
  (fun x => (⟨x.1, x.2.1, x.2.2.1, x.2.2.2.1, x.2.2.2.2.1, x.2.2.2.2.2.1, x.2.2.2.2.2.2.1, x.2.2.2.2.2.2.2.1⟩ : StepV)) (fun s => (s.op, s.i, s.at_, s.n, s.name, s.b, s.mask, s.kept, ())) (fun a => rfl)
def StepV.vals (s : StepV) : List Value := [.int .i64 s.op, .int .i64 s.i, .int .i64 s.at_, .int .i64 s.n, .string s.name, s.b.val, .int .u8 s.mask, s.kept.val]
structure StepV.Ok (W : World) (s : StepV) : Prop where
  op : wf64 s.op
  i : wf64 s.i
  at_ : wf64 s.at_
  n : wf64 s.n
  name : s.name.size ≤ maxLen
  mask : 0 ≤ s.mask ∧ s.mask ≤ 255
  b : s.b.l.length ≤ s.b.cap ∧ s.b.cap ≤ maxLen ∧ Cells W s.b.A (b8s s.b.l) ∧ Bytes s.b.l
  kept : s.kept.l.length ≤ s.kept.cap ∧ s.kept.cap ≤ maxLen ∧ Cells W s.kept.A (kepCells s.kept.l) ∧ ∀ k ∈ s.kept.l, k.name.size ≤ maxLen ∧ wf64 k.index ∧ wf64 k.bytes
def fullOf (b : List Int) : List Int := b.take 128 ++ z128.drop b.length
end Go.Proofs.YtnpinegpajbkeaaDoor
namespace Go.Proofs.YtnpinegpajbkeaaDoor
open Go.RowKit HP
def Dk.new (room : Int) : Dk := ⟨room, -1, []⟩
theorem Dk.new_fine {room : Int} (h : 0 ≤ room ∧ room ≤ 100000) : (Dk.new room).Fine :=
  ⟨List.Pairwise.nil, (fun x hx => by cases hx), (fun x hx => by cases hx), h, ⟨by show (-1 : Int) ≤ -1; omega, by show (-1 : Int) ≤ _; omega⟩, h.1⟩
theorem View.new {room : Int} (h : 0 ≤ room ∧ room ≤ 100000) : View (Dk.new room) #[] 0 [] :=
  ⟨⟨(fun x hx => by simp at hx), rfl, by simp, (fun x hx => by simp at hx), by simp⟩, fun s => rfl, Dk.new_fine h⟩
theorem disk_new_ok (E : Env) (q : HP) (room : Int) (w : World) (h : 0 ≤ room ∧ room ≤ 100000) (hw : Sat E w q) :
    Calls Tryd.prog 16 #[.int .i64 room] w fun e w' => ∃ d, e = .returned (.tuple #[.pointer (some ⟨d, 0, none⟩), .int .i64 0]) ∧ Sat E w' (HP.disk d (Dk.new room) * q) :=
  (disk_new E q room w h.1 h.2 hw).mono fun e w' ⟨d, m, he, hs⟩ => ⟨d, he, Sat.disk_close (m := m) (View.new h) (hs.perm (by
    unfold HP.dk
    simp only [List.map_nil, HP.all, HP.mul_emp]
    show _ = HP.dsk d room (-1) m * HP.pt m (.map #[] 0) * q
    rw [HP.mul_assoc]))⟩
section
variable {A : Dk} {s t : ByteArray} {i : Int} {b : List Int} {l : List Cel}
end
def readEnd (E : Env) (q : HP) (r : Option Cel) (e : Ending) (w' : World) : Prop :=
  match r with
  | none => e = .returned (.tuple #[.slice none 0 0, .int .i64 30]) ∧ Sat E w' q
  | some c => ∃ v, e = .returned (.tuple #[v, .int .i64 0]) ∧ Sat E w' (HP.row 5 1 v 128 (b8s c.read) * q)
theorem flat_get {α : Type} (f : α → List Value) (n : Nat) (l : List α) (hn : ∀ x, (f x).length = n) (i k : Nat) (x : α) (h : l[i]? = some x) (hk : k < n) : (l.flatMap f)[i * n + k]? = (f x)[k]? := by
  induction l generalizing i with
  | nil => simp at h
  | cons y l ih =>
    rw [List.flatMap_cons]
    cases i with
    | zero =>
      simp only [List.getElem?_cons_zero, Option.some.injEq] at h
      subst h
      rw [Nat.zero_mul, Nat.zero_add, List.getElem?_append_left (by rw [hn]; exact hk)]
    | succ i =>
      simp only [List.getElem?_cons_succ] at h
      rw [List.getElem?_append_right (by rw [hn, Nat.add_mul]; omega), hn, ← ih i h]
      congr 1
      rw [Nat.add_mul, Nat.one_mul]
      omega
end Go.Proofs.YtnpinegpajbkeaaDoor
namespace Go.Proofs.YtnpinegpajbkeaaDoor
open Go.RowKit HP
def quarterN (i : Nat) : Nat := [0, 1098587580, 2197175160, 3280807620].getD i 0
def crcQ (r : Nat) : Nat := r / 4 ^^^ quarterN (r % 4)
def crcI : Nat → Nat → Nat
  | 0, r => r
  | k + 1, r => crcQ (crcI k r)
def crcB (r x : Nat) : Nat := crcI 4 (r ^^^ x)
def crcL (r : Nat) (l : List Int) : Nat := l.foldl (fun r x => crcB r x.toNat) r
def crcMore (s : Nat) (l : List Int) : Nat := 4294967295 ^^^ crcL (4294967295 ^^^ s) l
def crcSum (l : List Int) : Nat := crcMore 0 l
def Quarter (w : World) : Prop := ∀ i : Nat, i < 4 → w.cell? ⟨0, i, none⟩ = some (.int .u32 (quarterN i))
def putD (n k : Nat) : Int := ((n / 256 ^ k % 256 : Nat) : Int)
def putI (n wd : Nat) : List Int := (List.range wd).map fun i => putD n (wd - 1 - i)
def getN (l : List Int) : Nat := l.foldl (fun n x => n * 256 + x.toNat) 0
end Go.Proofs.YtnpinegpajbkeaaDoor
namespace Go.Proofs.YtnpinegpajbkeaaDoor
open Go.RowKit HP
def strB (s : ByteArray) : List Int := s.data.toList.map fun b => (b.toNat : Int)
theorem Bytes.append {a b : List Int} (ha : Bytes a) (hb : Bytes b) : Bytes (a ++ b) := fun x hx => by
  rcases List.mem_append.1 hx with h | h
  · exact ha x h
  · exact hb x h
section
variable {P : Program} {E : Env} {q : HP} {w : World}
theorem Sat.ptCells {g : Nat} {t : TypeId} {L : List Value} {fr : Nat × Nat} (h : Sat E w (HP.pt g (.cells L.toArray t fr) * q)) {off : Nat} {l : List Value} (hs : (L.drop off).take l.length = l) : Cells w (some ⟨g, off, none⟩) l := fun j u hj => by
  refine ⟨_, rfl, ?_⟩
  rw [addr_add, h.cell]
  have hjl : j < l.length := (List.getElem?_eq_some_iff.1 hj).1
  rw [← hs, List.getElem?_take_of_lt hjl, List.getElem?_drop] at hj
  simpa using hj
end
end Go.Proofs.YtnpinegpajbkeaaDoor
namespace Go.Proofs.YtnpinegpajbkeaaDoor
open Go.RowKit HP
def extH (name : ByteArray) (index gen : Nat) (p : List Int) : List Int :=
  [229] ++ putI (crcSum (strB name)) 4 ++ putI index 4 ++ putI gen 8 ++ [(p.length : Int)] ++ p ++ List.replicate (106 - p.length) 0
def extI (name : ByteArray) (index gen : Nat) (p : List Int) : List Int := extH name index gen p ++ putI (crcSum (extH name index gen p)) 4
theorem Sat.row_cut {E : Env} {w : World} {q : HP} {e : TypeId} {size n m c : Nat} {A : Option Addr} {cs : List Value} (h : Sat E w (HP.row e size (.slice A n c) n cs * q)) (hm : m ≤ n) : Sat E w (HP.row e size (.slice A m c) m (cs.take (m * size)) * q) := by
  rcases h.row_cases with ⟨hl, ⟨A', hv, hn, hq⟩ | ⟨g, off, cap, cur, hv, hnc, hcm, hs, ht, hp⟩⟩
  · simp only [Value.slice.injEq] at hv
    obtain ⟨rfl, -, rfl⟩ := hv
    subst hn
    obtain rfl : m = 0 := by omega
    rw [Nat.zero_mul, List.take_zero]
    exact hq.row_nil e size A
  · simp only [Value.slice.injEq] at hv
    obtain ⟨rfl, -, rfl⟩ := hv
    refine hp.row_mk (by omega) hcm hs ?_
    rw [← ht, List.take_take]
    congr 1
    have := Nat.mul_le_mul_right size hm
    omega
end Go.Proofs.YtnpinegpajbkeaaDoor
namespace Go.Proofs.YtnpinegpajbkeaaDoor
section
variable {α : Type} {lt : α → α → Bool}
structure StrictO (lt : α → α → Bool) : Prop where
  irrefl : ∀ x, lt x x = false
  trans : ∀ {x y z}, lt x y = true → lt y z = true → lt x z = true
  total : ∀ {x y}, lt x y = false → lt y x = false → x = y
def Asc (lt : α → α → Bool) (l : List α) : Prop := l.Pairwise fun x y => lt x y = true
theorem StrictO.ne (h : StrictO lt) {x y : α} (hxy : lt x y = true) : x ≠ y := fun e => by subst e; rw [h.irrefl] at hxy; cases hxy
def compactL [DecidableEq α] : List α → List α
  | [] => []
  | [x] => [x]
  | x :: y :: l => if x = y then compactL (y :: l) else x :: compactL (y :: l)
theorem compact_mem [DecidableEq α] (z : α) : ∀ l : List α, z ∈ compactL l ↔ z ∈ l
  | [] => Iff.rfl
  | [x] => Iff.rfl
  | x :: y :: l => by
    unfold compactL
    have ih := compact_mem z (y :: l)
    split
    · rename_i e
      subst e
      rw [ih]; simp
    · rw [List.mem_cons, ih, List.mem_cons (a := z) (b := x)]
theorem compact_length [DecidableEq α] : ∀ l : List α, (compactL l).length ≤ l.length
  | [] => Nat.le_refl _
  | [x] => Nat.le_refl _
  | x :: y :: l => by
    unfold compactL
    have := compact_length (y :: l)
    split
    · simp only [List.length_cons] at this ⊢; omega
    · simp only [List.length_cons] at this ⊢; omega
end
end Go.Proofs.YtnpinegpajbkeaaDoor
namespace Go.Proofs.YtnpinegpajbkeaaDoor
open Go.RowKit HP
def FrameOk (index gen : Int) (n : Nat) : Prop := 0 ≤ index ∧ index ≤ 2147483647 ∧ 0 ≤ gen ∧ gen ≤ 4611686018427387904 ∧ n ≤ 106
instance (index gen : Int) (n : Nat) : Decidable (FrameOk index gen n) := by unfold FrameOk; infer_instance
def openI (b : List Int) (name : ByteArray) (index : Int) : Option (List Int × Nat) :=
  if b.length ≠ 128 ∨ 106 < b.getD 17 0 ∨ index < 0 ∨ 2147483647 < index then none else
  if 4611686018427387904 < getN ((b.drop 9).take 8) then none else
  if extI name index.toNat (getN ((b.drop 9).take 8)) ((b.drop 18).take (b.getD 17 0).toNat) ≠ b then none else
  some ((b.drop 18).take (b.getD 17 0).toNat, getN ((b.drop 9).take 8))
set_option maxHeartbeats 1000000 in
set_option maxRecDepth 100000 in
theorem disk_extents (E : Env) (q : HP) (d : Nat) (A : Dk) (name : ByteArray) (w : World) (hn : name.size ≤ maxLen) (hw : Sat E w (HP.disk d A * q)) :
    Calls Tryd.prog 48 #[.pointer (some ⟨d, 0, none⟩), .string name] w fun e w' => e = .returned (.int .i64 ((A.at name).length : Int)) ∧ w' = w := by
  obtain ⟨m, es, clock, fs, hv, hd⟩ := hw.disk_open
  have hsm := at_small hv.fine name
  obtain ⟨k, hk⟩ : ∃ k, k = (A.at name).length := ⟨_, rfl⟩
  simp only [← hk] at hsm ⊢
  clear hw
  go_enter Tryd.func48, Tryd.ntmps48
  go_wp2_with fail
  refine (disk_none E _ d _ _ m w (dk_parts hd)).mono ?_
  rintro e w1 ⟨rfl, rfl⟩
  have c1 := (dk_parts hd).cell 1
  simp only [List.getElem?_toArray, List.getElem?_cons_zero, List.getElem?_cons_succ] at c1
  obtain ⟨v, B, cc, hvB, hlook, -, -⟩ := find_file hv hd name hn
  rw [hvB] at hlook
  clear hvB hd hv
  rw [← hk] at hlook
  clear hk
  go_wp2
  go_ret
  exact ⟨rfl, rfl⟩
theorem disk_fuse_ok (E : Env) (q : HP) (d : Nat) (A : Dk) (n : Int) (w : World) (hn : n ≤ 9223372036854775807) (hw : Sat E w (HP.disk d A * q)) :
    Calls Tryd.prog 38 #[.pointer (some ⟨d, 0, none⟩), .int .i64 n] w fun e w' => (n < 0 ∧ e = .returned (.int .i64 1) ∧ Sat E w' (HP.disk d A * q)) ∨ (0 ≤ n ∧ e = .returned (.int .i64 0) ∧ Sat E w' (HP.disk d { A with fuse := n } * q)) := by
  obtain ⟨m, es, clock, fs, hv, hd⟩ := hw.disk_open
  refine (disk_fuse E _ d _ _ m n w (dk_parts hd)).mono ?_
  rintro e w' (⟨h1, rfl, rfl⟩ | ⟨h1, rfl, h⟩)
  · exact .inl ⟨h1, rfl, hw⟩
  · refine .inr ⟨h1, rfl, Sat.disk_close (m := m) (hv.fuel n ⟨by omega, hn⟩) (h.perm ?_)⟩
    unfold HP.dk
    ac_rfl
theorem disk_asked (E : Env) (q : HP) (d : Nat) (A : Dk) (w : World) (hw : Sat E w (HP.disk d A * q)) :
    Calls Tryd.prog 38 #[.pointer (some ⟨d, 0, none⟩), .int .i64 (-1)] w fun e w' => e = .returned (.int .i64 1) ∧ Sat E w' (HP.disk d A * q) :=
  (disk_fuse_ok E q d A (-1) w (by omega) hw).mono fun e w' h => by
    rcases h with ⟨_, he, hs⟩ | ⟨h0, _, _⟩
    · exact ⟨he, hs⟩
    · omega
def dotA : ByteArray := ⟨#[46, 97]⟩
def dotB : ByteArray := ⟨#[46, 98]⟩
def wrF (A : Dk) (f : ByteArray) (gen : Nat) : Nat → List (List Int) → Int × Dk
  | _, [] => A.sync f
  | i, p :: r =>
    if ¬ FrameOk i gen p.length then (1, A)
    else if (A.write f i (extI f i gen p)).1 = 0 then wrF (A.write f i (extI f i gen p)).2 f gen (i + 1) r
    else A.write f i (extI f i gen p)
def wrL (A : Dk) (i gen : Nat) (ps : List (List Int)) : List ByteArray → Int × Dk
  | [] => (0, A)
  | f :: r => if (wrF A f gen i ps).1 = 0 then wrL (wrF A f gen i ps).2 i gen ps r else wrF A f gen i ps
def halvesL (name : ByteArray) : List ByteArray := [name ++ dotA, name ++ dotB]
def wrP (A : Dk) (name : ByteArray) (i gen : Nat) (ps : List (List Int)) : Int × Dk := wrL A i gen ps (halvesL name)
def Sl.val8 (s : Sl Int) : Value := .slice s.A s.l.length s.cap
structure PayOk (s : Sl Int) : Prop where
  len : s.l.length ≤ s.cap
  bytes : Bytes s.l
def dot0 : ByteArray := ⟨#[46, 48]⟩
def dot1 : ByteArray := ⟨#[46, 49]⟩
def dot2 : ByteArray := ⟨#[46, 50]⟩
def dotP : ByteArray := ⟨#[46, 112]⟩
def stripesL (name : ByteArray) : List ByteArray := [name ++ dot0, name ++ dot1, name ++ dot2, name ++ dotP]
def groupsI (n : Int) : Int := if n ≤ 0 then 1 else (n - 1) / 105 / 3 + 1
set_option maxHeartbeats 1000000 in
set_option maxRecDepth 100000 in
theorem stripe_groups (n : Int) (w : World) (h : wf64 n) : Calls Tryd.prog 19 #[.int .i64 n] w fun e w' => e = .returned (.int .i64 (groupsI n)) ∧ w' = w := by
  unfold wf64 at h
  by_cases hn : n ≤ 0
  · go_enter Tryd.func19, Tryd.ntmps19
    go_wp2
    go_ret
    exact ⟨by unfold groupsI; rw [if_pos hn]; rfl, rfl⟩
  · have e1 : (n - 1).tdiv 105 = (n - 1) / 105 := Int.tdiv_eq_ediv_of_nonneg (by omega)
    have e2 : ((n - 1) / 105).tdiv 3 = (n - 1) / 105 / 3 := Int.tdiv_eq_ediv_of_nonneg (by omega)
    go_enter Tryd.func19, Tryd.ntmps19
    go_wp2
    go_ret
    exact ⟨by unfold groupsI; rw [if_neg (by omega)]; rfl, rfl⟩
def dropT (A : Dk) : List ByteArray → Int × Dk
  | [] => (0, A)
  | f :: r => if (A.at f).length = 0 then dropT A r else if (A.remove f).1 = 0 then dropT (A.remove f).2 r else A.remove f
def dropS (A : Dk) (name : ByteArray) : Int × Dk := dropT A (stripesL name)
def slotI (p : List Int) : List Int := (p.length : Int) :: (p ++ List.replicate (105 - p.length) 0)
def payI (k : Nat) (S : List Int) : List Int := if k = 3 then S else (S.drop 1).take (S.headD 0).toNat
def payEnd (E : Env) (q : HP) (k : Nat) (S : List Int) (e : Ending) (w' : World) : Prop :=
  ∃ A c m, ∃ R : HP, e = .returned (.slice A m c) ∧ (payI k S).length = m ∧ m ≤ 106 ∧ m ≤ c ∧ c ≤ maxLen ∧ Sat E w' (R * q) ∧ ∀ w'' q', Sat E w'' (R * q') → Cells w'' A (b8s (payI k S))
end Go.Proofs.YtnpinegpajbkeaaDoor
namespace Go.Proofs.YtnpinegpajbkeaaDoor
open Go.RowKit HP
def xorB (a b : Int) : Int := bits .xor .u8 a b
def xorAt (l : List Int) (k : Nat) (m : Int) : List Int := l.set k (xorB (l.getD k 0) m)
def Cel.rotd (c : Cel) (k : Nat) (m : Int) : Cel := if c.waits then { c with durable := xorAt c.durable k m } else { c with read := xorAt c.read k m, durable := xorAt c.durable k m }
def Dk.rot (A : Dk) (s : ByteArray) (i at_ m : Int) : Int × Dk :=
  match A.cel s i with
  | none => (30, A)
  | some c => if at_ < 0 ∨ 128 ≤ at_ then (1, A) else (0, A.set s ((A.at s).set i.toNat (c.rotd at_.toNat m)))
section
variable {E : Env} {q : HP} {w : World} {b : Nat} {c : Cel}
end
end Go.Proofs.YtnpinegpajbkeaaDoor
namespace Go.Proofs.YtnpinegpajbkeaaDoor
open Go.RowKit HP
def mixN (L : List Int) (off : Nat) (O : List Int) : Nat → List Int
  | 0 => L
  | i + 1 => (mixN L off O i).set (off + i) (xorB (L.getD (off + i) 0) (O.getD i 0))
def putP (A : Dk) (name : ByteArray) (i gen : Int) (p : List Int) : Int × Dk := if FrameOk i gen p.length then wrP A name i.toNat gen.toNat [p] else (1, A)
def dropL (A : Dk) : List ByteArray → Int × Dk
  | [] => (0, A)
  | f :: r => if (A.at f).length = 0 then dropL A r else if (A.remove f).1 = 0 then dropL (A.remove f).2 r else A.remove f
def dropP (A : Dk) (name : ByteArray) : Int × Dk := dropL A (halvesL name)
def needI (n : Int) : Int := if n ≤ 0 then 2 else 2 * ((n - 1) / 106 + 1)
end Go.Proofs.YtnpinegpajbkeaaDoor
namespace Go.Proofs.YtnpinegpajbkeaaDoor
open Go.RowKit Go.Shelf HP
attribute [local go_sem] Oper.semAt_some
def chunkN (n : Nat) : Nat := (n + 105) / 106
def chunkM (n k : Nat) : Nat := min 106 (n - 106 * k)
def chunkV (g o n k : Nat) : Value := .slice (some ⟨g, o + 106 * k, none⟩) (chunkM n k) (chunkM n k)
def Keep2 (b1 b2 : Nat) (W W' : World) : Prop := W'.heap[b1]? = W.heap[b1]? ∧ W'.heap[b2]? = W.heap[b2]?
theorem Keep2.trans {b1 b2 : Nat} {W X Y : World} (h : Keep2 b1 b2 W X) (k : Keep2 b1 b2 X Y) : Keep2 b1 b2 W Y := ⟨k.1.trans h.1, k.2.trans h.2⟩
end Go.Proofs.YtnpinegpajbkeaaDoor
namespace Go.Proofs.YtnpinegpajbkeaaDoor
open Go.RowKit Go.Shelf HP
attribute [local go_sem] Oper.semAt_some
end Go.Proofs.YtnpinegpajbkeaaDoor
namespace Go.Proofs.YtnpinegpajbkeaaDoor
open Go.RowKit HP
def piece (l : List Int) (k : Nat) : List Int := (l.drop (106 * k)).take 106
def piecesI (l : List Int) : List (List Int) := if l.length = 0 then [[]] else (List.range (chunkN l.length)).map (piece l)
def storeP (A : Dk) (name : ByteArray) (gen : Nat) (l : List Int) : Int × Dk := if (dropP A name).1 = 0 then wrP (dropP A name).2 name 0 gen (piecesI l) else dropP A name
def pieceS (g o : Nat) (l : List Int) (k : Nat) : Sl Int := ⟨some ⟨g, o + 106 * k, none⟩, chunkM l.length k, piece l k⟩
def getF (A : Dk) (i : Int) (st : Int × List Int) (f : ByteArray) : Int × List Int :=
  match A.cel f i with
  | none => st
  | some c => match openI c.read f i with
    | none => st
    | some x => if (x.2 : Int) ≤ st.1 then st else ((x.2 : Int), x.1)
def getP (A : Dk) (name : ByteArray) (i : Int) : Int × List Int := (halvesL name).foldl (getF A i) (-1, [])
def getEnd (st : Int × List Int) (v : Value) : Ending := if st.1 < 0 then .returned (.tuple #[.slice none 0 0, .int .i64 0, .int .i64 50]) else .returned (.tuple #[v, .int .i64 st.1, .int .i64 0])
end Go.Proofs.YtnpinegpajbkeaaDoor
namespace Go.Proofs.YtnpinegpajbkeaaDoor
open Go.RowKit HP
def stl (I : List Int) : Cel := ⟨I, I, I, I, false⟩
structure TwoNames (fa fb : ByteArray) : Prop where
  na : namedB fa = true
  nb : namedB fb = true
  ne : fa ≠ fb
  lt : ltN fa fb = true
  gt : ltN fb fa = false
def wr1 (A : Dk) (f : ByteArray) (i : Int) (I : List Int) : Int × Dk := if (A.write f i I).1 = 0 then (A.write f i I).2.sync f else A.write f i I
def put2 (A : Dk) (fa fb : ByteArray) (i : Int) (Ia Ib : List Int) : Int × Dk :=
  if (wr1 A fa i Ia).1 = 0 then (if (wr1 (wr1 A fa i Ia).2 fb i Ib).1 = 0 then (0, (wr1 (wr1 A fa i Ia).2 fb i Ib).2) else wr1 (wr1 A fa i Ia).2 fb i Ib) else wr1 A fa i Ia
def two (room fuse : Int) (fa fb : ByteArray) (a b : Cel) : Dk := ⟨room, fuse, [(fa, [a]), (fb, [b])]⟩
section
variable {fa fb : ByteArray} {Ia Ib : List Int} (T : TwoNames fa fb) (la : Ia.length = 128) (lb : Ib.length = 128)
include T la lb
end
def exS : ByteArray := ⟨#[120]⟩
end Go.Proofs.YtnpinegpajbkeaaDoor
namespace Go.Proofs.YtnpinegpajbkeaaDoor
open Go.RowKit HP
structure Fresh (A B : Dk) (f : ByteArray) (m : Nat) : Prop where
  sorted : Sorted B.files
  fuse : B.fuse = -1
  room : B.room = A.room
  size : sizeF B.files = sizeF A.files + m
  others : ∀ t, f ≠ t → B.at t = A.at t
def extN (A : Dk) (name : ByteArray) : Nat := (halvesL name).foldl (fun m f => max m (A.at f).length) 0
def loadG (A : Dk) (name : ByteArray) (gen : Int) : Nat → Nat → List Int → Option (List Int)
  | _, 0, out => some out
  | i, c + 1, out => if 0 ≤ (getP A name i).1 ∧ (getP A name i).1 = gen then loadG A name gen (i + 1) c (out ++ (getP A name i).2) else none
def loadP (A : Dk) (name : ByteArray) (gen : Int) : Option (List Int) := if extN A name = 0 then none else loadG A name gen 0 (extN A name) []
def loadEnd (E : Env) (q : HP) (r : Option (List Int)) (e : Ending) (w' : World) : Prop :=
  match r with
  | none => e = .returned (.tuple #[.slice none 0 0, .int .i64 50]) ∧ Sat E w' q
  | some l => ∃ v, e = .returned (.tuple #[v, .int .i64 0]) ∧ Sat E w' (HP.row 5 1 v l.length (b8s l) * q)
def newCels (f : ByteArray) (gen : Nat) : Nat → List (List Int) → List Cel
  | _, [] => []
  | i, p :: ps => Cel.zero.wrote (extI f i gen p) :: newCels f gen (i + 1) ps
structure Holds (B : Dk) (x : ByteArray) (gen : Nat) (ps : List (List Int)) : Prop where
  a : B.at (x ++ dotA) = (newCels (x ++ dotA) gen 0 ps).map Cel.syncd
  b : B.at (x ++ dotB) = (newCels (x ++ dotB) gen 0 ps).map Cel.syncd
def SumOk (b : List Int) : Prop := b.length = 128 ∧ b.drop 124 = putI (crcSum (b.take 124)) 4
structure LostEnd (B : Dk) (x : ByteArray) (k : Nat) : Prop where
  got : (getP B x k).1 < 0
  load : ∀ gen, loadP B x gen = none
  bytes : ∀ f ∈ halvesL x, ∀ i c, B.cel f i = some c → Bytes c.read
def partI (l : List Int) (e : Nat) : List Int := (l.drop (105 * e)).take 105
def zipX (a b : List Int) : List Int := List.zipWith xorB a b
def parI (l : List Int) (g : Nat) : Nat → List Int
  | 0 => List.replicate 106 0
  | k + 1 => zipX (parI l g k) (slotI (partI l (3 * g + k)))
def sec (G : List Int) (s : Nat) : List Int := (G.drop (106 * s)).take 106
def splS (G : List Int) (s : Nat) (S : List Int) : List Int := G.take (106 * s) ++ S ++ G.drop (106 * s + 106)
def payS (l : List Int) (g k : Nat) : List Int := if k = 3 then parI l g 3 else partI l (3 * g + k)
def paysS (l : List Int) (n k : Nat) : List (List Int) := (List.range n).map fun g => payS l g k
def stripeF (x : ByteArray) (k : Nat) : ByteArray := if k = 0 then x ++ dot0 else if k = 1 then x ++ dot1 else if k = 2 then x ++ dot2 else x ++ dotP
def groupsN (m : Nat) : Nat := if m = 0 then 1 else (m - 1) / 105 / 3 + 1
def wrT (A : Dk) (gen : Nat) : List (ByteArray × List (List Int)) → Int × Dk
  | [] => (0, A)
  | (f, ps) :: r => if (wrF A f gen 0 ps).1 = 0 then wrT (wrF A f gen 0 ps).2 gen r else wrF A f gen 0 ps
def fsS (name : ByteArray) (l : List Int) : List (ByteArray × List (List Int)) :=
  [(name ++ dot0, paysS l (groupsN l.length) 0), (name ++ dot1, paysS l (groupsN l.length) 1), (name ++ dot2, paysS l (groupsN l.length) 2), (name ++ dotP, paysS l (groupsN l.length) 3)]
def storeS (A : Dk) (name : ByteArray) (gen : Nat) (l : List Int) : Int × Dk := if (dropS A name).1 = 0 then wrT (dropS A name).2 gen (fsS name l) else dropS A name
structure Grp (l : List Int) (n : Nat) (G : List Int) (g k : Nat) : Prop where
  len : G.length = 424 * n
  slots : ∀ g' k', g' < n → k' < 3 → (g' < g ∨ g' = g ∧ k' < k) → sec G (4 * g' + k') = slotI (partI l (3 * g' + k'))
  par : ∀ g', g' < n → sec G (4 * g' + 3) = parI l g' (if g' < g then 3 else if g' = g then k else 0)
def slotZ : List Int := List.replicate 106 0
def readT (file : Nat) (p : List Int) : List Int × Bool := if file = 3 then (p ++ List.replicate (106 - p.length) 0, decide (p.length = 106)) else (slotI (p.take 105), decide (p.length ≤ 105))
def readS (A : Dk) (f : ByteArray) (file : Nat) (gen i : Int) : List Int × Bool :=
  match A.cel f i with
  | none => (slotZ, false)
  | some c => match openI c.read f i with
    | none => (slotZ, false)
    | some x => if (x.2 : Int) ≠ gen then (slotZ, false) else readT file x.1
def cutA (Ap : Option Addr) (c a : Nat) : Option Addr := if c = a then Ap else Ap.map (·.add a)
def gCells (G : List Int) (R : List Bool) (n : Nat) : List Value := b8s G ++ (R.map Value.bool ++ [.int .i64 n])
def slotOf (A : Dk) (x : ByteArray) (gen i : Int) (k : Nat) : List Int × Bool := readS A (stripeF x k) k gen i
def badN (A : Dk) (x : ByteArray) (gen i : Int) : Nat → Nat
  | 0 => 0
  | k + 1 => badN A x gen i k + (if (slotOf A x gen i k).2 = true then 0 else 1)
structure Looked (A : Dk) (x : ByteArray) (gen i : Int) (k : Nat) (G : List Int) (R : List Bool) (n : Nat) : Prop where
  len : G.length = 424
  rlen : R.length = 4
  slot : ∀ j, j < k → sec G j = (slotOf A x gen i j).1
  right : ∀ j, j < k → R[j]? = some (slotOf A x gen i j).2
  bad : n = badN A x gen i k
def xorO (f : Nat → List Int) (k : Nat) : Nat → List Int
  | 0 => List.replicate 106 0
  | j + 1 => if j = k then xorO f k j else zipX (xorO f k j) (f j)
def fineS (S : List Int) : Bool := decide (S.headD 0 ≤ 105) && (S.drop (1 + (S.headD 0).toNat)).all fun x => decide (x = 0)
def slotsL (A : Dk) (x : ByteArray) (gen i : Int) (j : Nat) : List Int := (slotOf A x gen i j).1
def missP (A : Dk) (x : ByteArray) (gen i : Int) (k : Nat) : List Int := xorO (slotsL A x gen i) k 4
def atF (A : Dk) (x : ByteArray) (gen i : Int) (k : Nat) : List Int × Bool :=
  if (slotOf A x gen i k).2 = true then ((slotOf A x gen i k).1, true)
  else if 1 < badN A x gen i 4 then (slotZ, false)
  else (missP A x gen i k, decide (k = 3) || fineS (missP A x gen i k))
def mend1 (A : Dk) (f : ByteArray) (i gen : Nat) (p : List Int) : (Bool × Int) × Dk :=
  if (A.write f i (extI f i gen p)).1 = 0 then
    ((decide (((A.write f i (extI f i gen p)).2.sync f).1 = 0), ((A.write f i (extI f i gen p)).2.sync f).1), ((A.write f i (extI f i gen p)).2.sync f).2)
  else ((false, (A.write f i (extI f i gen p)).1), (A.write f i (extI f i gen p)).2)
def firstBad (A : Dk) (x : ByteArray) (gen i : Int) : Option Nat := [0, 1, 2, 3].find? fun k => !(slotOf A x gen i k).2
def mendK (A : Dk) (x : ByteArray) (gen i : Int) : Option Nat → (Bool × Int) × Dk
  | none => ((false, 0), A)
  | some k => if (atF A x gen i k).2 = true then mend1 A (stripeF x k) i.toNat gen.toNat (payI k (atF A x gen i k).1) else ((false, 50), A)
def mendS (A : Dk) (x : ByteArray) (gen i : Int) : (Bool × Int) × Dk := if i < 0 ∨ 2147483647 < i then ((false, 1), A) else mendK A x gen i (firstBad A x gen i)
structure FilesEnd (A B : Dk) (gen : Nat) (fs : List (ByteArray × List (List Int))) : Prop where
  sorted : Sorted B.files
  fuse : B.fuse = -1
  room : B.room = A.room
  size : sizeF B.files = sizeF A.files + (fs.map fun x => x.2.length).sum
  others : ∀ t, (∀ x ∈ fs, x.1 ≠ t) → B.at t = A.at t
  held : ∀ x ∈ fs, B.at x.1 = (newCels x.1 gen 0 x.2).map Cel.syncd
structure FourNames (x : ByteArray) : Prop where
  n0 : namedB (x ++ dot0) = true
  n1 : namedB (x ++ dot1) = true
  n2 : namedB (x ++ dot2) = true
  n3 : namedB (x ++ dotP) = true
  ne : [x ++ dot0, x ++ dot1, x ++ dot2, x ++ dotP].Pairwise (· ≠ ·)
structure StHas (room : Int) (x : ByteArray) (gen : Nat) (l : List Int) (B : Dk) : Prop where
  eq : storeS (Dk.new room) x gen l = (0, B)
  sorted : Sorted B.files
  fuse : B.fuse = -1
  free : B.free = room - 4 * (groupsN l.length : Int)
  held : ∀ k, k < 4 → B.at (stripeF x k) = (newCels (stripeF x k) gen 0 (paysS l (groupsN l.length) k)).map Cel.syncd
def partM (at_ : Nat → Nat → List Int × Bool) : Nat → Nat → Nat → List Int → Option (List Int)
  | 0, _, _, out => some out
  | c + 1, fr, en, out =>
    if fr < en then
      if (at_ (fr / 105 / 3) (fr / 105 % 3)).2 = true ∧ ((fr % 105 + min (105 - fr % 105) (en - fr) : Nat) : Int) ≤ (at_ (fr / 105 / 3) (fr / 105 % 3)).1.headD 0 then
        partM at_ c (fr + min (105 - fr % 105) (en - fr)) en (out ++ ((at_ (fr / 105 / 3) (fr / 105 % 3)).1.drop (1 + fr % 105)).take (min (105 - fr % 105) (en - fr)))
      else none
    else some out
structure AtText (l : List Int) (at_ : Nat → Nat → List Int × Bool) : Prop where
  right : ∀ i k, k < 3 → (at_ i k).2 = true → (at_ i k).1 = slotI (partI l (3 * i + k))
def slotT (l : List Int) (i k : Nat) : List Int := if k = 3 then parI l i 3 else slotI (partI l (3 * i + k))
structure StRead (B : Dk) (x : ByteArray) (gen : Nat) (l : List Int) : Prop where
  right : ∀ i k, k < 4 → i < groupsN l.length → slotOf B x gen i k = (slotT l i k, true)
  none : ∀ i k, k < 4 → groupsN l.length ≤ i → slotOf B x gen i k = (slotZ, false)
  bytes : ∀ k, k < 4 → ∀ (i : Int) c, B.cel (stripeF x k) i = some c → Bytes c.read
def readO (A : Dk) (f : ByteArray) (i : Int) : List Int := match A.cel f i with | some c => c.read | none => []
def i8s (l : List Int) : List Value := l.map (Value.int .i64)
def nOk (lo n : Int) : Bool := decide (lo ≤ n) && decide (n ≤ 4611686018427387904)
def btw (lo : Int) (l : List Int) : Bool := l.all (nOk lo)
set_option maxHeartbeats 1000000 in
set_option maxRecDepth 100000 in
theorem btw_in (lo x : Int) (b : Nat) (w : World) (hb : w.cell? ⟨b, 0, none⟩ = some (.int .i64 lo)) :
    Calls Tryd.prog 100 #[.int .i64 x, .pointer (some ⟨b, 0, none⟩)] w fun e w' => e = .returned (.bool (!nOk lo x)) ∧ w' = w := by
  by_cases h1 : x < lo
  · have hr : nOk lo x = false := by unfold nOk; rw [decide_eq_false (by omega)]; rfl
    have HR := Aside.mk hr
    clear hr
    go_enter Tryd.func100, Tryd.ntmps100
    go_wp2
    go_ret
    rw [HR.out]
    exact ⟨rfl, rfl⟩
  · have hr : nOk lo x = decide (x ≤ 4611686018427387904) := by unfold nOk; rw [decide_eq_true (by omega)]; rfl
    by_cases h2 : 4611686018427387904 < x
    · have HR : Aside (nOk lo x = false) := ⟨by rw [hr, decide_eq_false (by omega)]⟩
      clear hr
      go_enter Tryd.func100, Tryd.ntmps100
      go_wp2
      go_ret
      rw [HR.out]
      exact ⟨rfl, rfl⟩
    · have HR : Aside (nOk lo x = true) := ⟨by rw [hr, decide_eq_true (by omega)]⟩
      clear hr
      go_enter Tryd.func100, Tryd.ntmps100
      go_wp2
      go_ret
      rw [HR.out]
      exact ⟨rfl, rfl⟩
theorem btw_take {lo : Int} {l : List Int} {k : Nat} {x : Int} (hx : l[k]? = some x) : btw lo (l.take (k + 1)) = (btw lo (l.take k) && nOk lo x) := by
  unfold btw
  rw [List.take_add_one, hx, List.all_append]
  simp
theorem btw_bad {lo : Int} {l : List Int} {k : Nat} {x : Int} (hx : l[k]? = some x) (h : nOk lo x = false) : btw lo l = false := by
  unfold btw
  rw [Bool.eq_false_iff]
  intro hn
  rw [List.all_eq_true] at hn
  have := hn x (List.mem_of_getElem? hx)
  rw [h] at this
  cases this
set_option maxHeartbeats 1000000 in
set_option maxRecDepth 100000 in
theorem index_fn (lo : Int) (g : Nat) (l : List Int) (n c b : Nat) (w : World) (hln : l.length = n) (hm : n ≤ 4611686018427387904) (hb : w.cell? ⟨b, 0, none⟩ = some (.int .i64 lo)) (hc : Cells w (some ⟨g, 0, none⟩) (i8s l)) :
    Calls Tryd.prog 117 #[.slice (some ⟨g, 0, none⟩) n c, .func (.func 100) #[] #[.pointer (some ⟨b, 0, none⟩)]] w fun e w' => (∃ i : Int, e = .returned (.int .i64 i) ∧ (if 0 ≤ i then btw lo l = false else btw lo l = true)) ∧ w' = w := by
  have HL := Aside.mk (And.intro hln hc)
  have Hb := Aside.mk hb
  clear hln hc hb
  go_enter Tryd.func117, Tryd.ntmps117
  go_wp2
  go_loopw [8] (fun v8 wr => ∃ k : Nat, k ≤ n ∧ v8 = .int .i64 k ∧ Aside (btw lo (l.take k) = true) ∧ wr = w) (fun i _ => n - (intOf i).toNat)
  case atStart => exact ⟨0, by omega, rfl, ⟨rfl⟩, rfl⟩
  case round =>
    obtain ⟨k, hk, rfl, HB, hwr⟩ := hrel
    subst wr
    by_cases hlt : k < n
    · have hlt2 : (k : Int) < n := by omega
      have hkl : k < l.length := by rw [HL.out.1]; exact hlt
      obtain ⟨x, hx⟩ : ∃ x, l[k]? = some x := ⟨_, List.getElem?_eq_getElem hkl⟩
      have gx : w.cell? ⟨g, k, none⟩ = some (.int .i64 x) := by
        have := HL.out.2.some_ k (.int .i64 x) (by unfold i8s; rw [List.getElem?_map, hx]; rfl)
        rw [addr_add, Nat.zero_add] at this
        exact this
      have HX := Aside.mk hx
      clear hx hkl
      cases hq : nOk lo x with
      | false =>
        have HQ : Aside (btw lo l = false) := ⟨btw_bad HX.out hq⟩
        go_wp2_with fail
        refine (btw_in lo x b _ Hb.out).mono ?_
        rintro e w1 ⟨rfl, hw1⟩
        subst w1
        rw [hq]
        go_wp2
        go_ret
        exact ⟨⟨_, rfl, by rw [if_pos (by omega)]; exact HQ.out⟩, rfl⟩
      | true =>
        have HQ : Aside (btw lo (l.take (k + 1)) = true) := ⟨by rw [btw_take HX.out, HB.out, hq]; rfl⟩
        go_wp2_with fail
        refine (btw_in lo x b _ Hb.out).mono ?_
        rintro e w1 ⟨rfl, hw1⟩
        subst w1
        rw [hq]
        go_wp2
        go_roundw
        case rel => exact ⟨k + 1, by omega, by push_cast; rfl, HQ, by first | rfl | trivial⟩
        case measure => simp [intOf]; omega
    · obtain rfl : k = n := by omega
      have HQ : Aside (btw lo l = true) := ⟨by have := HB.out; rwa [List.take_of_length_le (by rw [HL.out.1]; exact Nat.le_refl _)] at this⟩
      go_wp2
      go_ret
      exact ⟨⟨_, rfl, by rw [if_neg (by omega)]; exact HQ.out⟩, rfl⟩
set_option maxHeartbeats 1000000 in
set_option maxRecDepth 100000 in
theorem contains_fn (lo : Int) (g : Nat) (l : List Int) (n c b : Nat) (w : World) (hln : l.length = n) (hm : n ≤ 4611686018427387904) (hb : w.cell? ⟨b, 0, none⟩ = some (.int .i64 lo)) (hc : Cells w (some ⟨g, 0, none⟩) (i8s l)) :
    Calls Tryd.prog 99 #[.slice (some ⟨g, 0, none⟩) n c, .func (.func 100) #[] #[.pointer (some ⟨b, 0, none⟩)]] w fun e w' => e = .returned (.bool (!btw lo l)) ∧ w' = w := by
  have HI := Aside.mk (index_fn lo g l n c b w hln hm hb hc)
  clear hln hc hb
  go_enter Tryd.func99, Tryd.ntmps99
  go_wp2_with fail
  refine HI.out.mono ?_
  rintro e w1 ⟨⟨i, rfl, hi⟩, hw1⟩
  subst w1
  by_cases h0 : 0 ≤ i
  · rw [if_pos h0] at hi
    have HV := Aside.mk hi
    clear hi
    go_wp2
    go_ret
    rw [HV.out]
    exact ⟨rfl, rfl⟩
  · rw [if_neg h0] at hi
    have HV := Aside.mk hi
    clear hi
    go_wp2
    go_ret
    rw [HV.out]
    exact ⟨by show Ending.returned (Value.bool (decide (0 ≤ i))) = _; rw [decide_eq_false (by omega)]; rfl, rfl⟩
set_option maxHeartbeats 1000000 in
set_option maxRecDepth 100000 in
theorem between_ok (E : Env) (q : HP) (lo : Int) (g : Nat) (l : List Int) (n c : Nat) (w : World) (hln : l.length = n) (hm : n ≤ 4611686018427387904) (hq : ∀ w, Sat E w q → Cells w (some ⟨g, 0, none⟩) (i8s l)) (hw : Sat E w q) :
    Calls Tryd.prog 77 #[.int .i64 lo, .slice (some ⟨g, 0, none⟩) n c] w fun e w' => e = .returned (.bool (btw lo l)) ∧ Sat E w' q := by
  have h1 := hw.alloc (.cells #[.int .i64 lo] 3)
  have HI := Aside.mk (And.intro (contains_fn lo g l n c w.heap.size _ hln hm h1.cell1 (hq _ h1.right)) h1.right)
  clear hln hq hw h1
  go_enter Tryd.func77, Tryd.ntmps77
  go_wp2_with fail
  refine HI.out.1.mono ?_
  rintro e w1 ⟨rfl, hw1⟩
  subst w1
  go_wp2
  go_ret
  simp only [Bool.not_not]
  exact ⟨rfl, HI.out.2⟩
structure Anch where
  seq : Int
  gen : Int
  lsn : Int
  seg : Int
  ext : Int
  flo : Int
  new : Int
  keep : Int
  next : Int
  cur : Int
def Anch.l (a : Anch) : List Int := [a.seq, a.gen, a.lsn, a.seg, a.ext, a.flo, a.new, a.keep, a.next, a.cur]
def canA (a : Anch) : Bool := btw 1 [a.seq, a.gen, a.seg, a.next] && btw 0 [a.lsn, a.ext, a.keep, a.cur]
set_option maxHeartbeats 1000000 in
set_option maxRecDepth 100000 in
theorem can_ok (E : Env) (q : HP) (a : Anch) (w : World) (hw : Sat E w q) :
    Calls Tryd.prog 44 #[.agg #[.int .i64 a.seq, .int .i64 a.gen, .int .i64 a.lsn, .int .i64 a.seg, .int .i64 a.ext, .int .i64 a.flo, .int .i64 a.new, .int .i64 a.keep, .int .i64 a.next, .int .i64 a.cur]] w fun e w' => e = .returned (.bool (canA a)) ∧ Sat E w' q := by
  have h1 := (hw.alloc (.cells #[.int .i64 a.seq, .int .i64 a.gen, .int .i64 a.lsn, .int .i64 a.seg, .int .i64 a.ext, .int .i64 a.flo, .int .i64 a.new, .int .i64 a.keep, .int .i64 a.next, .int .i64 a.cur] 34))
  have h2 := h1.alloc (.cells #[.int .i64 a.seq, .int .i64 a.gen, .int .i64 a.seg, .int .i64 a.next] 3)
  have hz : (w.alloc (.cells #[.int .i64 a.seq, .int .i64 a.gen, .int .i64 a.lsn, .int .i64 a.seg, .int .i64 a.ext, .int .i64 a.flo, .int .i64 a.new, .int .i64 a.keep, .int .i64 a.next, .int .i64 a.cur] 34)).heap.size = w.heap.size + 1 := by simp
  rw [hz] at h2
  have H2 := Aside.mk h2
  have HC : Aside (canA a = (btw 1 [a.seq, a.gen, a.seg, a.next] && btw 0 [a.lsn, a.ext, a.keep, a.cur])) := ⟨rfl⟩
  clear hw h1 h2 hz
  go_enter Tryd.func44, Tryd.ntmps44
  go_wp2_with fail
  refine (between_ok E _ 1 (w.heap.size + 1) [a.seq, a.gen, a.seg, a.next] 4 4 _ rfl (by omega) (fun w h => Sat.ptCells (off := 0) (l := i8s [a.seq, a.gen, a.seg, a.next]) h rfl) H2.out).mono ?_
  rintro e w1 ⟨rfl, h3⟩
  cases hb : btw 1 [a.seq, a.gen, a.seg, a.next] with
  | false =>
    have H3 := Aside.mk h3.right.right
    rw [hb] at HC
    clear h3 hb H2
    go_wp2
    go_ret
    rw [HC.out]
    exact ⟨rfl, H3.out⟩
  | true =>
    have H3 := Aside.mk h3.right
    rw [hb] at HC
    have k0 := H3.out.cell 2
    have k1 := H3.out.cell 4
    have k2 := H3.out.cell 7
    have k3 := H3.out.cell 9
    simp only [List.getElem?_toArray, List.getElem?_cons_zero, List.getElem?_cons_succ] at k0 k1 k2 k3
    have H4 := Aside.mk (H3.out.alloc (.cells #[.int .i64 a.lsn, .int .i64 a.ext, .int .i64 a.keep, .int .i64 a.cur] 3))
    clear h3 hb H2
    go_wp2_with fail
    refine (between_ok E _ 0 w1.heap.size [a.lsn, a.ext, a.keep, a.cur] 4 4 _ rfl (by omega) (fun w h => Sat.ptCells (off := 0) (l := i8s [a.lsn, a.ext, a.keep, a.cur]) h rfl) H4.out).mono ?_
    rintro e w2 ⟨rfl, h5⟩
    have H5 := Aside.mk h5.right.right
    clear h5
    go_wp2
    go_ret
    rw [HC.out]
    exact ⟨rfl, H5.out⟩
end Go.Proofs.YtnpinegpajbkeaaDoor
namespace Go.Proofs.YtnpinegpajbkeaaDoor
open Go.ChangeShapes Go.WideShapes Go.ChangeAt Go.WideMaps Go.WideElems Go.RowKit HP
def laidAll : List (String × DataW Unit) := [("dryrot/crc.quarter", Rows.laid_dryrot_crc_quarter)]
end Go.Proofs.YtnpinegpajbkeaaDoor
namespace Go.Proofs.YtnpinegpajbkeaaDoor
open Go.ChangeShapes Go.WideShapes Go.ChangeAt Go.RowKit HP
theorem old_carry {E : Env} {W w : World} (h : Sat E w (HP.old W)) : ∀ k, k < W.heap.size → w.heap[k]? = W.heap[k]? := fun k hk => Sat.old_block (p := HP.emp) (by rw [HP.mul_emp]; exact h) k hk
theorem tab_old {E : Env} {W w : World} {name : String} {k : IntKind} {zs : List Int} (h : Lib.TabIs Tryd.prog W name k zs) (ho : Sat E w (HP.old W)) : Lib.TabIs Tryd.prog w name k zs := by
  unfold Lib.TabIs World.var? at *
  cases hg : Tryd.prog.globalNamed name with
  | none => simp [hg] at h
  | some g =>
    simp only [hg, Option.bind_some] at h ⊢
    have hlt : g < W.heap.size := by
      rcases Nat.lt_or_ge g W.heap.size with h' | h'
      · exact h'
      · rw [Array.getElem?_eq_none h'] at h; simp at h
    rw [old_carry ho g hlt]
    exact h
end Go.Proofs.YtnpinegpajbkeaaDoor
