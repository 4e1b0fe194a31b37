/- Maps with any keys that obey a law: lookup, store. The keys that are extents. -/
import Derived.Test.YtgdcdcacccaanaaDiskSy
import Derived.DeepKeys5
namespace Go.Proofs.Ytgdcdcacccaanaa
open Go.RowKit HP
set_option linter.unusedSimpArgs false
set_option linter.unusedVariables false

section
variable {P : Program} {t k e : TypeId} {w : World} {b : Nat} {es : Array MapEntry} {clock : Nat}
def KeysOk (P : Program) (k : TypeId) (es : Array MapEntry) : Prop := ∀ x ∈ es.toList, ∃ l, keyOf P k x.key = some l
theorem lookup_law (K : WideMaps.KeyLaw P k) (ht : P.underlying t = some (.map k e)) {z : Value} (hz : (zeroValue e).run P w = .ok z w)
    (hb : w.heap[b]? = some (.map es clock)) (hes : KeysOk P k es) {key : Value} {kl : Lit} (hkey : keyOf P k key = some kl) :
    ((Instr.lookup t (.map (some b)) key false).run P w = .ok z w ∧ (Instr.lookup t (.map (some b)) key true).run P w = .ok (.tuple #[z, .bool false]) w ∧ ∀ x ∈ es.toList, x.key ≠ key) ∨
    ∃ (j : Nat) (x : MapEntry), es.toList[j]? = some x ∧ x.key = key ∧ (Instr.lookup t (.map (some b)) key false).run P w = .ok x.val w ∧ (Instr.lookup t (.map (some b)) key true).run P w = .ok (.tuple #[x.val, .bool true]) w := by
  rcases K.find w hkey es.toList hes with ⟨h1, h2⟩ | ⟨j, x, h1, h2, h3⟩
  · refine .inl ⟨?_, ?_, h2⟩
    · simp [Instr.lookup, run_underlying ht, MapKept.run_getObj_map hb, K.check w _ hkey, h1, hz, Result.andThen]
    · simp [Instr.lookup, run_underlying ht, MapKept.run_getObj_map hb, K.check w _ hkey, h1, hz, Result.andThen]
  · refine .inr ⟨j, x, h2, h3, ?_, ?_⟩
    · simp [Instr.lookup, run_underlying ht, MapKept.run_getObj_map hb, K.check w _ hkey, h1, Result.andThen]
    · simp [Instr.lookup, run_underlying ht, MapKept.run_getObj_map hb, K.check w _ hkey, h1, Result.andThen]
theorem update_law (K : WideMaps.KeyLaw P k) (ht : P.underlying t = some (.map k e)) (hb : w.heap[b]? = some (.map es clock)) (hes : KeysOk P k es) {key : Value} {kl : Lit} (hkey : keyOf P k key = some kl) (v : Value) :
    ((∀ x ∈ es.toList, x.key ≠ key) ∧ (Instr.mapUpdate t (.map (some b)) key v).run P w = .ok () (ChangeMaps.setBlock w b (.map (es.push ⟨key, v, clock⟩) (clock + 1)))) ∨
    ∃ (j : Nat) (x : MapEntry), es.toList[j]? = some x ∧ x.key = key ∧ (Instr.mapUpdate t (.map (some b)) key v).run P w = .ok () (ChangeMaps.setBlock w b (.map (es.modify j fun e => { e with key := key, val := v }) clock)) := by
  rcases K.find w hkey es.toList hes with ⟨h1, h2⟩ | ⟨j, x, h1, h2, h3⟩
  · exact .inl ⟨h2, by simp [Instr.mapUpdate, run_underlying ht, MapKept.run_getObj_map hb, K.check w _ hkey, h1, MapKept.run_setObj_map _ hb, Result.andThen, ChangeMaps.setBlock]⟩
  · have hj : es[j]? = some x := by simpa using h2
    exact .inr ⟨j, x, h2, h3, by simp [Instr.mapUpdate, run_underlying ht, MapKept.run_getObj_map hb, K.check w _ hkey, h1, hj, h3, K.stays w hkey, MapKept.run_setObj_map _ hb, Result.andThen, ChangeMaps.setBlock]⟩
end

/-- An extent's place as a key. -/
def spotV (s : ByteArray) (i : Int) : Value := .agg #[.string s, .int .i64 i]
def wf64 (i : Int) : Prop := -9223372036854775808 ≤ i ∧ i ≤ 9223372036854775807
theorem wf64_lit {i : Int} (h : wf64 i) : (Lit.int .i64 i).wf = true := by
  obtain ⟨h1, h2⟩ := h
  simp [Lit.wf, IntKind.min, IntKind.max, IntKind.signed, IntKind.bits]
  omega
theorem spot_keyType : Try.prog.keyType 47 = true := by kernel_rfl
theorem laid_prog : laidOutB Try.prog = true := by kernel_rfl
theorem spot_law : WideMaps.KeyLaw Try.prog 47 := deep_law_gate laid_prog (of_decide_eq_true (by kernel_rfl)) (of_decide_eq_true (by kernel_rfl)) spot_keyType (by kernel_rfl)
theorem spot_key {s : ByteArray} {i : Int} (hs : s.size ≤ maxLen) (hi : wf64 i) : ∃ l, keyOf Try.prog 47 (spotV s i) = some l := by
  have hu := Try.underlying47
  have hw := wf64_lit hi
  have c1 : Try.prog.cellsOf 47 = 2 := by kernel_rfl
  have c2 : Try.prog.cellsOf 9 = 1 := by kernel_rfl
  have c3 : Try.prog.cellsOf 3 = 1 := by kernel_rfl
  obtain ⟨m, hm⟩ : ∃ m, Try.prog.types.size = m + 1 := ⟨Try.prog.types.size - 1, by kernel_rfl⟩
  unfold keyOf spotV
  simp only [hu]
  rw [if_pos (by simp [spot_keyType, Value.formed, hu, c1])]
  unfold Program.keyLits
  simp only [hu, Value.cells]
  rw [if_pos ⟨by rw [c1]; rfl, by kernel_rfl⟩, hm]
  simp only [List.mapM_cons, List.mapM_nil]
  simp [Program.keyLits, Try.underlying9, Try.underlying3, c2, c3, hs, hw]
theorem spotV_inj {s t : ByteArray} {i j : Int} (h : spotV s i = spotV t j) : s = t ∧ i = j := by
  unfold spotV at h
  simp only [Value.agg.injEq, Array.mk.injEq, List.cons.injEq, Value.string.injEq, Value.int.injEq, and_true, true_and] at h
  first
    | exact h
    | simpa using h
/-- A map from extents to numbers: what each has, 0 where none is. -/
structure SpotMap (es : Array MapEntry) (f : ByteArray → Int → Int) : Prop where
  keys : ∀ x ∈ es.toList, ∃ s i, x.key = spotV s i ∧ s.size ≤ maxLen ∧ wf64 i ∧ x.val = .int .i64 (f s i)
  none : ∀ s i, (∀ x ∈ es.toList, x.key ≠ spotV s i) → f s i = 0
  apart : ∀ (i j : Nat) (x y : MapEntry), es.toList[i]? = some x → es.toList[j]? = some y → x.key = y.key → i = j
theorem SpotMap.empty : SpotMap #[] (fun _ _ => 0) := ⟨fun x hx => by simp at hx, fun _ _ _ => rfl, fun i j x y h => by simp at h⟩
theorem SpotMap.ok {es : Array MapEntry} {f : ByteArray → Int → Int} (h : SpotMap es f) : KeysOk Try.prog 47 es := fun x hx => by
  obtain ⟨s, i, hk, hs, hi, _⟩ := h.keys x hx
  rw [hk]; exact spot_key hs hi
open Classical in
/-- One laid anew. -/
noncomputable def spotPut (f : ByteArray → Int → Int) (s : ByteArray) (i v : Int) : ByteArray → Int → Int := fun t j => if t = s ∧ j = i then v else f t j
theorem SpotMap.push {es : Array MapEntry} {f : ByteArray → Int → Int} (h : SpotMap es f) {s : ByteArray} {i v : Int} {clock : Nat} (hs : s.size ≤ maxLen) (hi : wf64 i) (hn : ∀ x ∈ es.toList, x.key ≠ spotV s i) : SpotMap (es.push ⟨spotV s i, .int .i64 v, clock⟩) (spotPut f s i v) := by
  refine ⟨fun x hx => ?_, fun t j hno => ?_, fun a b x y hx hy he => ?_⟩
  · simp only [Array.toList_push, List.mem_append, List.mem_singleton] at hx
    rcases hx with hx | rfl
    · obtain ⟨t, j, hk, ht, hj, hv⟩ := h.keys x hx
      refine ⟨t, j, hk, ht, hj, ?_⟩
      have hne : ¬ (t = s ∧ j = i) := fun ⟨h1, h2⟩ => hn x hx (by rw [hk, h1, h2])
      simp only [spotPut, if_neg hne, hv]
    · exact ⟨s, i, rfl, hs, hi, by simp [spotPut]⟩
  · have h1 : ∀ x ∈ es.toList, x.key ≠ spotV t j := fun x hx => hno x (by simp [Array.toList_push, hx])
    have h2 : spotV s i ≠ spotV t j := hno ⟨spotV s i, .int .i64 v, clock⟩ (by simp [Array.toList_push])
    have hne : ¬ (t = s ∧ j = i) := fun ⟨h3, h4⟩ => h2 (by rw [h3, h4])
    simp only [spotPut, if_neg hne]
    exact h.none t j h1
  · rw [Array.toList_push, List.getElem?_append] at hx hy
    split at hx <;> split at hy
    · exact h.apart a b x y hx hy he
    · rename_i h1 h2
      have : y = ⟨spotV s i, .int .i64 v, clock⟩ := by
        rcases Nat.eq_or_lt_of_le (Nat.le_of_not_lt h2) with h3 | h3
        · rw [← h3, Nat.sub_self] at hy; simpa using hy.symm
        · rw [List.getElem?_eq_none (by simp only [List.length_cons, List.length_nil]; omega)] at hy; cases hy
      subst this
      exact absurd he (hn x (List.mem_of_getElem? hx))
    · rename_i h1 h2
      have : x = ⟨spotV s i, .int .i64 v, clock⟩ := by
        rcases Nat.eq_or_lt_of_le (Nat.le_of_not_lt h1) with h3 | h3
        · rw [← h3, Nat.sub_self] at hx; simpa using hx.symm
        · rw [List.getElem?_eq_none (by simp only [List.length_cons, List.length_nil]; omega)] at hx; cases hx
      subst this
      exact absurd he.symm (hn y (List.mem_of_getElem? hy))
    · rename_i h1 h2
      have e1 : a = es.toList.length := by
        rcases Nat.eq_or_lt_of_le (Nat.le_of_not_lt h1) with h3 | h3
        · exact h3.symm
        · rw [List.getElem?_eq_none (by simp only [List.length_cons, List.length_nil]; omega)] at hx; cases hx
      have e2 : b = es.toList.length := by
        rcases Nat.eq_or_lt_of_le (Nat.le_of_not_lt h2) with h3 | h3
        · exact h3.symm
        · rw [List.getElem?_eq_none (by simp only [List.length_cons, List.length_nil]; omega)] at hy; cases hy
      omega
theorem SpotMap.set {es : Array MapEntry} {f : ByteArray → Int → Int} (h : SpotMap es f) {s : ByteArray} {i v : Int} {j : Nat} {x0 : MapEntry} (hj : es.toList[j]? = some x0) (hx0 : x0.key = spotV s i) : SpotMap (es.modify j fun e => { e with key := spotV s i, val := .int .i64 v }) (spotPut f s i v) := by
  obtain ⟨s', i', hk, hs, hi, -⟩ := h.keys x0 (List.mem_of_getElem? hj)
  obtain ⟨rfl, rfl⟩ := spotV_inj (hk.symm.trans hx0)
  have hat : ∀ a, (es.modify j fun e => { e with key := spotV s' i', val := .int .i64 v }).toList[a]? = if j = a then (es.toList[a]?).map (fun e => { e with key := spotV s' i', val := .int .i64 v }) else es.toList[a]? := by
    intro a
    rw [Array.toList_modify, List.getElem?_modify]
    split <;> simp
  refine ⟨fun x hx => ?_, fun t m hno => ?_, fun a b x y hx hy he => ?_⟩
  · obtain ⟨a, ha⟩ := List.getElem?_of_mem hx
    rw [hat] at ha
    split at ha
    · rename_i he
      subst he
      rw [hj] at ha
      simp only [Option.map_some, Option.some.injEq] at ha
      subst ha
      exact ⟨s', i', rfl, hs, hi, by simp [spotPut]⟩
    · rename_i hne
      obtain ⟨t, m, hk', ht, hm, hv⟩ := h.keys x (List.mem_of_getElem? ha)
      refine ⟨t, m, hk', ht, hm, ?_⟩
      have hne' : ¬ (t = s' ∧ m = i') := fun ⟨h1, h2⟩ => hne (h.apart j a x0 x hj ha (by rw [hx0, hk', h1, h2]))
      simp only [spotPut, if_neg hne', hv]
  · have hne' : ¬ (t = s' ∧ m = i') := fun ⟨h1, h2⟩ => by
      have := hat j
      rw [if_pos rfl, hj] at this
      exact hno _ (List.mem_of_getElem? this) (by rw [h1, h2])
    simp only [spotPut, if_neg hne']
    refine h.none t m fun x hx hke => ?_
    obtain ⟨a, ha⟩ := List.getElem?_of_mem hx
    by_cases hja : j = a
    · subst hja
      rw [hj] at ha; cases ha
      obtain ⟨h1, h2⟩ := spotV_inj (hx0.symm.trans hke)
      exact hne' ⟨h1.symm, h2.symm⟩
    · have := hat a
      rw [if_neg hja, ha] at this
      exact hno x (List.mem_of_getElem? this) hke
  · have key : ∀ (c : Nat) (z : MapEntry), (es.modify j fun e => { e with key := spotV s' i', val := .int .i64 v }).toList[c]? = some z → ∃ z' : MapEntry, es.toList[c]? = some z' ∧ z'.key = z.key := by
      intro c z hz
      rw [hat] at hz
      split at hz
      · rename_i he
        subst he
        rw [hj] at hz
        simp only [Option.map_some, Option.some.injEq] at hz
        subst hz
        exact ⟨x0, hj, hx0⟩
      · exact ⟨z, hz, rfl⟩
    obtain ⟨x', hx', ex⟩ := key a x hx
    obtain ⟨y', hy', ey⟩ := key b y hy
    exact h.apart a b x' y' hx' hy' (by rw [ex, ey, he])
theorem SpotMap.update {es : Array MapEntry} {clock : Nat} {f : ByteArray → Int → Int} (h : SpotMap es f) {w : World} {b : Nat} (hb : w.heap[b]? = some (.map es clock)) {s : ByteArray} {i v : Int} (hs : s.size ≤ maxLen) (hi : wf64 i) :
    ∃ es' clock', (Instr.mapUpdate 83 (.map (some b)) (spotV s i) (.int .i64 v)).run Try.prog w = .ok () (ChangeMaps.setBlock w b (.map es' clock')) ∧ SpotMap es' (spotPut f s i v) := by
  obtain ⟨l, hl⟩ := spot_key hs hi
  rcases update_law spot_law Try.underlying83 hb h.ok hl (.int .i64 v) with ⟨h1, h2⟩ | ⟨j, x, h1, h2, h3⟩
  · exact ⟨_, _, h2, h.push hs hi h1⟩
  · exact ⟨_, _, h3, h.set h1 h2⟩
theorem SpotMap.lookup {es : Array MapEntry} {clock : Nat} {f : ByteArray → Int → Int} (h : SpotMap es f) {w : World} {b : Nat} (hb : w.heap[b]? = some (.map es clock)) {s : ByteArray} {i : Int} (hs : s.size ≤ maxLen) (hi : wf64 i) :
    (Instr.lookup 83 (.map (some b)) (spotV s i) false).run Try.prog w = .ok (.int .i64 (f s i)) w := by
  obtain ⟨l, hl⟩ := spot_key hs hi
  rcases lookup_law spot_law Try.underlying83 (z := .int .i64 0) (by kernel_rfl) hb h.ok hl with ⟨h1, -, h2⟩ | ⟨j, x, h1, h2, h3, -⟩
  · rw [h.none s i h2]; exact h1
  · obtain ⟨s', i', hk, -, -, hv⟩ := h.keys x (List.mem_of_getElem? h1)
    obtain ⟨rfl, rfl⟩ := spotV_inj (hk.symm.trans h2)
    rw [h3, hv]
end Go.Proofs.Ytgdcdcacccaanaa
