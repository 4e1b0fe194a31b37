/- A law's arguments, read: whole numbers, bools, texts, slices, structs of these, to any depth. -/
import Derived.Test.YtgdcdcacccaanaaLaw
import Derived.Test.YtgdcdcacccaanaaRow
import Derived.Deep.Slices
import Derived.Deep.Fields
import Derived.ChangeSame
namespace Go.Proofs.Ytgdcdcacccaanaa
open Go.ChangeShapes Go.WideShapes Go.ChangeAt Go.RowKit HP
set_option linter.unusedVariables false
set_option linter.unusedSimpArgs false

/-- How a kind of data lies in cells, and what else memory says of it. -/
structure Rd (α : Type) where
  cells : α → List Value
  ok : World → α → Prop
  carry : ∀ {W W' : World} {a : α}, (∀ k, k < W.heap.size → W'.heap[k]? = W.heap[k]?) → ok W a → ok W' a
/-- What can be read at type t is of this kind. -/
def Rd.At {α : Type} (r : Rd α) (P : Program) (t : TypeId) : Prop :=
  ∀ {H : Type} {enc : TypeId × Value → H} {W : World} {fuel : Nat} {cs : List Value} {x : DataW H × List MemPlace}, DataW.trod enc P W 0 (fun _ => true) true fuel t cs = some x → ∃ a, cs = r.cells a ∧ r.ok W a
def rdInt (k : IntKind) : Rd Int := ⟨fun n => [.int k n], fun _ n => (Lit.int k n).wf = true, fun _ h => h⟩
def rdBool : Rd Bool := ⟨fun b => [.bool b], fun _ _ => True, fun _ h => h⟩
def rdStr : Rd ByteArray := ⟨fun s => [.string s], fun _ s => s.size ≤ maxLen, fun _ h => h⟩
/-- A slice: where, its capacity, its elements. -/
structure Sl (α : Type) where
  A : Option Addr
  cap : Nat
  l : List α
def Sl.val {α : Type} (s : Sl α) : Value := .slice s.A s.l.length s.cap
def rdSl {α : Type} (r : Rd α) : Rd (Sl α) :=
  ⟨fun s => [s.val], fun W s => s.l.length ≤ s.cap ∧ s.cap ≤ maxLen ∧ Cells W s.A (s.l.flatMap r.cells) ∧ ∀ x ∈ s.l, r.ok W x, fun hb h => ⟨h.1, h.2.1, h.2.2.1.carry hb, fun x hx => r.carry hb (h.2.2.2 x hx)⟩⟩
def rdPair {α β : Type} (r : Rd α) (s : Rd β) : Rd (α × β) := ⟨fun x => r.cells x.1 ++ s.cells x.2, fun W x => r.ok W x.1 ∧ s.ok W x.2, fun hb h => ⟨r.carry hb h.1, s.carry hb h.2⟩⟩
def rdEnd : Rd Unit := ⟨fun _ => [], fun _ _ => True, fun _ h => h⟩
def rdMap {α β : Type} (r : Rd α) (f : α → β) (g : β → α) (h : ∀ a, g (f a) = a) : Rd β := ⟨fun b => r.cells (g b), fun W b => r.ok W (g b), fun hb h => r.carry hb h⟩

section
variable {P : Program} {t : TypeId}
theorem rdInt_at {k : IntKind} (ht : P.underlying t = some (.int k)) : (rdInt k).At P t := by
  intro H enc W fuel cs x h
  obtain ⟨n, rfl, -, hw⟩ := DataW.trod_int ht h
  exact ⟨n, rfl, hw⟩
theorem rdBool_at (ht : P.underlying t = some .bool) : rdBool.At P t := by
  intro H enc W fuel cs x h
  obtain ⟨n, rfl, -⟩ := DataW.trod_bool ht h
  exact ⟨n, rfl, trivial⟩
theorem rdStr_at (ht : P.underlying t = some .string) : rdStr.At P t := by
  intro H enc W fuel cs x h
  obtain ⟨n, rfl, -, hw⟩ := DataW.trod_string ht h
  exact ⟨n, rfl, hw⟩
theorem choose_list {α : Type} (n : Nat) (p : Nat → α → Prop) (h : ∀ i, i < n → ∃ a, p i a) : ∃ l : List α, l.length = n ∧ ∀ (i : Nat) (a : α), l[i]? = some a → p i a := by
  induction n with
  | zero => exact ⟨[], rfl, fun i a h => by simp at h⟩
  | succ n ih =>
    obtain ⟨l, hl, hp⟩ := ih fun i hi => h i (by omega)
    obtain ⟨a, ha⟩ := h n (by omega)
    refine ⟨l ++ [a], by simp [hl], fun i b hb => ?_⟩
    rw [List.getElem?_append] at hb
    split at hb
    · exact hp i b hb
    · rename_i hlt
      have hi : i = n := by
        have := (List.getElem?_eq_some_iff.1 hb).1
        simp at this
        omega
      subst hi
      rw [hl, Nat.sub_self] at hb
      simp at hb
      subst hb; exact ha
theorem flat_at {α : Type} (f : α → List Value) (n : Nat) (l : List α) (hn : ∀ x ∈ l, (f x).length = n) : ∀ (j : Nat) (u : Value), (l.flatMap f)[j]? = some u → ∃ (i k : Nat) (x : α), l[i]? = some x ∧ k < n ∧ j = i * n + k ∧ (f x)[k]? = some u := by
  induction l with
  | nil => intro j u h; simp at h
  | cons x l ih =>
    intro j u h
    rw [List.flatMap_cons, List.getElem?_append] at h
    have hx := hn x (by simp)
    split at h
    · rename_i hlt
      exact ⟨0, j, x, rfl, by omega, by omega, h⟩
    · rename_i hlt
      obtain ⟨i, k, y, h1, h2, h3, h4⟩ := ih (fun y hy => hn y (by simp [hy])) _ _ h
      refine ⟨i + 1, k, y, by simpa using h1, h2, ?_, h4⟩
      rw [Nat.add_mul, Nat.one_mul]
      omega
theorem rdSl_at {α : Type} {r : Rd α} {e : TypeId} {n : Nat} (ht : P.underlying t = some (.slice e)) (hc : P.cellsOf e = n) (hr : r.At P e) : (rdSl r).At P t := by
  intro H enc W fuel cs x h
  rcases Go.Deep.open_slice ht h with ⟨rfl, -⟩ | ⟨a, len, cap, m, n', D, Pl, rfl, -, hl, hm, hmm, -, hi⟩
  · exact ⟨⟨none, 0, []⟩, rfl, Nat.le_refl _, Nat.zero_le _, Cells.nil _ _, fun x hx => by cases hx⟩
  · have hml : len ≤ m := by rw [hmm]; split <;> omega
    obtain ⟨l, hll, hp⟩ := choose_list len (fun i x => r.ok W x ∧ W.cells? 0 (a.add (i * n)) n = some (r.cells x)) fun i hil => by
      obtain ⟨cs', h1, h2⟩ := hi i (by omega)
      obtain ⟨x, rfl, hx⟩ := hr h2
      rw [hc] at h1
      exact ⟨x, hx, h1⟩
    have hlen : ∀ x ∈ l, (r.cells x).length = n := fun x hx => by
      obtain ⟨i, hi'⟩ := List.getElem?_of_mem hx
      exact (World.cells?_some (hp i x hi').2).2.1
    refine ⟨⟨some a, cap, l⟩, by simp [rdSl, Sl.val, hll], by simpa [hll] using hl, hm, fun j u hj => ⟨a, rfl, ?_⟩, fun x hx => ?_⟩
    · obtain ⟨i, k, x, h1, h2, h3, h4⟩ := flat_at r.cells n l hlen j u hj
      have h5 := (World.cells?_some (hp i x h1).2).2.2 k h2
      rw [h4, Cells.add_add] at h5
      rw [h3]; exact h5
    · obtain ⟨i, hi'⟩ := List.getElem?_of_mem hx
      exact (hp i x hi').1
/-- Fields one behind the other from a place on. -/
def Rd.Fs {α : Type} (r : Rd α) (P : Program) (fs : List Field) (off total : Nat) : Prop :=
  ∀ {H : Type} {enc : TypeId × Value → H} {W : World} {n : Nat} {cs : List Value}, (∀ f ∈ fs, ∃ y, DataW.trod enc P W 0 (fun _ => true) true n f.type ((cs.drop f.offset).take (P.cellsOf f.type)) = some y) → off + total = cs.length →
    ∃ a, cs.drop off = r.cells a ∧ r.ok W a
theorem rdEnd_fs (off : Nat) : rdEnd.Fs P [] off 0 := by
  intro H enc W n cs _ h
  exact ⟨(), by simp [rdEnd]; omega, trivial⟩
theorem rdPair_fs {α β : Type} {r : Rd α} {s : Rd β} {f : Field} {fs : List Field} {off size total : Nat} (hoff : f.offset = off) (hsz : P.cellsOf f.type = size) (hr : r.At P f.type) (hs : s.Fs P fs (off + size) total) : (rdPair r s).Fs P (f :: fs) off (size + total) := by
  intro H enc W n cs h hl
  obtain ⟨y, hy⟩ := h f (by simp)
  obtain ⟨a, ha, hoa⟩ := hr hy
  obtain ⟨b, hb, hob⟩ := hs (fun g hg => h g (by simp [hg])) (by omega)
  refine ⟨(a, b), ?_, hoa, hob⟩
  show cs.drop off = r.cells a ++ s.cells b
  rw [← ha, ← hb, hoff, hsz, ← List.drop_drop, List.take_append_drop]
theorem rdStruct_at {α β : Type} {r : Rd α} {fs : Array Field} {total : Nat} (ht : P.underlying t = some (.struct fs)) (hc : P.cellsOf t = total) (hr : r.Fs P fs.toList 0 total) (f : α → β) (g : β → α) (hg : ∀ a, g (f a) = a) : (rdMap r f g hg).At P t := by
  intro H enc W fuel cs x h
  obtain ⟨xs, n, -, -, hl, hxl, hf⟩ := DataW.trod_struct ht h
  obtain ⟨a, ha, hoa⟩ := hr (W := W) (n := n) (cs := cs) (fun fd hfd => by
    obtain ⟨i, hi⟩ := List.getElem?_of_mem hfd
    have hi' : fs[i]? = some fd := by simpa using hi
    have h1 := hf i fd hi'
    have hlt : i < xs.length := by rw [hxl]; exact (Array.getElem?_eq_some_iff.1 hi').1
    rw [List.getElem?_eq_getElem hlt] at h1
    exact ⟨_, h1⟩) (by omega)
  refine ⟨f a, ?_, ?_⟩
  · show cs = r.cells (g (f a))
    rw [hg, ← ha, List.drop_zero]
  · show r.ok W (g (f a))
    rw [hg]; exact hoa
/-- An argument read. -/
theorem Rd.arg {α : Type} {r : Rd α} (hr : r.At P t) {H : Type} {enc : TypeId × Value → H} {W : World} {v : Value} {d0 : DataW H} {p : List MemPlace} (h0 : DataW.Trod enc P W 0 (fun _ => true) true t v d0 p) : ∃ a, v.cells.toList = r.cells a ∧ r.ok W a := by
  obtain ⟨fuel, hf⟩ := h0
  exact hr hf
theorem sl_arg {α : Type} {r : Rd α} {e : TypeId} {base : Nat} (ht : P.underlying t = some (.slice e)) (hr : (rdSl r).At P t) {H : Type} {enc : TypeId × Value → H} {W : World} {v : Value} {d0 : DataW H} {p : List MemPlace} (hv : Value.okWide P W .any base t v) (h0 : DataW.Trod enc P W 0 (fun _ => true) true t v d0 p) : ∃ s : Sl α, v = s.val ∧ (rdSl r).ok W s := by
  obtain ⟨a0, len, cap, rfl⟩ := okWide_slice ht hv
  obtain ⟨s, hs, ho⟩ := Rd.arg hr h0
  refine ⟨s, ?_, ho⟩
  have : [Value.slice a0 len cap] = [s.val] := hs
  simpa using this
theorem int_arg {k : IntKind} {base : Nat} (ht : P.underlying t = some (.int k)) {H : Type} {enc : TypeId × Value → H} {W : World} {v : Value} {d0 : DataW H} {p : List MemPlace} (hv : Value.okWide P W .any base t v) (h0 : DataW.Trod enc P W 0 (fun _ => true) true t v d0 p) : ∃ n, v = .int k n ∧ (Lit.int k n).wf = true := by
  obtain ⟨n, rfl⟩ := okWide_int ht hv
  obtain ⟨s, hs, ho⟩ := Rd.arg (rdInt_at ht) h0
  have : [Value.int k n] = [.int k s] := hs
  simp at this
  subst this
  exact ⟨n, rfl, ho⟩
theorem bool_arg {base : Nat} (ht : P.underlying t = some .bool) {W : World} {v : Value} (hv : Value.okWide P W .any base t v) : ∃ b, v = .bool b := okWide_bool ht hv
theorem str_arg {base : Nat} (ht : P.underlying t = some .string) {H : Type} {enc : TypeId × Value → H} {W : World} {v : Value} {d0 : DataW H} {p : List MemPlace} (hv : Value.okWide P W .any base t v) (h0 : DataW.Trod enc P W 0 (fun _ => true) true t v d0 p) : ∃ s, v = .string s ∧ s.size ≤ maxLen := by
  obtain ⟨n, rfl⟩ := okWide_string ht hv
  obtain ⟨s, hs, ho⟩ := Rd.arg (rdStr_at ht) h0
  have : [Value.string n] = [.string s] := hs
  simp at this
  subst this
  exact ⟨n, rfl, ho⟩
theorem agg_arg {α : Type} {r : Rd α} {fs : Array Field} {base : Nat} (ht : P.underlying t = some (.struct fs)) (hr : r.At P t) {H : Type} {enc : TypeId × Value → H} {W : World} {v : Value} {d0 : DataW H} {p : List MemPlace} (hv : Value.okWide P W .any base t v) (h0 : DataW.Trod enc P W 0 (fun _ => true) true t v d0 p) : ∃ a, v = .agg (r.cells a).toArray ∧ r.ok W a := by
  obtain ⟨cs, rfl, -⟩ := okWide_struct ht hv
  obtain ⟨s, hs, ho⟩ := Rd.arg hr h0
  refine ⟨s, ?_, ho⟩
  have : cs.toList = r.cells s := hs
  rw [← this]
end
end Go.Proofs.Ytgdcdcacccaanaa
