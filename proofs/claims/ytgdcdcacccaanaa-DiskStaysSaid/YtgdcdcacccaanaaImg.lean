/- Aggregates of many cells: loads and stores whole; images and extents. -/
import Derived.Test.YtgdcdcacccaanaaCloneB
import Derived.Test.YtgdcdcacccaanaaDiskV
import Derived.Laws.Rows
import Derived.Laws.CopyRow
namespace Go.Proofs.Ytgdcdcacccaanaa
open Go.RowKit HP
set_option linter.unusedSimpArgs false
set_option linter.unusedVariables false

def aggD : TypeDesc → Bool
  | .struct _ => true
  | .array _ _ => true
  | _ => false
/-- An aggregate's type: its cells. -/
structure AgTy (P : Program) (ty : TypeId) (n : Nat) : Prop where
  under : ∃ d, P.underlying ty = some d ∧ aggD d = true
  info : (P.info? ty).map (·.size) = some n

section
variable {P : Program} {w : World} {ty : TypeId} {n : Nat}
theorem run_isAgg (T : AgTy P ty n) (w : World) : (isAgg ty).run P w = .ok true w := by
  obtain ⟨d, hu, hd⟩ := T.under
  unfold isAgg
  rw [Sem.run_bind, run_underlying hu w]
  cases d <;> simp_all [aggD]
theorem run_sizeOf' (T : AgTy P ty n) (w : World) : (sizeOf ty).run P w = .ok n w := by
  have h := T.info
  cases hq : P.info? ty with
  | none => simp [hq] at h
  | some i =>
    have hs : i.size = n := by simpa [hq] using h
    simp [sizeOf, typeInfo, hq, hs]
theorem run_loadAgg (T : AgTy P ty n) {a : Addr} {cs : List Value} (hl : cs.length = n) (hc : Cells w (some a) cs) : (loadVar ty a).run P w = .ok (.agg cs.toArray) w := by
  have hl' : (loadCells a cs.length).run P w = .ok cs.toArray w := run_loadCells_list (P := P) w a cs (fun j v hv => hc.some_ j v hv)
  rw [hl] at hl'
  simp [loadVar, Sem.run_bind, run_isAgg T, run_sizeOf' T, hl']
def splice (l : List Value) (off : Nat) (cs : List Value) : List Value := l.take off ++ cs ++ l.drop (off + cs.length)
theorem run_storeAgg (T : AgTy P ty n) {g off : Nat} {t : TypeId} {cur : Array Value} {cs : List Value} (hg : w.heap[g]? = some (.cells cur t (0, 0))) (hl : cs.length = n) (hfit : off + n ≤ cur.size) (h1 : cs.all Value.oneCell' = true) :
    (storeVar ty ⟨g, off, none⟩ (.agg cs.toArray)).run P w = .ok () (w.setRow g (splice cur.toList off cs).toArray) := by
  have hst := run_storeCells_at P g off t cs 0 cur w hg (by simpa [hl] using hfit) (List.all_eq_true.1 h1)
  simp only [Nat.add_zero] at hst
  have hcs : (Value.agg cs.toArray).cells = cs.toArray := rfl
  simp only [storeVar, Sem.run_bind, run_sizeOf' T, Result.andThen_ok, hcs, List.size_toArray, hl, ne_eq, not_true_eq_false, if_false]
  exact hst
theorem Sat.splice {E : Env} {q : HP} {g : Nat} {t : TypeId} {cur : Array Value} (h : Sat E w (pt g (.cells cur t) * q)) (l : List Value) : Sat E (w.setRow g l.toArray) (pt g (.cells l.toArray t) * q) :=
  h.turn ⟨rfl, rfl, rfl, by simp⟩ (setRow_heap w g cur _ t _ h.get) (fun k hk _ => setRow_other w g k _ hk)
theorem splice_mid (a b c cs : List Value) {off : Nat} (ho : off = a.length) (hl : cs.length = b.length) : splice (a ++ (b ++ c)) off cs = a ++ (cs ++ c) := by
  subst ho
  unfold splice
  rw [List.take_left', List.drop_append, hl, List.drop_append]
  · have e1 : a.drop (a.length + b.length) = [] := List.drop_eq_nil_of_le (by omega)
    have e2 : b.drop (a.length + b.length - a.length) = [] := List.drop_eq_nil_of_le (by omega)
    rw [e1, e2]
    simp
  · rfl
end

theorem run_arrayImg (a : Option Addr) (n c : Nat) (h : 128 ≤ n) (w : World) : (Instr.arrayAt 79 (.slice a n c)).run Try.prog w = .ok (.pointer a) w := by
  have : ¬ n < 128 := by omega
  simp [Instr.arrayAt, run_underlying Try.underlying79, this]
theorem agImg : AgTy Try.prog 79 128 := ⟨⟨_, Try.underlying79, rfl⟩, by kernel_rfl⟩
theorem agCel : AgTy Try.prog 81 513 := ⟨⟨_, Try.underlying81, rfl⟩, by kernel_rfl⟩
theorem b8s_length (l : List Int) : (b8s l).length = l.length := by simp [b8s]
theorem b8s_one (l : List Int) : (b8s l).all Value.oneCell' = true := by simp [b8s, Value.oneCell']
theorem Cel.vals_length {c : Cel} (h : c.Fine) : c.vals.length = 513 := by
  simp [Cel.vals, b8s_length, h.1, h.2.1, h.2.2.1, h.2.2.2]
theorem Cel.vals_one (c : Cel) : c.vals.all Value.oneCell' = true := by
  simp [Cel.vals, List.all_append, b8s_one, Value.oneCell']

section
variable {E : Env} {q : HP} {w : World} {b : Nat} {c : Cel}
theorem cel_part {off n : Nat} {l : List Value} (h : Sat E w (HP.cel b c * q)) (hs : (c.vals.drop off).take l.length = l) : Cells w (some ⟨b, off, none⟩) l := fun j u hj => by
  refine ⟨_, rfl, ?_⟩
  have h1 : Sat E w (HP.pt b (.cells c.vals.toArray 81) * q) := h
  rw [addr_add, h1.cell]
  have hjl : j < l.length := (List.getElem?_eq_some_iff.1 hj).1
  rw [← hs, List.getElem?_take_of_lt hjl, List.getElem?_drop] at hj
  simpa using hj
theorem cel_read (h : Sat E w (HP.cel b c * q)) (hf : c.Fine) : Cells w (some ⟨b, 0, none⟩) (b8s c.read) :=
  cel_part (n := 0) h (by simp [Cel.vals])
theorem cel_durable (h : Sat E w (HP.cel b c * q)) (hf : c.Fine) : Cells w (some ⟨b, 128, none⟩) (b8s c.durable) :=
  cel_part (n := 0) h (by
    unfold Cel.vals
    rw [List.drop_append_of_le_length (by simp [b8s_length, hf.1])]
    rw [List.drop_eq_nil_of_le (by simp [b8s_length, hf.1])]
    simp)
theorem cel_synced (h : Sat E w (HP.cel b c * q)) (hf : c.Fine) : Cells w (some ⟨b, 256, none⟩) (b8s c.synced) :=
  cel_part (n := 0) h (by
    unfold Cel.vals
    rw [← List.append_assoc, List.drop_append_of_le_length (by simp [b8s_length, hf.1, hf.2.1])]
    rw [List.drop_eq_nil_of_le (by simp [b8s_length, hf.1, hf.2.1])]
    simp)
theorem cel_written (h : Sat E w (HP.cel b c * q)) (hf : c.Fine) : Cells w (some ⟨b, 384, none⟩) (b8s c.written) :=
  cel_part (n := 0) h (by
    unfold Cel.vals
    rw [← List.append_assoc, ← List.append_assoc, List.drop_append_of_le_length (by simp [b8s_length, hf.1, hf.2.1, hf.2.2.1])]
    rw [List.drop_eq_nil_of_le (by simp [b8s_length, hf.1, hf.2.1, hf.2.2.1])]
    simp)
theorem cel_all (h : Sat E w (HP.cel b c * q)) : Cells w (some ⟨b, 0, none⟩) c.vals :=
  cel_part (n := 0) h (by simp)
theorem cel_waits (h : Sat E w (HP.cel b c * q)) (hf : c.Fine) : w.cell? ⟨b, 512, none⟩ = some (.bool c.waits) := by
  have h1 : Sat E w (HP.pt b (.cells c.vals.toArray 81) * q) := h
  rw [h1.cell]
  unfold Cel.vals
  rw [List.getElem?_toArray, ← List.append_assoc, ← List.append_assoc, ← List.append_assoc, List.getElem?_append_right (by simp [b8s_length, hf.1, hf.2.1, hf.2.2.1, hf.2.2.2])]
  simp [b8s_length, hf.1, hf.2.1, hf.2.2.1, hf.2.2.2]
theorem cel_thaw (h : Sat E w (HP.cel b c * q)) (i : Nat) : w.frozen? ⟨b, i, none⟩ = false := Sat.thaw (E := E) (q := q) (c := c.vals.toArray) (t := 81) h i

/-- One of the four images laid anew. -/
theorem cel_store {off : Nat} {l : List Int} {c' : Cel} (h : Sat E w (HP.cel b c * q)) (hf : c.Fine) (hl : l.length = 128) (hoff : off + 128 ≤ 513) (hs : splice c.vals off (b8s l) = c'.vals) :
    ∃ w', (storeVar 79 ⟨b, off, none⟩ (.agg (b8s l).toArray)).run Try.prog w = .ok () w' ∧ Sat E w' (HP.cel b c' * q) := by
  have h1 : Sat E w (HP.pt b (.cells c.vals.toArray 81) * q) := h
  have hr := run_storeAgg agImg (g := b) (off := off) (cs := b8s l) h1.get (by rw [b8s_length, hl]) (by simpa [Cel.vals_length hf] using hoff) (b8s_one l)
  refine ⟨_, hr, ?_⟩
  have h2 := h1.splice (splice c.vals off (b8s l))
  rw [hs] at h2
  rw [show splice c.vals.toArray.toList off (b8s l) = c'.vals from hs]
  exact h2
theorem set_read {l : List Int} (hf : c.Fine) (hl : l.length = 128) : splice c.vals 0 (b8s l) = ({ c with read := l } : Cel).vals := by
  have := splice_mid [] (b8s c.read) (b8s c.durable ++ (b8s c.synced ++ (b8s c.written ++ [.bool c.waits]))) (b8s l) (off := 0) rfl (by simp [b8s_length, hl, hf.1])
  simpa [Cel.vals] using this
theorem set_durable {l : List Int} (hf : c.Fine) (hl : l.length = 128) : splice c.vals 128 (b8s l) = ({ c with durable := l } : Cel).vals := by
  have := splice_mid (b8s c.read) (b8s c.durable) (b8s c.synced ++ (b8s c.written ++ [.bool c.waits])) (b8s l) (off := 128) (by simp [b8s_length, hf.1]) (by simp [b8s_length, hl, hf.2.1])
  simpa [Cel.vals] using this
theorem set_written {l : List Int} (hf : c.Fine) (hl : l.length = 128) : splice c.vals 384 (b8s l) = ({ c with written := l } : Cel).vals := by
  have := splice_mid (b8s c.read ++ (b8s c.durable ++ b8s c.synced)) (b8s c.written) [.bool c.waits] (b8s l) (off := 384) (by simp [b8s_length, hf.1, hf.2.1, hf.2.2.1]) (by simp [b8s_length, hl, hf.2.2.2])
  simpa [Cel.vals] using this
theorem cel_set_waits (h : Sat E w (HP.cel b c * q)) (hf : c.Fine) (x : Bool) : Sat E (w.setCell ⟨b, 512, none⟩ (.bool x)) (HP.cel b { c with waits := x } * q) := by
  have h1 : Sat E w (HP.pt b (.cells c.vals.toArray 81) * q) := h
  have h2 := h1.set (i := 512) (.bool x)
  have e : c.vals.toArray.setIfInBounds 512 (.bool x) = ({ c with waits := x } : Cel).vals.toArray := by
    rw [List.setIfInBounds_toArray]
    congr 1
    unfold Cel.vals
    rw [← List.append_assoc, ← List.append_assoc, ← List.append_assoc, List.set_append_right _ _ (by simp [b8s_length, hf.1, hf.2.1, hf.2.2.1, hf.2.2.2])]
    simp [b8s_length, hf.1, hf.2.1, hf.2.2.1, hf.2.2.2]
  rw [e] at h2
  exact h2
end
end Go.Proofs.Ytgdcdcacccaanaa
