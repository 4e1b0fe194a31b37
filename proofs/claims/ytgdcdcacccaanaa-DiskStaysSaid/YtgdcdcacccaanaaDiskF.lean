/- A disk's files, as an assertion; (*Disk).at. -/
import Derived.Test.YtgdcdcacccaanaaDiskN
import Derived.Test.YtgdcdcacccaanaaMapS
namespace Go.Proofs.Ytgdcdcacccaanaa
open Go.RowKit HP
set_option linter.unusedSimpArgs false
set_option linter.unusedVariables false

def b8s (l : List Int) : List Value := l.map (Value.int .u8)
/-- An extent: its four images, and whether it waits. -/
structure Cel where
  read : List Int
  durable : List Int
  synced : List Int
  written : List Int
  waits : Bool
def Cel.vals (c : Cel) : List Value := b8s c.read ++ (b8s c.durable ++ (b8s c.synced ++ (b8s c.written ++ [.bool c.waits])))
def HP.cel (b : Nat) (c : Cel) : HP := HP.pt b (.cells c.vals.toArray 81)
/-- A file: its name, the slice that the map holds, its extents and their blocks. -/
structure Fil where
  name : ByteArray
  val : Value
  cels : List (Nat × Cel)
def Fil.ptrs (f : Fil) : List Value := f.cels.map fun x => .pointer (some ⟨x.1, 0, none⟩)
def HP.fil (f : Fil) : HP := HP.row 77 1 f.val f.cels.length f.ptrs * HP.all (f.cels.map fun x => HP.cel x.1 x.2)
/-- The map's entries are the files; each entry's stamp is its own, and past. -/
def MapOf (es : Array MapEntry) (clock : Nat) (fs : List Fil) : Prop := StrKeys es ∧ es.toList.map (fun x => (x.key, x.val)) = fs.map (fun f => (Value.string f.name, f.val)) ∧ (fs.map (·.name)).Nodup ∧ (∀ x ∈ es.toList, x.born < clock) ∧ (es.toList.map (·.born)).Nodup
def cellAt (fs : List Fil) (name : ByteArray) (i : Int) : Option Addr :=
  match fs.find? (fun f => decide (f.name = name)) with
  | none => none
  | some f => if 0 ≤ i ∧ i < f.cels.length then (f.cels[i.toNat]?).map fun x => ⟨x.1, 0, none⟩ else none
theorem find_at {fs : List Fil} (hn : (fs.map (·.name)).Nodup) {j : Nat} {f : Fil} (h : fs[j]? = some f) : fs.find? (fun x => decide (x.name = f.name)) = some f := by
  induction fs generalizing j with
  | nil => simp at h
  | cons g fs ih =>
    simp only [List.map_cons, List.nodup_cons] at hn
    cases j with
    | zero =>
      simp only [List.getElem?_cons_zero, Option.some.injEq] at h
      subst h
      simp
    | succ j =>
      simp only [List.getElem?_cons_succ] at h
      have hm : f ∈ fs := List.mem_of_getElem? h
      rw [List.find?_cons_of_neg (by
        simp only [decide_eq_true_eq]
        intro he
        exact hn.1 (by rw [he]; exact List.mem_map.2 ⟨f, hm, rfl⟩))]
      exact ih hn.2 h
theorem all_take {l : List HP} {j : Nat} {p : HP} (h : l[j]? = some p) : HP.all l = p * HP.all (l.eraseIdx j) := by
  induction l generalizing j with
  | nil => simp at h
  | cons x l ih =>
    cases j with
    | zero =>
      simp only [List.getElem?_cons_zero, Option.some.injEq] at h
      subst h
      rfl
    | succ j =>
      simp only [List.getElem?_cons_succ] at h
      rw [HP.all_cons, ih h]
      simp only [List.eraseIdx_cons_succ, HP.all_cons]
      ac_rfl
theorem zero_cells (w : World) : (zeroValue 75).run Try.prog w = .ok (.slice none 0 0) w := by
  kernel_rfl
end Go.Proofs.Ytgdcdcacccaanaa
