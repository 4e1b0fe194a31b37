/- What calls make of a disk: plain lemmas. -/
import Derived.Test.YtgdcdcacccaanaaBy
namespace Go.Proofs.Ytgdcdcacccaanaa
open Go.RowKit HP
set_option linter.unusedSimpArgs false
set_option linter.unusedVariables false

def Dk.new (room : Int) : Dk := ⟨room, -1, []⟩
theorem Dk.new_fine {room : Int} (h : 0 ≤ room ∧ room ≤ 100000) : (Dk.new room).Fine :=
  ⟨List.Pairwise.nil, (fun x hx => by cases hx), (fun x hx => by cases hx), h, ⟨by show (-1 : Int) ≤ -1; omega, by show (-1 : Int) ≤ _; omega⟩, h.1⟩
theorem View.new {room : Int} (h : 0 ≤ room ∧ room ≤ 100000) : View (Dk.new room) #[] 0 [] :=
  ⟨⟨(fun x hx => by simp at hx), rfl, by simp, (fun x hx => by simp at hx), by simp⟩, fun s => rfl, Dk.new_fine h⟩
theorem disk_new_ok (E : Env) (q : HP) (room : Int) (w : World) (h : 0 ≤ room ∧ room ≤ 100000) (hw : Sat E w q) :
    Calls Try.prog 11 #[.int .i64 room] w fun e w' => ∃ d, e = .returned (.tuple #[.pointer (some ⟨d, 0, none⟩), .int .i64 0]) ∧ Sat E w' (HP.disk d (Dk.new room) * q) :=
  (disk_new E q room w h.1 h.2 hw).mono fun e w' ⟨d, m, he, hs⟩ => ⟨d, he, Sat.disk_close (m := m) (View.new h) (hs.perm (by
    unfold HP.dk
    simp only [List.map_nil, HP.all, HP.mul_emp]
    show _ = HP.dsk d room (-1) m * HP.pt m (.map #[] 0) * q
    rw [HP.mul_assoc]))⟩

section
variable {A : Dk} {s t : ByteArray} {i : Int} {b : List Int} {l : List Cel}
theorem at_set (hs : Sorted A.files) (l : List Cel) : (A.set s l).at t = if s = t then l else A.at t := by
  unfold Dk.at Dk.set
  rw [lk_put _ _ _ hs]
  split <;> rfl
theorem lk_set (hs : Sorted A.files) (l : List Cel) : lk (A.set s l).files t = if s = t then some l else lk A.files t := lk_put _ _ _ hs
theorem burnt_forever (h : A.fuse = -1) : A.burnt = A := by
  unfold Dk.burnt burnI
  rw [h]
  simp only [gt_iff_lt, Int.reduceNeg, Int.reduceLT, if_false]
  cases A
  simp only at h
  rw [h]
theorem goes_forever (h : A.fuse = -1) : A.goes = true := by
  unfold Dk.goes burnI
  rw [h]; rfl
theorem write_first (hn : namedB s = true) (hb : b.length = 128) (hat : A.at s = []) (hf : 0 < A.free) (hg : A.goes = true) : A.write s 0 b = (0, A.burnt.set s [Cel.zero.wrote b]) := by
  unfold Dk.write
  rw [if_neg (by simp [hn, hb, hat]), if_neg (by simp [hg]), if_neg (by omega), if_pos (by simp [hat]), hat]
  rfl
theorem write_other (hs : Sorted A.files) (hne : s ≠ t) : lk (A.write s i b).2.files t = lk A.files t := by
  unfold Dk.write
  split
  · rfl
  · split
    · rfl
    · split
      · rfl
      · split
        · show lk (A.burnt.set s _).files t = _
          rw [lk_set (A := A.burnt) hs, if_neg hne]; rfl
        · show lk (A.burnt.set s _).files t = _
          rw [lk_set (A := A.burnt) hs, if_neg hne]; rfl
theorem write_forever (h : A.fuse = -1) : (A.write s i b).2.fuse = -1 := by
  have e := burnt_forever h
  unfold Dk.write
  rw [e]
  split
  · exact h
  · split
    · exact h
    · split
      · exact h
      · split <;> exact h
theorem sync_some (hl : lk A.files s = some l) (hg : A.goes = true) : A.sync s = (0, A.burnt.set s (l.map Cel.syncd)) := by
  unfold Dk.sync
  rw [hl]
  simp [hg]
theorem cel_at (hl : lk A.files s = some l) (k : Nat) : A.cel s k = l[k]? := by
  unfold Dk.cel Dk.at
  rw [if_pos (by omega), hl]; rfl
end
theorem celAt_view {A : Dk} {es : Array MapEntry} {clock : Nat} {fs : List Fil} (hv : View A es clock fs) (s : ByteArray) (i : Int) : (celAt fs s i).map (·.2) = A.cel s i := by
  have h := hv.same s
  unfold celAt Dk.cel Dk.at
  unfold lkF at h
  cases hf : fs.find? (fun f => decide (f.name = s)) with
  | none =>
    rw [hf] at h
    rw [← h]
    simp
  | some f =>
    rw [hf] at h
    simp only [Option.map_some] at h
    rw [← h]
    simp only [Option.getD_some]
    by_cases h0 : 0 ≤ i
    · rw [if_pos h0]
      by_cases h1 : i < f.cels.length
      · rw [if_pos ⟨h0, h1⟩, Fil.cs, List.getElem?_map]
      · rw [if_neg (fun h => h1 h.2), Fil.cs, List.getElem?_map, List.getElem?_eq_none (by omega)]
    · rw [if_neg h0, if_neg (fun h => h0 h.1)]; rfl
def readEnd (E : Env) (q : HP) (r : Option Cel) (e : Ending) (w' : World) : Prop :=
  match r with
  | none => e = .returned (.tuple #[.slice none 0 0, .int .i64 30]) ∧ Sat E w' q
  | some c => ∃ v, e = .returned (.tuple #[v, .int .i64 0]) ∧ Sat E w' (HP.row 5 1 v 128 (b8s c.read) * q)
theorem disk_read_ok (E : Env) (q : HP) (d : Nat) (A : Dk) (name : ByteArray) (i : Int) (w : World) (hn : name.size ≤ maxLen) (hw : Sat E w (HP.disk d A * q)) :
    Calls Try.prog 16 #[.pointer (some ⟨d, 0, none⟩), .string name, .int .i64 i] w (readEnd E (HP.disk d A * q) (A.cel name i)) := by
  obtain ⟨m, es, clock, fs, hv, hd⟩ := hw.disk_open
  refine (disk_read E q d A.room A.fuse m es clock fs name i w hn hv.map hv.good hd).mono fun e w' h => ?_
  rw [← celAt_view hv]
  unfold readPost at h
  unfold readEnd
  cases hc : celAt fs name i with
  | none => rw [hc] at h; exact ⟨h.1, Sat.disk_close hv h.2⟩
  | some x =>
    rw [hc] at h
    obtain ⟨v, he, hs⟩ := h
    exact ⟨v, he, (Sat.disk_close (q := HP.row 5 1 v 128 (b8s x.2.read) * q) hv (hs.perm (HP.left_comm _ _ _))).perm (HP.left_comm _ _ _)⟩
/-- Elements of several cells. -/
theorem flat_get {α : Type} (f : α → List Value) (n : Nat) (l : List α) (hn : ∀ x, (f x).length = n) (i k : Nat) (x : α) (h : l[i]? = some x) (hk : k < n) : (l.flatMap f)[i * n + k]? = (f x)[k]? := by
  induction l generalizing i with
  | nil => simp at h
  | cons y l ih =>
    rw [List.flatMap_cons]
    cases i with
    | zero =>
      simp only [List.getElem?_cons_zero, Option.some.injEq] at h
      subst h
      rw [Nat.zero_mul, Nat.zero_add, List.getElem?_append_left (by rw [hn]; exact hk)]
    | succ i =>
      simp only [List.getElem?_cons_succ] at h
      rw [List.getElem?_append_right (by rw [hn, Nat.add_mul]; omega), hn, ← ih i h]
      congr 1
      rw [Nat.add_mul, Nat.one_mul]
      omega
theorem StepV.vals_length (s : StepV) : s.vals.length = 8 := rfl
end Go.Proofs.Ytgdcdcacccaanaa
