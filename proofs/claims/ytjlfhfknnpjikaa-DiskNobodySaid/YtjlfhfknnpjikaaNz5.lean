/- Texts of one claim, one behind the other: DiskM, Awk3, Nones, Full, NobW3, PTie. -/
import Derived.Test.YtjlfhfknnpjikaaNz4
/- What calls make of a disk: plain lemmas. -/
namespace Go.Proofs.Ytjlfhfknnpjikaa
open Go.RowKit HP
set_option linter.unusedSimpArgs false
set_option linter.unusedVariables false

def Dk.new (room : Int) : Dk := ⟨room, -1, []⟩
theorem Dk.new_fine {room : Int} (h : 0 ≤ room ∧ room ≤ 100000) : (Dk.new room).Fine :=
  ⟨List.Pairwise.nil, (fun x hx => by cases hx), (fun x hx => by cases hx), h, ⟨by show (-1 : Int) ≤ -1; omega, by show (-1 : Int) ≤ _; omega⟩, h.1⟩
theorem View.new {room : Int} (h : 0 ≤ room ∧ room ≤ 100000) : View (Dk.new room) #[] 0 [] :=
  ⟨⟨(fun x hx => by simp at hx), rfl, by simp, (fun x hx => by simp at hx), by simp⟩, fun s => rfl, Dk.new_fine h⟩
theorem disk_new_ok (E : Env) (q : HP) (room : Int) (w : World) (h : 0 ≤ room ∧ room ≤ 100000) (hw : Sat E w q) :
    Calls Try.prog 10 #[.int .i64 room] w fun e w' => ∃ d, e = .returned (.tuple #[.pointer (some ⟨d, 0, none⟩), .int .i64 0]) ∧ Sat E w' (HP.disk d (Dk.new room) * q) :=
  (disk_new E q room w h.1 h.2 hw).mono fun e w' ⟨d, m, he, hs⟩ => ⟨d, he, Sat.disk_close (m := m) (View.new h) (hs.perm (by
    unfold HP.dk
    simp only [List.map_nil, HP.all, HP.mul_emp]
    show _ = HP.dsk d room (-1) m * HP.pt m (.map #[] 0) * q
    rw [HP.mul_assoc]))⟩

section
variable {A : Dk} {s t : ByteArray} {i : Int} {b : List Int} {l : List Cel}
theorem at_set (hs : Sorted A.files) (l : List Cel) : (A.set s l).at t = if s = t then l else A.at t := by
  unfold Dk.at Dk.set
  rw [lk_put _ _ _ hs]
  split <;> rfl
theorem lk_set (hs : Sorted A.files) (l : List Cel) : lk (A.set s l).files t = if s = t then some l else lk A.files t := lk_put _ _ _ hs
theorem burnt_forever (h : A.fuse = -1) : A.burnt = A := by
  unfold Dk.burnt burnI
  rw [h]
  simp only [gt_iff_lt, Int.reduceNeg, Int.reduceLT, if_false]
  cases A
  simp only at h
  rw [h]
theorem goes_forever (h : A.fuse = -1) : A.goes = true := by
  unfold Dk.goes burnI
  rw [h]; rfl
theorem write_first (hn : namedB s = true) (hb : b.length = 128) (hat : A.at s = []) (hf : 0 < A.free) (hg : A.goes = true) : A.write s 0 b = (0, A.burnt.set s [Cel.zero.wrote b]) := by
  unfold Dk.write
  rw [if_neg (by simp [hn, hb, hat]), if_neg (by simp [hg]), if_neg (by omega), if_pos (by simp [hat]), hat]
  rfl
theorem write_other (hs : Sorted A.files) (hne : s ≠ t) : lk (A.write s i b).2.files t = lk A.files t := by
  unfold Dk.write
  split
  · rfl
  · split
    · rfl
    · split
      · rfl
      · split
        · show lk (A.burnt.set s _).files t = _
          rw [lk_set (A := A.burnt) hs, if_neg hne]; rfl
        · show lk (A.burnt.set s _).files t = _
          rw [lk_set (A := A.burnt) hs, if_neg hne]; rfl
theorem write_forever (h : A.fuse = -1) : (A.write s i b).2.fuse = -1 := by
  have e := burnt_forever h
  unfold Dk.write
  rw [e]
  split
  · exact h
  · split
    · exact h
    · split
      · exact h
      · split <;> exact h
theorem sync_some (hl : lk A.files s = some l) (hg : A.goes = true) : A.sync s = (0, A.burnt.set s (l.map Cel.syncd)) := by
  unfold Dk.sync
  rw [hl]
  simp [hg]
theorem cel_at (hl : lk A.files s = some l) (k : Nat) : A.cel s k = l[k]? := by
  unfold Dk.cel Dk.at
  rw [if_pos (by omega), hl]; rfl
end
theorem celAt_view {A : Dk} {es : Array MapEntry} {clock : Nat} {fs : List Fil} (hv : View A es clock fs) (s : ByteArray) (i : Int) : (celAt fs s i).map (·.2) = A.cel s i := by
  have h := hv.same s
  unfold celAt Dk.cel Dk.at
  unfold lkF at h
  cases hf : fs.find? (fun f => decide (f.name = s)) with
  | none =>
    rw [hf] at h
    rw [← h]
    simp
  | some f =>
    rw [hf] at h
    simp only [Option.map_some] at h
    rw [← h]
    simp only [Option.getD_some]
    by_cases h0 : 0 ≤ i
    · rw [if_pos h0]
      by_cases h1 : i < f.cels.length
      · rw [if_pos ⟨h0, h1⟩, Fil.cs, List.getElem?_map]
      · rw [if_neg (fun h => h1 h.2), Fil.cs, List.getElem?_map, List.getElem?_eq_none (by omega)]
    · rw [if_neg h0, if_neg (fun h => h0 h.1)]; rfl
def readEnd (E : Env) (q : HP) (r : Option Cel) (e : Ending) (w' : World) : Prop :=
  match r with
  | none => e = .returned (.tuple #[.slice none 0 0, .int .i64 30]) ∧ Sat E w' q
  | some c => ∃ v, e = .returned (.tuple #[v, .int .i64 0]) ∧ Sat E w' (HP.row 5 1 v 128 (b8s c.read) * q)
theorem disk_read_ok (E : Env) (q : HP) (d : Nat) (A : Dk) (name : ByteArray) (i : Int) (w : World) (hn : name.size ≤ maxLen) (hw : Sat E w (HP.disk d A * q)) :
    Calls Try.prog 14 #[.pointer (some ⟨d, 0, none⟩), .string name, .int .i64 i] w (readEnd E (HP.disk d A * q) (A.cel name i)) := by
  obtain ⟨m, es, clock, fs, hv, hd⟩ := hw.disk_open
  refine (disk_read E q d A.room A.fuse m es clock fs name i w hn hv.map hv.good hd).mono fun e w' h => ?_
  rw [← celAt_view hv]
  unfold readPost at h
  unfold readEnd
  cases hc : celAt fs name i with
  | none => rw [hc] at h; exact ⟨h.1, Sat.disk_close hv h.2⟩
  | some x =>
    rw [hc] at h
    obtain ⟨v, he, hs⟩ := h
    exact ⟨v, he, (Sat.disk_close (q := HP.row 5 1 v 128 (b8s x.2.read) * q) hv (hs.perm (HP.left_comm _ _ _))).perm (HP.left_comm _ _ _)⟩
/-- Elements of several cells. -/
theorem flat_get {α : Type} (f : α → List Value) (n : Nat) (l : List α) (hn : ∀ x, (f x).length = n) (i k : Nat) (x : α) (h : l[i]? = some x) (hk : k < n) : (l.flatMap f)[i * n + k]? = (f x)[k]? := by
  induction l generalizing i with
  | nil => simp at h
  | cons y l ih =>
    rw [List.flatMap_cons]
    cases i with
    | zero =>
      simp only [List.getElem?_cons_zero, Option.some.injEq] at h
      subst h
      rw [Nat.zero_mul, Nat.zero_add, List.getElem?_append_left (by rw [hn]; exact hk)]
    | succ i =>
      simp only [List.getElem?_cons_succ] at h
      rw [List.getElem?_append_right (by rw [hn, Nat.add_mul]; omega), hn, ← ih i h]
      congr 1
      rw [Nat.add_mul, Nat.one_mul]
      omega
theorem StepV.vals_length (s : StepV) : s.vals.length = 8 := rfl
end Go.Proofs.Ytjlfhfknnpjikaa
/- awake of layer 3: what was synced is read behind a crash. -/
namespace Go.Proofs.Ytjlfhfknnpjikaa
open Go.RowKit HP
set_option linter.unusedSimpArgs false
set_option linter.unusedVariables false

def aS : ByteArray := ⟨#[97]⟩
theorem aS_named : namedB aS = true := by kernel_rfl
def sevens : List Int := List.replicate 128 7
theorem sevens_length : sevens.length = 128 := List.length_replicate
def aA : Dk := (Dk.new 3).set aS [Cel.zero.wrote sevens]
def aB : Dk := ⟨3, -1, [(aS, [⟨sevens, sevens, sevens, sevens, false⟩])]⟩
theorem aw1 : (Dk.new 3).write aS 0 sevens = (0, aA) := write_first aS_named sevens_length rfl (by show (0 : Int) < 3; omega) rfl
theorem aw2 : aA.sync aS = (0, aB) := by
  have := sync_some (A := aA) (s := aS) (l := [Cel.zero.wrote sevens]) (by simp [aA, Dk.set, Dk.new, putF, lk_cons]) rfl
  rw [this]; rfl
theorem aw3 : aB.crash [] = aB := rfl
theorem aw4 : aB.cel aS 0 = some ⟨sevens, sevens, sevens, sevens, false⟩ := by simp [aB, Dk.cel, Dk.at, lk_cons]
set_option maxHeartbeats 4000000 in
set_option maxRecDepth 100000 in
theorem awake3_ok (E : Env) (q : HP) (w : World) (hw : Sat E w q) :
    Calls Try.prog 31 #[] w fun e w' => e = .returned (.bool true) ∧ Sat E w' q := by
  have HQ := Aside.mk hw
  clear hw
  go_enter Try.func31, Try.ntmps31
  go_wp2_with fail
  refine (disk_new_ok E q 3 _ ⟨by omega, by omega⟩ HQ.out).mono ?_
  rintro e w1 ⟨d, rfl, h1⟩
  have H1 := Aside.mk h1
  clear h1
  go_wp2_with fail
  refine (repeat_ok E _ (some ⟨w1.heap.size, 0, none⟩) 7 1 _ (fun w h => Sat.ptCells (off := 0) (L := b8s [7]) h rfl) (H1.out.alloc (.cells (b8s [7]).toArray 5))).mono ?_
  rintro e w2 ⟨g, rfl, h2⟩
  have H2 : Aside (Sat E w2 (HP.disk d (Dk.new 3) * (HP.row 5 1 (.slice (some ⟨g, 0, none⟩) 128 128) 128 (b8s sevens) * q))) := ⟨(h2.perm (by ac_rfl : _ = HP.pt w1.heap.size (.cells (b8s [7]).toArray 5) * (HP.disk d (Dk.new 3) * (HP.row 5 1 (.slice (some ⟨g, 0, none⟩) 128 128) 128 (b8s (List.replicate 128 7)) * q)))).right⟩
  clear h2 H1
  have HB : Aside (Bytes sevens) := ⟨fun x hx => by have := List.eq_of_mem_replicate hx; omega⟩
  go_wp2_with fail
  refine (disk_write E _ d (Dk.new 3) aS 0 (some ⟨g, 0, none⟩) sevens 128 128 _ (by decide) sevens_length (by unfold maxLen; omega) (fun w h => h.row_cells) H2.out).mono ?_
  rw [aw1]
  rintro e w3 ⟨rfl, h3⟩
  have H3 := Aside.mk h3
  clear h3 H2
  go_wp2_with fail
  refine (disk_sync E _ d _ aS _ (by decide) H3.out).mono ?_
  rw [aw2]
  rintro e w4 ⟨rfl, h4⟩
  have H4 := Aside.mk h4
  clear h4 H3
  go_wp2_with fail
  refine (disk_crash E _ d aB none [] 0 _ (by decide) (by simp) (fun E w _ => Cells.nil _ _) H4.out).mono ?_
  rw [aw3]
  rintro e w5 ⟨rfl, h5⟩
  have H5 := Aside.mk h5
  clear h5 H4
  go_wp2_with fail
  refine (disk_read_ok E _ d aB aS 0 _ (by decide) H5.out).mono ?_
  rw [aw4]
  rintro e w6 ⟨vR, rfl, h6⟩
  obtain ⟨AR, cR, rfl, hcR, -⟩ := h6.row_slice
  have H6 := Aside.mk h6
  clear h6 H5
  go_wp2_with fail
  refine (bytesEq_ok AR (some ⟨g, 0, none⟩) sevens sevens 128 128 cR 128 _ sevens_length sevens_length H6.out.row_cells H6.out.right.right.row_cells HB.out HB.out).mono ?_
  rintro e w7 ⟨rfl, rfl⟩
  rw [decide_eq_true rfl]
  go_wp2
  go_ret
  exact ⟨rfl, H6.out.right.right.right⟩
end Go.Proofs.Ytjlfhfknnpjikaa
/- A disk that no call made: what every call answers. -/
namespace Go.Proofs.Ytjlfhfknnpjikaa
open Go.RowKit HP
set_option linter.unusedSimpArgs false
set_option linter.unusedVariables false

set_option maxHeartbeats 1000000 in
set_option maxRecDepth 100000 in
theorem none_write (p : Value) (s : ByteArray) (i : Int) (v : Value) (w : World) (hn : Calls Try.prog 35 #[p] w fun e w' => e = .returned (.bool true) ∧ w' = w) : Calls Try.prog 11 #[p, .string s, .int .i64 i, v] w fun e w' => e = .returned (.int .i64 2) ∧ w' = w := by
  go_enter Try.func11, Try.ntmps11
  go_wp2_with fail
  refine hn.mono ?_
  rintro e w1 ⟨rfl, rfl⟩
  clear hn
  go_wp2
  go_ret
  exact ⟨rfl, rfl⟩
set_option maxHeartbeats 1000000 in
set_option maxRecDepth 100000 in
theorem none_sync (p : Value) (s : ByteArray) (w : World) (hn : Calls Try.prog 35 #[p] w fun e w' => e = .returned (.bool true) ∧ w' = w) : Calls Try.prog 12 #[p, .string s] w fun e w' => e = .returned (.int .i64 2) ∧ w' = w := by
  go_enter Try.func12, Try.ntmps12
  go_wp2_with fail
  refine hn.mono ?_
  rintro e w1 ⟨rfl, rfl⟩
  clear hn
  go_wp2
  go_ret
  exact ⟨rfl, rfl⟩
set_option maxHeartbeats 1000000 in
set_option maxRecDepth 100000 in
theorem none_remove (p : Value) (s : ByteArray) (w : World) (hn : Calls Try.prog 35 #[p] w fun e w' => e = .returned (.bool true) ∧ w' = w) : Calls Try.prog 27 #[p, .string s] w fun e w' => e = .returned (.int .i64 2) ∧ w' = w := by
  go_enter Try.func27, Try.ntmps27
  go_wp2_with fail
  refine hn.mono ?_
  rintro e w1 ⟨rfl, rfl⟩
  clear hn
  go_wp2
  go_ret
  exact ⟨rfl, rfl⟩
set_option maxHeartbeats 1000000 in
set_option maxRecDepth 100000 in
theorem none_rot (p : Value) (s : ByteArray) (i k m : Int) (w : World) (hn : Calls Try.prog 35 #[p] w fun e w' => e = .returned (.bool true) ∧ w' = w) : Calls Try.prog 13 #[p, .string s, .int .i64 i, .int .i64 k, .int .u8 m] w fun e w' => e = .returned (.int .i64 2) ∧ w' = w := by
  go_enter Try.func13, Try.ntmps13
  go_wp2_with fail
  refine hn.mono ?_
  rintro e w1 ⟨rfl, rfl⟩
  clear hn
  go_wp2
  go_ret
  exact ⟨rfl, rfl⟩
set_option maxHeartbeats 1000000 in
set_option maxRecDepth 100000 in
theorem none_fuse (p : Value) (n : Int) (w : World) (hn : Calls Try.prog 35 #[p] w fun e w' => e = .returned (.bool true) ∧ w' = w) : Calls Try.prog 34 #[p, .int .i64 n] w fun e w' => e = .returned (.int .i64 2) ∧ w' = w := by
  go_enter Try.func34, Try.ntmps34
  go_wp2_with fail
  refine hn.mono ?_
  rintro e w1 ⟨rfl, rfl⟩
  clear hn
  go_wp2
  go_ret
  exact ⟨rfl, rfl⟩
set_option maxHeartbeats 1000000 in
set_option maxRecDepth 100000 in
theorem none_read (p : Value) (s : ByteArray) (i : Int) (w : World) (hn : Calls Try.prog 35 #[p] w fun e w' => e = .returned (.bool true) ∧ w' = w) : Calls Try.prog 14 #[p, .string s, .int .i64 i] w fun e w' => e = .returned (.tuple #[.slice none 0 0, .int .i64 2]) ∧ w' = w := by
  go_enter Try.func14, Try.ntmps14
  go_wp2_with fail
  refine hn.mono ?_
  rintro e w1 ⟨rfl, rfl⟩
  clear hn
  go_wp2
  go_ret2
  exact ⟨rfl, rfl⟩
set_option maxHeartbeats 1000000 in
set_option maxRecDepth 100000 in
theorem none_extents (p : Value) (s : ByteArray) (w : World) (hn : Calls Try.prog 35 #[p] w fun e w' => e = .returned (.bool true) ∧ w' = w) : Calls Try.prog 20 #[p, .string s] w fun e w' => e = .returned (.int .i64 0) ∧ w' = w := by
  go_enter Try.func20, Try.ntmps20
  go_wp2_with fail
  refine hn.mono ?_
  rintro e w1 ⟨rfl, rfl⟩
  clear hn
  go_wp2
  go_ret
  exact ⟨rfl, rfl⟩
set_option maxHeartbeats 1000000 in
set_option maxRecDepth 100000 in
theorem none_free (p : Value)  (w : World) (hn : Calls Try.prog 35 #[p] w fun e w' => e = .returned (.bool true) ∧ w' = w) : Calls Try.prog 33 #[p] w fun e w' => e = .returned (.int .i64 0) ∧ w' = w := by
  go_enter Try.func33, Try.ntmps33
  go_wp2_with fail
  refine hn.mono ?_
  rintro e w1 ⟨rfl, rfl⟩
  clear hn
  go_wp2
  go_ret
  exact ⟨rfl, rfl⟩
set_option maxHeartbeats 1000000 in
set_option maxRecDepth 100000 in
theorem none_list (p : Value)  (w : World) (hn : Calls Try.prog 35 #[p] w fun e w' => e = .returned (.bool true) ∧ w' = w) : Calls Try.prog 29 #[p] w fun e w' => e = .returned (.slice none 0 0) ∧ w' = w := by
  go_enter Try.func29, Try.ntmps29
  go_wp2_with fail
  refine hn.mono ?_
  rintro e w1 ⟨rfl, rfl⟩
  clear hn
  go_wp2
  go_ret
  exact ⟨rfl, rfl⟩
set_option maxHeartbeats 1000000 in
set_option maxRecDepth 100000 in
theorem none_damaged (p : Value)  (w : World) (hn : Calls Try.prog 35 #[p] w fun e w' => e = .returned (.bool true) ∧ w' = w) : Calls Try.prog 15 #[p] w fun e w' => e = .returned (.slice none 0 0) ∧ w' = w := by
  go_enter Try.func15, Try.ntmps15
  go_wp2_with fail
  refine hn.mono ?_
  rintro e w1 ⟨rfl, rfl⟩
  clear hn
  go_wp2
  go_ret
  exact ⟨rfl, rfl⟩
set_option maxHeartbeats 1000000 in
set_option maxRecDepth 100000 in
theorem none_copy (p : Value)  (w : World) (hn : Calls Try.prog 35 #[p] w fun e w' => e = .returned (.bool true) ∧ w' = w) : Calls Try.prog 24 #[p] w fun e w' => e = .returned (.pointer none) ∧ w' = w := by
  go_enter Try.func24, Try.ntmps24
  go_wp2_with fail
  refine hn.mono ?_
  rintro e w1 ⟨rfl, rfl⟩
  clear hn
  go_wp2
  go_ret
  exact ⟨rfl, rfl⟩
set_option maxHeartbeats 1000000 in
set_option maxRecDepth 100000 in
theorem none_crash (p v : Value) (w : World) (hn : Calls Try.prog 35 #[p] w fun e w' => e = .returned (.bool true) ∧ w' = w) : Calls Try.prog 30 #[p, v] w fun e w' => e = .returned (.int .i64 2) ∧ w' = w := by
  go_enter Try.func30, Try.ntmps30
  go_wp2_with fail
  refine hn.mono ?_
  rintro e w1 ⟨rfl, rfl⟩
  clear hn
  go_wp2
  go_ret
  exact ⟨rfl, rfl⟩
end Go.Proofs.Ytjlfhfknnpjikaa
/- A step's extent: its own bytes, cut or filled up. -/
namespace Go.Proofs.Ytjlfhfknnpjikaa
open Go.RowKit HP
set_option linter.unusedSimpArgs false
set_option linter.unusedVariables false

set_option maxHeartbeats 1000000 in
set_option maxRecDepth 100000 in
theorem full_ok (E : Env) (q : HP) (s : StepV) (w : World) (hl : s.b.l.length ≤ s.b.cap) (hq : ∀ E w, Sat E w q → Cells w s.b.A (b8s s.b.l)) (hw : Sat E w q) :
    Calls Try.prog 28 #[.agg s.vals.toArray] w fun e w' => ∃ g, e = .returned (.slice (some ⟨g, 0, none⟩) 128 128) ∧ Sat E w' (HP.row 5 1 (.slice (some ⟨g, 0, none⟩) 128 128) 128 (b8s (fullOf s.b.l)) * q) := by
  unfold StepV.vals Sl.val
  go_enter Try.func28, Try.ntmps28
  have h1 := hw.alloc (.cells #[.int .i64 s.op, .int .i64 s.i, .int .i64 s.at_, .int .i64 s.n, .string s.name, .slice s.b.A s.b.l.length s.b.cap, .int .u8 s.mask, .slice s.kept.A s.kept.l.length s.kept.cap] 52)
  have HH := Aside.mk (And.intro h1 (And.intro hl hq))
  clear hw h1 hl hq
  go_wp2_with (first
    | (refine wpList_make_row (n := 128) slB8 rfl rfl rfl rfl rfl HH.out.1 (by unfold maxLen; omega) (by omega) (fun g w2 hw2 => ?_); have g5 := (hw2.s2).cell 5; simp only [List.getElem?_toArray, List.getElem?_cons_zero, List.getElem?_cons_succ] at g5; have HW2 := Aside.mk hw2; clear hw2)
    | (at_builtin; fail)
    | (refine wpList_copy_sat Try.underlying22 (by kernel_rfl) rfl rfl rfl rfl HW2.out (b8s_length _) (HH.out.2.2 _ _ HW2.out.right.right) (b8s_one _) (fun w3 hw3 => ?_); have HW3 := Aside.mk hw3; clear hw3))
  go_ret
  refine ⟨g, rfl, ?_⟩
  have h9 := HW3.out.drop2
  rw [full_cells] at h9
  exact h9
end Go.Proofs.Ytjlfhfknnpjikaa
/- DiskNobody: the walk. -/
namespace Go.Proofs.Ytjlfhfknnpjikaa
open Go.RowKit HP
set_option linter.unusedSimpArgs false
set_option linter.unusedVariables false

set_option maxHeartbeats 8000000 in
set_option maxRecDepth 100000 in
theorem diskNobody_ok (E : Env) (q : HP) (s : StepV) (w : World) (hb : s.b.l.length ≤ s.b.cap) (hq : ∀ E w, Sat E w q → Cells w s.b.A (b8s s.b.l)) (hw : Sat E w q) :
    Calls Try.prog 9 #[.agg s.vals.toArray] w fun e w' => e = .returned (.bool true) ∧ Sat E w' q := by
  unfold StepV.vals Sl.val
  have h1 := ((hw.alloc (.cells #[.int .i64 s.op, .int .i64 s.i, .int .i64 s.at_, .int .i64 s.n, .string s.name, .slice s.b.A s.b.l.length s.b.cap, .int .u8 s.mask, .slice s.kept.A s.kept.l.length s.kept.cap] 52)).alloc (.cells #[.int .i64 0, .map none, .int .i64 0] 69)).alloc (.cells #[.pointer none, .pointer (some ⟨w.heap.size + 1, 0, none⟩)] 23)
  have hz : (w.alloc (.cells #[.int .i64 s.op, .int .i64 s.i, .int .i64 s.at_, .int .i64 s.n, .string s.name, .slice s.b.A s.b.l.length s.b.cap, .int .u8 s.mask, .slice s.kept.A s.kept.l.length s.kept.cap] 52)).heap.size = w.heap.size + 1 := by simp
  have hz2 : ((w.alloc (.cells #[.int .i64 s.op, .int .i64 s.i, .int .i64 s.at_, .int .i64 s.n, .string s.name, .slice s.b.A s.b.l.length s.b.cap, .int .u8 s.mask, .slice s.kept.A s.kept.l.length s.kept.cap] 52)).alloc (.cells #[.int .i64 0, .map none, .int .i64 0] 69)).heap.size = w.heap.size + 1 + 1 := by simp
  rw [hz, hz2] at h1
  have HB : Aside (s.b.l.length ≤ s.b.cap ∧ ∀ E w', Sat E w' (HP.pt (w.heap.size + 1 + 1) (.cells #[.pointer none, .pointer (some ⟨w.heap.size + 1, 0, none⟩)] 23) * (HP.pt (w.heap.size + 1) (.cells #[.int .i64 0, .map none, .int .i64 0] 69) * (HP.pt w.heap.size (.cells #[.int .i64 s.op, .int .i64 s.i, .int .i64 s.at_, .int .i64 s.n, .string s.name, .slice s.b.A s.b.l.length s.b.cap, .int .u8 s.mask, .slice s.kept.A s.kept.l.length s.kept.cap] 52) * q))) → Cells w' s.b.A (b8s s.b.l)) := ⟨hb, fun E w' h => hq E w' h.right.right.right⟩
  have H1 := Aside.mk h1
  clear hq hw h1 hz hz2 hb
  go_enter Try.func9, Try.ntmps9
  go_wp2
  go_loopw [13] (fun v13 wr => ∃ k : Nat, k ≤ 2 ∧ v13 = .int .i64 k ∧ Aside (Sat E wr (HP.pt (w.heap.size + 1 + 1) (.cells #[.pointer none, .pointer (some ⟨w.heap.size + 1, 0, none⟩)] 23) * (HP.pt (w.heap.size + 1) (.cells #[.int .i64 0, .map none, .int .i64 0] 69) * (HP.pt w.heap.size (.cells #[.int .i64 s.op, .int .i64 s.i, .int .i64 s.at_, .int .i64 s.n, .string s.name, .slice s.b.A s.b.l.length s.b.cap, .int .u8 s.mask, .slice s.kept.A s.kept.l.length s.kept.cap] 52) * q))))) (fun i _ => 2 - (intOf i).toNat)
  case atStart => exact ⟨0, by omega, rfl, H1⟩
  case round =>
    clear H1
    obtain ⟨k, hk, rfl, HS⟩ := hrel
    by_cases hlt : k < 2
    · have hlt2 : (k : Int) < 2 := by omega
      obtain ⟨p, hp, HN⟩ : ∃ p, wr.cell? ⟨w.heap.size + 1 + 1, k, none⟩ = some p ∧ Aside (∀ w', Sat E w' (HP.pt (w.heap.size + 1 + 1) (.cells #[.pointer none, .pointer (some ⟨w.heap.size + 1, 0, none⟩)] 23) * (HP.pt (w.heap.size + 1) (.cells #[.int .i64 0, .map none, .int .i64 0] 69) * (HP.pt w.heap.size (.cells #[.int .i64 s.op, .int .i64 s.i, .int .i64 s.at_, .int .i64 s.n, .string s.name, .slice s.b.A s.b.l.length s.b.cap, .int .u8 s.mask, .slice s.kept.A s.kept.l.length s.kept.cap] 52) * q))) → Calls Try.prog 35 #[p] w' fun e w1 => e = .returned (.bool true) ∧ w1 = w') := by
        rcases Nat.lt_or_ge k 1 with h0 | h0
        · obtain rfl : k = 0 := by omega
          have := HS.out.cell 0
          exact ⟨_, this, ⟨fun w' _ => disk_none_nil w'⟩⟩
        · obtain rfl : k = 1 := by omega
          have := HS.out.cell 1
          exact ⟨_, this, ⟨fun w' h => disk_none_new E _ _ w' h.s2⟩⟩
      obtain ⟨RR, hRR⟩ : ∃ RR, RR = (HP.pt (w.heap.size + 1 + 1) (.cells #[.pointer none, .pointer (some ⟨w.heap.size + 1, 0, none⟩)] 23) * (HP.pt (w.heap.size + 1) (.cells #[.int .i64 0, .map none, .int .i64 0] 69) * (HP.pt w.heap.size (.cells #[.int .i64 s.op, .int .i64 s.i, .int .i64 s.at_, .int .i64 s.n, .string s.name, .slice s.b.A s.b.l.length s.b.cap, .int .u8 s.mask, .slice s.kept.A s.kept.l.length s.kept.cap] 52) * q))) := ⟨_, rfl⟩
      have HC : Aside (∀ W, Sat E W RR → (W.cell? ⟨w.heap.size, 1, none⟩ = some (.int .i64 s.i) ∧ W.cell? ⟨w.heap.size, 2, none⟩ = some (.int .i64 s.at_) ∧ W.cell? ⟨w.heap.size, 3, none⟩ = some (.int .i64 s.n) ∧ W.cell? ⟨w.heap.size, 4, none⟩ = some (.string s.name) ∧ W.cell? ⟨w.heap.size, 6, none⟩ = some (.int .u8 s.mask) ∧ W.cell? ⟨w.heap.size, 7, none⟩ = some (.slice s.kept.A s.kept.l.length s.kept.cap) ∧ True) ∧ (Calls Try.prog 35 #[p] W fun e w1 => e = .returned (.bool true) ∧ w1 = W)) := ⟨fun W h => by
        subst hRR
        exact ⟨⟨h.right.right.cell 1, h.right.right.cell 2, h.right.right.cell 3, h.right.right.cell 4, h.right.right.cell 6, h.right.right.cell 7, trivial⟩, HN.out W h⟩⟩
      have h8 := HS.out.right.right.drew
      have HD : Aside (Sat E wr.drew RR) := ⟨by rw [hRR]; exact HS.out.drew⟩
      have c0 := h8.cell 0
      have c1 := h8.cell 1
      have c2 := h8.cell 2
      have c3 := h8.cell 3
      have c4 := h8.cell 4
      have c5 := h8.cell 5
      have c6 := h8.cell 6
      have c7 := h8.cell 7
      simp only [List.getElem?_toArray, List.getElem?_cons_zero, List.getElem?_cons_succ] at c0 c1 c2 c3 c4 c5 c6 c7
      have HRR := Aside.mk hRR
      clear h8 HS HN hRR
      go_wp2
      refine region_R [6, 7, 11, 15, 25, 29, 33, 34] [6, 7, 11, 15, 25, 29] (fun W => Sat E W RR) #[false, false, false, false, false, false, false, false, false, false, false, false, false, false, false, false, false, false, false, false, false, false, false, false, false, false, false, false, false, false, false, false, false, false, false, false, false] (by kernel_rfl) rfl rfl ?_
      refine wpR_pu 0 #[true, false, false, false, false, false, false, false, false, false, false, false, false, false, false, false, false, false, false, false, false, false, false, false, false, false, false, false, false, false, false, false, false, false, false, false, false] rfl onlyN_noPanic (by kernel_rfl) (fun K hK => ?_); (go_simp; try go_bits); refine hK _ ?_; clear hK K
      refine wpR_pu 1 #[true, true, false, false, false, false, false, false, false, false, false, false, false, false, false, false, false, false, false, false, false, false, false, false, false, false, false, false, false, false, false, false, false, false, false, false, false] rfl onlyN_noPanic (by kernel_rfl) (fun K hK => ?_); (go_simp; try go_bits); refine hK _ ?_; clear hK K
      refine wpR_held (i := 2) (v := .string s.name) #[true, true, true, false, false, false, false, false, false, false, false, false, false, false, false, false, false, false, false, false, false, false, false, false, false, false, false, false, false, false, false, false, false, false, false, false, false] rfl onlyN_noPanic (by kernel_rfl) (by first | exact HD.out | exact H9.out) (.inl ⟨rfl, fun w' hT => ?_⟩) ?_
      · obtain ⟨⟨t1, t2, t3, t4, t5, t6, t7⟩, -⟩ := HC.out _ hT; go_simp
      simp only [Act.put, List.setIfInBounds_toArray, List.set_cons_zero, List.set_cons_succ]
      refine wpR_pu 3 #[true, true, true, true, false, false, false, false, false, false, false, false, false, false, false, false, false, false, false, false, false, false, false, false, false, false, false, false, false, false, false, false, false, false, false, false, false] rfl onlyN_noPanic (by kernel_rfl) (fun K hK => ?_); (go_simp; try go_bits); refine hK _ ?_; clear hK K
      refine wpR_held (i := 4) (v := .int .i64 s.i) #[true, true, true, true, true, false, false, false, false, false, false, false, false, false, false, false, false, false, false, false, false, false, false, false, false, false, false, false, false, false, false, false, false, false, false, false, false] rfl onlyN_noPanic (by kernel_rfl) (by first | exact HD.out | exact H9.out) (.inl ⟨rfl, fun w' hT => ?_⟩) ?_
      · obtain ⟨⟨t1, t2, t3, t4, t5, t6, t7⟩, -⟩ := HC.out _ hT; go_simp
      simp only [Act.put, List.setIfInBounds_toArray, List.set_cons_zero, List.set_cons_succ]
      refine wpR_rd 5 #[true, true, true, true, true, true, false, false, false, false, false, false, false, false, false, false, false, false, false, false, false, false, false, false, false, false, false, false, false, false, false, false, false, false, false, false, false] rfl onlyN_noPanic (by kernel_rfl) (fun K hK => ?_); (go_simp; try go_bits); refine hK _ ?_; clear hK K
      refine wpR_pu 8 #[true, true, true, true, true, true, false, false, true, false, false, false, false, false, false, false, false, false, false, false, false, false, false, false, false, false, false, false, false, false, false, false, false, false, false, false, false] rfl onlyN_noPanic (by kernel_rfl) (fun K hK => ?_); (go_simp; try go_bits); refine hK _ ?_; clear hK K
      refine wpR_pu 9 #[true, true, true, true, true, true, false, false, true, true, false, false, false, false, false, false, false, false, false, false, false, false, false, false, false, false, false, false, false, false, false, false, false, false, false, false, false] rfl onlyN_noPanic (by kernel_rfl) (fun K hK => ?_); (go_simp; try go_bits); refine hK _ ?_; clear hK K
      refine wpR_held (i := 10) (v := .string s.name) #[true, true, true, true, true, true, false, false, true, true, true, false, false, false, false, false, false, false, false, false, false, false, false, false, false, false, false, false, false, false, false, false, false, false, false, false, false] rfl onlyN_noPanic (by kernel_rfl) (by first | exact HD.out | exact H9.out) (.inl ⟨rfl, fun w' hT => ?_⟩) ?_
      · obtain ⟨⟨t1, t2, t3, t4, t5, t6, t7⟩, -⟩ := HC.out _ hT; go_simp
      simp only [Act.put, List.setIfInBounds_toArray, List.set_cons_zero, List.set_cons_succ]
      refine wpR_pu 12 #[true, true, true, true, true, true, false, false, true, true, true, false, true, false, false, false, false, false, false, false, false, false, false, false, false, false, false, false, false, false, false, false, false, false, false, false, false] rfl onlyN_noPanic (by kernel_rfl) (fun K hK => ?_); (go_simp; try go_bits); refine hK _ ?_; clear hK K
      refine wpR_pu 13 #[true, true, true, true, true, true, false, false, true, true, true, false, true, true, false, false, false, false, false, false, false, false, false, false, false, false, false, false, false, false, false, false, false, false, false, false, false] rfl onlyN_noPanic (by kernel_rfl) (fun K hK => ?_); (go_simp; try go_bits); refine hK _ ?_; clear hK K
      refine wpR_held (i := 14) (v := .string s.name) #[true, true, true, true, true, true, false, false, true, true, true, false, true, true, true, false, false, false, false, false, false, false, false, false, false, false, false, false, false, false, false, false, false, false, false, false, false] rfl onlyN_noPanic (by kernel_rfl) (by first | exact HD.out | exact H9.out) (.inl ⟨rfl, fun w' hT => ?_⟩) ?_
      · obtain ⟨⟨t1, t2, t3, t4, t5, t6, t7⟩, -⟩ := HC.out _ hT; go_simp
      simp only [Act.put, List.setIfInBounds_toArray, List.set_cons_zero, List.set_cons_succ]
      refine wpR_pu 16 #[true, true, true, true, true, true, false, false, true, true, true, false, true, true, true, false, true, false, false, false, false, false, false, false, false, false, false, false, false, false, false, false, false, false, false, false, false] rfl onlyN_noPanic (by kernel_rfl) (fun K hK => ?_); (go_simp; try go_bits); refine hK _ ?_; clear hK K
      refine wpR_pu 17 #[true, true, true, true, true, true, false, false, true, true, true, false, true, true, true, false, true, true, false, false, false, false, false, false, false, false, false, false, false, false, false, false, false, false, false, false, false] rfl onlyN_noPanic (by kernel_rfl) (fun K hK => ?_); (go_simp; try go_bits); refine hK _ ?_; clear hK K
      refine wpR_held (i := 18) (v := .string s.name) #[true, true, true, true, true, true, false, false, true, true, true, false, true, true, true, false, true, true, true, false, false, false, false, false, false, false, false, false, false, false, false, false, false, false, false, false, false] rfl onlyN_noPanic (by kernel_rfl) (by first | exact HD.out | exact H9.out) (.inl ⟨rfl, fun w' hT => ?_⟩) ?_
      · obtain ⟨⟨t1, t2, t3, t4, t5, t6, t7⟩, -⟩ := HC.out _ hT; go_simp
      simp only [Act.put, List.setIfInBounds_toArray, List.set_cons_zero, List.set_cons_succ]
      refine wpR_pu 19 #[true, true, true, true, true, true, false, false, true, true, true, false, true, true, true, false, true, true, true, true, false, false, false, false, false, false, false, false, false, false, false, false, false, false, false, false, false] rfl onlyN_noPanic (by kernel_rfl) (fun K hK => ?_); (go_simp; try go_bits); refine hK _ ?_; clear hK K
      refine wpR_held (i := 20) (v := .int .i64 s.i) #[true, true, true, true, true, true, false, false, true, true, true, false, true, true, true, false, true, true, true, true, true, false, false, false, false, false, false, false, false, false, false, false, false, false, false, false, false] rfl onlyN_noPanic (by kernel_rfl) (by first | exact HD.out | exact H9.out) (.inl ⟨rfl, fun w' hT => ?_⟩) ?_
      · obtain ⟨⟨t1, t2, t3, t4, t5, t6, t7⟩, -⟩ := HC.out _ hT; go_simp
      simp only [Act.put, List.setIfInBounds_toArray, List.set_cons_zero, List.set_cons_succ]
      refine wpR_pu 21 #[true, true, true, true, true, true, false, false, true, true, true, false, true, true, true, false, true, true, true, true, true, true, false, false, false, false, false, false, false, false, false, false, false, false, false, false, false] rfl onlyN_noPanic (by kernel_rfl) (fun K hK => ?_); (go_simp; try go_bits); refine hK _ ?_; clear hK K
      refine wpR_held (i := 22) (v := .int .i64 s.at_) #[true, true, true, true, true, true, false, false, true, true, true, false, true, true, true, false, true, true, true, true, true, true, true, false, false, false, false, false, false, false, false, false, false, false, false, false, false] rfl onlyN_noPanic (by kernel_rfl) (by first | exact HD.out | exact H9.out) (.inl ⟨rfl, fun w' hT => ?_⟩) ?_
      · obtain ⟨⟨t1, t2, t3, t4, t5, t6, t7⟩, -⟩ := HC.out _ hT; go_simp
      simp only [Act.put, List.setIfInBounds_toArray, List.set_cons_zero, List.set_cons_succ]
      refine wpR_pu 23 #[true, true, true, true, true, true, false, false, true, true, true, false, true, true, true, false, true, true, true, true, true, true, true, true, false, false, false, false, false, false, false, false, false, false, false, false, false] rfl onlyN_noPanic (by kernel_rfl) (fun K hK => ?_); (go_simp; try go_bits); refine hK _ ?_; clear hK K
      refine wpR_held (i := 24) (v := .int .u8 s.mask) #[true, true, true, true, true, true, false, false, true, true, true, false, true, true, true, false, true, true, true, true, true, true, true, true, true, false, false, false, false, false, false, false, false, false, false, false, false] rfl onlyN_noPanic (by kernel_rfl) (by first | exact HD.out | exact H9.out) (.inl ⟨rfl, fun w' hT => ?_⟩) ?_
      · obtain ⟨⟨t1, t2, t3, t4, t5, t6, t7⟩, -⟩ := HC.out _ hT; go_simp
      simp only [Act.put, List.setIfInBounds_toArray, List.set_cons_zero, List.set_cons_succ]
      refine wpR_pu 26 #[true, true, true, true, true, true, false, false, true, true, true, false, true, true, true, false, true, true, true, true, true, true, true, true, true, false, true, false, false, false, false, false, false, false, false, false, false] rfl onlyN_noPanic (by kernel_rfl) (fun K hK => ?_); (go_simp; try go_bits); refine hK _ ?_; clear hK K
      refine wpR_pu 27 #[true, true, true, true, true, true, false, false, true, true, true, false, true, true, true, false, true, true, true, true, true, true, true, true, true, false, true, true, false, false, false, false, false, false, false, false, false] rfl onlyN_noPanic (by kernel_rfl) (fun K hK => ?_); (go_simp; try go_bits); refine hK _ ?_; clear hK K
      refine wpR_held (i := 28) (v := .int .i64 s.n) #[true, true, true, true, true, true, false, false, true, true, true, false, true, true, true, false, true, true, true, true, true, true, true, true, true, false, true, true, true, false, false, false, false, false, false, false, false] rfl onlyN_noPanic (by kernel_rfl) (by first | exact HD.out | exact H9.out) (.inl ⟨rfl, fun w' hT => ?_⟩) ?_
      · obtain ⟨⟨t1, t2, t3, t4, t5, t6, t7⟩, -⟩ := HC.out _ hT; go_simp
      simp only [Act.put, List.setIfInBounds_toArray, List.set_cons_zero, List.set_cons_succ]
      refine wpR_pu 30 #[true, true, true, true, true, true, false, false, true, true, true, false, true, true, true, false, true, true, true, true, true, true, true, true, true, false, true, true, true, false, true, false, false, false, false, false, false] rfl onlyN_noPanic (by kernel_rfl) (fun K hK => ?_); (go_simp; try go_bits); refine hK _ ?_; clear hK K
      refine wpR_pu 31 #[true, true, true, true, true, true, false, false, true, true, true, false, true, true, true, false, true, true, true, true, true, true, true, true, true, false, true, true, true, false, true, true, false, false, false, false, false] rfl onlyN_noPanic (by kernel_rfl) (fun K hK => ?_); (go_simp; try go_bits); refine hK _ ?_; clear hK K
      refine wpR_held (i := 32) (v := .slice s.kept.A s.kept.l.length s.kept.cap) #[true, true, true, true, true, true, false, false, true, true, true, false, true, true, true, false, true, true, true, true, true, true, true, true, true, false, true, true, true, false, true, true, true, false, false, false, false] rfl onlyN_noPanic (by kernel_rfl) (by first | exact HD.out | exact H9.out) (.inl ⟨rfl, fun w' hT => ?_⟩) ?_
      · obtain ⟨⟨t1, t2, t3, t4, t5, t6, t7⟩, -⟩ := HC.out _ hT; go_simp
      simp only [Act.put, List.setIfInBounds_toArray, List.set_cons_zero, List.set_cons_succ]
      refine wpR_pu 36 #[true, true, true, true, true, true, false, false, true, true, true, false, true, true, true, false, true, true, true, true, true, true, true, true, true, false, true, true, true, false, true, true, true, false, false, false, true] rfl onlyN_noPanic (by kernel_rfl) (fun K hK => ?_); (go_simp; try go_bits); refine hK _ ?_; clear hK K
      refine wpR_keep #[true, true, true, true, true, true, true, false, true, true, true, false, true, true, true, false, true, true, true, true, true, true, true, true, true, false, true, true, true, false, true, true, true, false, false, false, true] (i := 6) rfl (by kernel_rfl) (fun K hK => ?_)
      go_simp; refine (full_ok E RR s _ HB.out.1 (fun E' w' h => HB.out.2 E' w' (HRR.out ▸ h)) HD.out).mono ?_; rintro e w9 ⟨gS, rfl, h9⟩; have H9 : Aside (Sat E w9 RR) := ⟨h9.right⟩; clear h9 HD; refine hK _ _ H9.out ?_; clear hK K
      refine wpR_keep #[true, true, true, true, true, true, true, true, true, true, true, false, true, true, true, false, true, true, true, true, true, true, true, true, true, false, true, true, true, false, true, true, true, false, false, false, true] (i := 7) rfl (by kernel_rfl) (fun K hK => ?_)
      go_simp; refine (none_write p s.name s.i _ _ (HC.out _ H9.out).2).mono ?_; rintro e w5 ⟨rfl, hw5⟩; subst w5; refine hK _ _ H9.out ?_; clear hK K
      refine wpR_keep #[true, true, true, true, true, true, true, true, true, true, true, true, true, true, true, false, true, true, true, true, true, true, true, true, true, false, true, true, true, false, true, true, true, false, false, false, true] (i := 11) rfl (by kernel_rfl) (fun K hK => ?_)
      go_simp; refine (none_sync p s.name _ (HC.out _ H9.out).2).mono ?_; rintro e w5 ⟨rfl, hw5⟩; subst w5; refine hK _ _ H9.out ?_; clear hK K
      refine wpR_keep #[true, true, true, true, true, true, true, true, true, true, true, true, true, true, true, true, true, true, true, true, true, true, true, true, true, false, true, true, true, false, true, true, true, false, false, false, true] (i := 15) rfl (by kernel_rfl) (fun K hK => ?_)
      go_simp; refine (none_remove p s.name _ (HC.out _ H9.out).2).mono ?_; rintro e w5 ⟨rfl, hw5⟩; subst w5; refine hK _ _ H9.out ?_; clear hK K
      refine wpR_keep #[true, true, true, true, true, true, true, true, true, true, true, true, true, true, true, true, true, true, true, true, true, true, true, true, true, true, true, true, true, false, true, true, true, false, false, false, true] (i := 25) rfl (by kernel_rfl) (fun K hK => ?_)
      go_simp; refine (none_rot p s.name s.i s.at_ s.mask _ (HC.out _ H9.out).2).mono ?_; rintro e w5 ⟨rfl, hw5⟩; subst w5; refine hK _ _ H9.out ?_; clear hK K
      refine wpR_keep #[true, true, true, true, true, true, true, true, true, true, true, true, true, true, true, true, true, true, true, true, true, true, true, true, true, true, true, true, true, true, true, true, true, false, false, false, true] (i := 29) rfl (by kernel_rfl) (fun K hK => ?_)
      go_simp; refine (none_fuse p s.n _ (HC.out _ H9.out).2).mono ?_; rintro e w5 ⟨rfl, hw5⟩; subst w5; refine hK _ _ H9.out ?_; clear hK K
      refine wpR_eff #[true, true, true, true, true, true, true, true, true, true, true, true, true, true, true, true, true, true, true, true, true, true, true, true, true, true, true, true, true, true, true, true, true, true, false, false, true] (i := 33) rfl (by kernel_rfl) (fun K hK => ?_)
      go_simp; refine (none_crash p _ _ (HC.out _ H9.out).2).mono ?_; rintro e w5 ⟨rfl, hw5⟩; subst w5; refine hK _ _ ?_; clear hK K
      refine wpR_eff #[true, true, true, true, true, true, true, true, true, true, true, true, true, true, true, true, true, true, true, true, true, true, true, true, true, true, true, true, true, true, true, true, true, true, true, false, true] (i := 34) rfl (by kernel_rfl) (fun K hK => ?_)
      go_simp; refine hK _ _ ?_; clear hK K
      refine wpR_rd 35 #[true, true, true, true, true, true, true, true, true, true, true, true, true, true, true, true, true, true, true, true, true, true, true, true, true, true, true, true, true, true, true, true, true, true, true, true, true] rfl onlyN_noPanic (by kernel_rfl) (fun K hK => ?_); (go_simp; try go_bits); refine hK _ ?_; clear hK K
      refine wpR_done (by kernel_rfl) ?_ _
      simp only [OnlyN]
      clear c0 c1 c2 c3 c4 c5 c6 c7
      have H10 : Aside (Sat E (w9.alloc (.cells #[.int .i64 2, .int .i64 2, .int .i64 2, .int .i64 2, .int .i64 2, .int .i64 2] 24)) (HP.pt w9.heap.size (.cells (Array.replicate 6 (.int .i64 2)) 24) * RR)) := ⟨H9.out.alloc _⟩
      obtain ⟨b, hb⟩ : ∃ b, b = w9.heap.size := ⟨_, rfl⟩
      rw [← hb] at H10 ⊢
      clear hb H9 hp
      generalize w9.alloc _ = w10 at *
      go_wp2
      go_loopw [53] (fun v53 wi => ∃ j : Nat, j ≤ 6 ∧ v53 = .int .i64 j ∧ Aside (Sat E wi (HP.pt b (.cells (Array.replicate 6 (.int .i64 2)) 24) * RR))) (fun i _ => 6 - (intOf i).toNat)
      case atStart => exact ⟨0, by omega, rfl, H10⟩
      case round =>
        obtain ⟨j, hj, rfl, HI⟩ := hrel
        by_cases hjl : j < 6
        · have hjl2 : (j : Int) < 6 := by omega
          have gj : wr.cell? ⟨b, j, none⟩ = some (.int .i64 2) := by
            rw [HI.out.cell j, Array.getElem?_replicate, if_pos hjl]
          go_wp2
          go_roundw
          case rel => exact ⟨j + 1, by omega, by push_cast; rfl, HI⟩
          case measure => simp [intOf]; omega
        · obtain rfl : j = 6 := by omega
          have HS2 := Aside.mk HI.out.right
          clear HI H10
          obtain ⟨⟨t1, t2, t3, t4, t5, t6, -⟩, -⟩ := HC.out _ HS2.out
          clear t2 t3 t5 t6
          go_wp2_with fail
          refine (none_read p s.name s.i _ (HC.out _ HS2.out).2).mono ?_
          rintro e w5 ⟨rfl, hw5⟩; subst w5
          obtain ⟨⟨-, -, -, t4, -, -, -⟩, -⟩ := HC.out _ HS2.out.drew
          obtain ⟨HS2⟩ : Aside (Aside (Sat E _ RR)) := ⟨⟨HS2.out.drew⟩⟩
          go_wp2
          refine region_R [3, 7, 13, 16, 25] [3, 7] (fun W => W = wr.drew) #[false, false, false, false, false, false, false, false, false, false, false, false, false, false, false, false, false, false, false, false, false, false, false, false, false, false, false, false] (by kernel_rfl) rfl rfl ?_
          refine wpR_pu 0 #[true, false, false, false, false, false, false, false, false, false, false, false, false, false, false, false, false, false, false, false, false, false, false, false, false, false, false, false] rfl onlyN_noPanic (by kernel_rfl) (fun K hK => ?_); (go_simp; try go_bits); refine hK _ ?_; clear hK K
          refine wpR_pu 1 #[true, true, false, false, false, false, false, false, false, false, false, false, false, false, false, false, false, false, false, false, false, false, false, false, false, false, false, false] rfl onlyN_noPanic (by kernel_rfl) (fun K hK => ?_); (go_simp; try go_bits); refine hK _ ?_; clear hK K
          refine wpR_rd 2 #[true, true, true, false, false, false, false, false, false, false, false, false, false, false, false, false, false, false, false, false, false, false, false, false, false, false, false, false] rfl onlyN_noPanic (by kernel_rfl) (fun K hK => ?_); (go_simp; try go_bits); refine hK _ ?_; clear hK K
          refine wpR_pu 6 #[true, true, true, false, false, false, true, false, false, false, false, false, false, false, false, false, false, false, false, false, false, false, false, false, false, false, false, false] rfl onlyN_noPanic (by kernel_rfl) (fun K hK => ?_); (go_simp; try go_bits); refine hK _ ?_; clear hK K
          refine wpR_pu 10 #[true, true, true, false, false, false, true, false, false, false, true, false, false, false, false, false, false, false, false, false, false, false, false, false, false, false, false, false] rfl onlyN_noPanic (by kernel_rfl) (fun K hK => ?_); (go_simp; try go_bits); refine hK _ ?_; clear hK K
          refine wpR_pu 11 #[true, true, true, false, false, false, true, false, false, false, true, true, false, false, false, false, false, false, false, false, false, false, false, false, false, false, false, false] rfl onlyN_noPanic (by kernel_rfl) (fun K hK => ?_); (go_simp; try go_bits); refine hK _ ?_; clear hK K
          refine wpR_held (i := 12) (v := .string s.name) #[true, true, true, false, false, false, true, false, false, false, true, true, true, false, false, false, false, false, false, false, false, false, false, false, false, false, false, false] rfl onlyN_noPanic (by kernel_rfl) rfl (.inl ⟨rfl, fun w' hT => ?_⟩) ?_
          · subst hT; go_simp
          simp only [Act.put, List.setIfInBounds_toArray, List.set_cons_zero, List.set_cons_succ]
          refine wpR_pu 15 #[true, true, true, false, false, false, true, false, false, false, true, true, true, false, false, true, false, false, false, false, false, false, false, false, false, false, false, false] rfl onlyN_noPanic (by kernel_rfl) (fun K hK => ?_); (go_simp; try go_bits); refine hK _ ?_; clear hK K
          refine wpR_keep #[true, true, true, true, false, false, true, false, false, false, true, true, true, false, false, true, false, false, false, false, false, false, false, false, false, false, false, false] (i := 3) rfl (by kernel_rfl) (fun K hK => ?_)
          go_simp; refine (none_list p _ (HC.out _ HS2.out).2).mono ?_; rintro e w5 ⟨rfl, hw5⟩; subst w5; refine hK _ _ rfl ?_; clear hK K
          refine wpR_pu 4 #[true, true, true, true, true, false, true, false, false, false, true, true, true, false, false, true, false, false, false, false, false, false, false, false, false, false, false, false] rfl onlyN_noPanic (by kernel_rfl) (fun K hK => ?_); (go_simp; try go_bits); refine hK _ ?_; clear hK K
          refine wpR_pu 5 #[true, true, true, true, true, true, true, false, false, false, true, true, true, false, false, true, false, false, false, false, false, false, false, false, false, false, false, false] rfl onlyN_noPanic (by kernel_rfl) (fun K hK => ?_); (go_simp; try go_bits); refine hK _ ?_; clear hK K
          refine wpR_keep #[true, true, true, true, true, true, true, true, false, false, true, true, true, false, false, true, false, false, false, false, false, false, false, false, false, false, false, false] (i := 7) rfl (by kernel_rfl) (fun K hK => ?_)
          go_simp; refine (none_damaged p _ (HC.out _ HS2.out).2).mono ?_; rintro e w5 ⟨rfl, hw5⟩; subst w5; refine hK _ _ rfl ?_; clear hK K
          refine wpR_pu 8 #[true, true, true, true, true, true, true, true, true, false, true, true, true, false, false, true, false, false, false, false, false, false, false, false, false, false, false, false] rfl onlyN_noPanic (by kernel_rfl) (fun K hK => ?_); (go_simp; try go_bits); refine hK _ ?_; clear hK K
          refine wpR_pu 9 #[true, true, true, true, true, true, true, true, true, true, true, true, true, false, false, true, false, false, false, false, false, false, false, false, false, false, false, false] rfl onlyN_noPanic (by kernel_rfl) (fun K hK => ?_); (go_simp; try go_bits); refine hK _ ?_; clear hK K
          refine wpR_eff #[true, true, true, true, true, true, true, true, true, true, true, true, true, true, false, true, false, false, false, false, false, false, false, false, false, false, false, false] (i := 13) rfl (by kernel_rfl) (fun K hK => ?_)
          go_simp; refine (none_extents p s.name _ (HC.out _ HS2.out).2).mono ?_; rintro e w5 ⟨rfl, hw5⟩; subst w5; refine hK _ _ ?_; clear hK K
          refine wpR_pu 14 #[true, true, true, true, true, true, true, true, true, true, true, true, true, true, true, true, false, false, false, false, false, false, false, false, false, false, false, false] rfl onlyN_noPanic (by kernel_rfl) (fun K hK => ?_); (go_simp; try go_bits); refine hK _ ?_; clear hK K
          refine wpR_eff #[true, true, true, true, true, true, true, true, true, true, true, true, true, true, true, true, true, false, false, false, false, false, false, false, false, false, false, false] (i := 16) rfl (by kernel_rfl) (fun K hK => ?_)
          go_simp; refine (none_free p _ (HC.out _ HS2.out).2).mono ?_; rintro e w5 ⟨rfl, hw5⟩; subst w5; refine hK _ _ ?_; clear hK K
          refine wpR_rd 17 #[true, true, true, true, true, true, true, true, true, true, true, true, true, true, true, true, true, true, false, false, false, false, false, false, false, false, false, false] rfl onlyN_noPanic (by kernel_rfl) (fun K hK => ?_); (go_simp; try go_bits); refine hK _ ?_; clear hK K
          refine wpR_rd 18 #[true, true, true, true, true, true, true, true, true, true, true, true, true, true, true, true, true, true, true, false, false, false, false, false, false, false, false, false] rfl onlyN_noPanic (by kernel_rfl) (fun K hK => ?_); (go_simp; try go_bits); refine hK _ ?_; clear hK K
          refine wpR_rd 19 #[true, true, true, true, true, true, true, true, true, true, true, true, true, true, true, true, true, true, true, true, false, false, false, false, false, false, false, false] rfl onlyN_noPanic (by kernel_rfl) (fun K hK => ?_); (go_simp; try go_bits); refine hK _ ?_; clear hK K
          refine wpR_rd 20 #[true, true, true, true, true, true, true, true, true, true, true, true, true, true, true, true, true, true, true, true, true, false, false, false, false, false, false, false] rfl onlyN_noPanic (by kernel_rfl) (fun K hK => ?_); (go_simp; try go_bits); refine hK _ ?_; clear hK K
          refine wpR_rd 21 #[true, true, true, true, true, true, true, true, true, true, true, true, true, true, true, true, true, true, true, true, true, true, false, false, false, false, false, false] rfl onlyN_noPanic (by kernel_rfl) (fun K hK => ?_); (go_simp; try go_bits); refine hK _ ?_; clear hK K
          refine wpR_rd 22 #[true, true, true, true, true, true, true, true, true, true, true, true, true, true, true, true, true, true, true, true, true, true, true, false, false, false, false, false] rfl onlyN_noPanic (by kernel_rfl) (fun K hK => ?_); (go_simp; try go_bits); refine hK _ ?_; clear hK K
          refine wpR_rd 23 #[true, true, true, true, true, true, true, true, true, true, true, true, true, true, true, true, true, true, true, true, true, true, true, true, false, false, false, false] rfl onlyN_noPanic (by kernel_rfl) (fun K hK => ?_); (go_simp; try go_bits); refine hK _ ?_; clear hK K
          refine wpR_rd 24 #[true, true, true, true, true, true, true, true, true, true, true, true, true, true, true, true, true, true, true, true, true, true, true, true, true, false, false, false] rfl onlyN_noPanic (by kernel_rfl) (fun K hK => ?_); (go_simp; try go_bits); refine hK _ ?_; clear hK K
          refine wpR_eff #[true, true, true, true, true, true, true, true, true, true, true, true, true, true, true, true, true, true, true, true, true, true, true, true, true, true, false, false] (i := 25) rfl (by kernel_rfl) (fun K hK => ?_)
          go_simp; refine (none_copy p _ (HC.out _ HS2.out).2).mono ?_; rintro e w5 ⟨rfl, hw5⟩; subst w5; refine hK _ _ ?_; clear hK K
          refine wpR_rd 26 #[true, true, true, true, true, true, true, true, true, true, true, true, true, true, true, true, true, true, true, true, true, true, true, true, true, true, true, false] rfl onlyN_noPanic (by kernel_rfl) (fun K hK => ?_); (go_simp; try go_bits); refine hK _ ?_; clear hK K
          refine wpR_rd 27 #[true, true, true, true, true, true, true, true, true, true, true, true, true, true, true, true, true, true, true, true, true, true, true, true, true, true, true, true] rfl onlyN_noPanic (by kernel_rfl) (fun K hK => ?_); (go_simp; try go_bits); refine hK _ ?_; clear hK K
          refine wpR_done (by kernel_rfl) ?_ _
          simp only [OnlyN]
          go_wp2
          go_roundw
          case rel => exact ⟨k + 1, by omega, by push_cast; rfl, ⟨by have h := HS2.out; rw [HRR.out] at h; exact h⟩⟩
          case measure => simp [intOf]; omega
    · obtain rfl : k = 2 := by omega
      go_wp2_with fail
      refine (awake3_ok E _ _ HS.out).mono ?_
      rintro e w2 ⟨rfl, h2⟩
      go_wp2
      go_ret
      exact ⟨rfl, h2.right.right.right⟩
end Go.Proofs.Ytjlfhfknnpjikaa
/- What the plain laws share. -/
namespace Go.Proofs.Ytjlfhfknnpjikaa
open Go.ChangeShapes Go.WideShapes Go.ChangeAt Go.RowKit HP
set_option linter.unusedVariables false

theorem old_carry {E : Env} {W w : World} (h : Sat E w (HP.old W)) : ∀ k, k < W.heap.size → w.heap[k]? = W.heap[k]? := fun k hk => Sat.old_block (p := HP.emp) (by rw [HP.mul_emp]; exact h) k hk
theorem rdB_at : (rdSl (rdInt .u8)).At Try.prog 22 := rdSl_at (n := 1) Try.underlying22 (by kernel_rfl) (rdInt_at Try.underlying5)
theorem u8_of {f : Int} (z : (Lit.int .u8 f).wf = true) : 0 ≤ f ∧ f ≤ 255 := byte_of z
end Go.Proofs.Ytjlfhfknnpjikaa
