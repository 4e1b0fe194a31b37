/- Texts of one claim, one behind the other: DiskM, DiskRm, Nones, PairA, PairW, PairP, PairD, ChunkA, ChunkB, PairS, PairG, ExtP, NeedsP. -/
import Derived.Test.YtnllmkpbnccllaaDoorPl4
import Derived.Shelf.Abstract
import Derived.Shelf.RegionOpen
import Derived.OwnWalkIn
import Derived.TacticsInMore
import Derived.LoopNIn
import Derived.LoopIn
import Derived.Outline
import Derived.IntWalk
/- What calls make of a disk: plain lemmas. -/
namespace Go.Proofs.YtnllmkpbnccllaaDoor
open Go.RowKit HP
set_option linter.unusedSimpArgs false
set_option linter.unusedVariables false

def Dk.new (room : Int) : Dk := ⟨room, -1, []⟩
theorem Dk.new_fine {room : Int} (h : 0 ≤ room ∧ room ≤ 100000) : (Dk.new room).Fine :=
  ⟨List.Pairwise.nil, (fun x hx => by cases hx), (fun x hx => by cases hx), h, ⟨by show (-1 : Int) ≤ -1; omega, by show (-1 : Int) ≤ _; omega⟩, h.1⟩
theorem View.new {room : Int} (h : 0 ≤ room ∧ room ≤ 100000) : View (Dk.new room) #[] 0 [] :=
  ⟨⟨(fun x hx => by simp at hx), rfl, by simp, (fun x hx => by simp at hx), by simp⟩, fun s => rfl, Dk.new_fine h⟩
theorem disk_new_ok (E : Env) (q : HP) (room : Int) (w : World) (h : 0 ≤ room ∧ room ≤ 100000) (hw : Sat E w q) :
    Calls Tryd.prog 18 #[.int .i64 room] w fun e w' => ∃ d, e = .returned (.tuple #[.pointer (some ⟨d, 0, none⟩), .int .i64 0]) ∧ Sat E w' (HP.disk d (Dk.new room) * q) :=
  (disk_new E q room w h.1 h.2 hw).mono fun e w' ⟨d, m, he, hs⟩ => ⟨d, he, Sat.disk_close (m := m) (View.new h) (hs.perm (by
    unfold HP.dk
    simp only [List.map_nil, HP.all, HP.mul_emp]
    show _ = HP.dsk d room (-1) m * HP.pt m (.map #[] 0) * q
    rw [HP.mul_assoc]))⟩

section
variable {A : Dk} {s t : ByteArray} {i : Int} {b : List Int} {l : List Cel}
theorem at_set (hs : Sorted A.files) (l : List Cel) : (A.set s l).at t = if s = t then l else A.at t := by
  unfold Dk.at Dk.set
  rw [lk_put _ _ _ hs]
  split <;> rfl
theorem lk_set (hs : Sorted A.files) (l : List Cel) : lk (A.set s l).files t = if s = t then some l else lk A.files t := lk_put _ _ _ hs
theorem burnt_forever (h : A.fuse = -1) : A.burnt = A := by
  unfold Dk.burnt burnI
  rw [h]
  simp only [gt_iff_lt, Int.reduceNeg, Int.reduceLT, if_false]
  cases A
  simp only at h
  rw [h]
theorem goes_forever (h : A.fuse = -1) : A.goes = true := by
  unfold Dk.goes burnI
  rw [h]; rfl
theorem write_first (hn : namedB s = true) (hb : b.length = 128) (hat : A.at s = []) (hf : 0 < A.free) (hg : A.goes = true) : A.write s 0 b = (0, A.burnt.set s [Cel.zero.wrote b]) := by
  unfold Dk.write
  rw [if_neg (by simp [hn, hb, hat]), if_neg (by simp [hg]), if_neg (by omega), if_pos (by simp [hat]), hat]
  rfl
theorem write_other (hs : Sorted A.files) (hne : s ≠ t) : lk (A.write s i b).2.files t = lk A.files t := by
  unfold Dk.write
  split
  · rfl
  · split
    · rfl
    · split
      · rfl
      · split
        · show lk (A.burnt.set s _).files t = _
          rw [lk_set (A := A.burnt) hs, if_neg hne]; rfl
        · show lk (A.burnt.set s _).files t = _
          rw [lk_set (A := A.burnt) hs, if_neg hne]; rfl
theorem write_forever (h : A.fuse = -1) : (A.write s i b).2.fuse = -1 := by
  have e := burnt_forever h
  unfold Dk.write
  rw [e]
  split
  · exact h
  · split
    · exact h
    · split
      · exact h
      · split <;> exact h
theorem sync_some (hl : lk A.files s = some l) (hg : A.goes = true) : A.sync s = (0, A.burnt.set s (l.map Cel.syncd)) := by
  unfold Dk.sync
  rw [hl]
  simp [hg]
theorem cel_at (hl : lk A.files s = some l) (k : Nat) : A.cel s k = l[k]? := by
  unfold Dk.cel Dk.at
  rw [if_pos (by omega), hl]; rfl
end
theorem celAt_view {A : Dk} {es : Array MapEntry} {clock : Nat} {fs : List Fil} (hv : View A es clock fs) (s : ByteArray) (i : Int) : (celAt fs s i).map (·.2) = A.cel s i := by
  have h := hv.same s
  unfold celAt Dk.cel Dk.at
  unfold lkF at h
  cases hf : fs.find? (fun f => decide (f.name = s)) with
  | none =>
    rw [hf] at h
    rw [← h]
    simp
  | some f =>
    rw [hf] at h
    simp only [Option.map_some] at h
    rw [← h]
    simp only [Option.getD_some]
    by_cases h0 : 0 ≤ i
    · rw [if_pos h0]
      by_cases h1 : i < f.cels.length
      · rw [if_pos ⟨h0, h1⟩, Fil.cs, List.getElem?_map]
      · rw [if_neg (fun h => h1 h.2), Fil.cs, List.getElem?_map, List.getElem?_eq_none (by omega)]
    · rw [if_neg h0, if_neg (fun h => h0 h.1)]; rfl
def readEnd (E : Env) (q : HP) (r : Option Cel) (e : Ending) (w' : World) : Prop :=
  match r with
  | none => e = .returned (.tuple #[.slice none 0 0, .int .i64 30]) ∧ Sat E w' q
  | some c => ∃ v, e = .returned (.tuple #[v, .int .i64 0]) ∧ Sat E w' (HP.row 5 1 v 128 (b8s c.read) * q)
theorem disk_read_ok (E : Env) (q : HP) (d : Nat) (A : Dk) (name : ByteArray) (i : Int) (w : World) (hn : name.size ≤ maxLen) (hw : Sat E w (HP.disk d A * q)) :
    Calls Tryd.prog 25 #[.pointer (some ⟨d, 0, none⟩), .string name, .int .i64 i] w (readEnd E (HP.disk d A * q) (A.cel name i)) := by
  obtain ⟨m, es, clock, fs, hv, hd⟩ := hw.disk_open
  refine (disk_read E q d A.room A.fuse m es clock fs name i w hn hv.map hv.good hd).mono fun e w' h => ?_
  rw [← celAt_view hv]
  unfold readPost at h
  unfold readEnd
  cases hc : celAt fs name i with
  | none => rw [hc] at h; exact ⟨h.1, Sat.disk_close hv h.2⟩
  | some x =>
    rw [hc] at h
    obtain ⟨v, he, hs⟩ := h
    exact ⟨v, he, (Sat.disk_close (q := HP.row 5 1 v 128 (b8s x.2.read) * q) hv (hs.perm (HP.left_comm _ _ _))).perm (HP.left_comm _ _ _)⟩
/-- Elements of several cells. -/
theorem flat_get {α : Type} (f : α → List Value) (n : Nat) (l : List α) (hn : ∀ x, (f x).length = n) (i k : Nat) (x : α) (h : l[i]? = some x) (hk : k < n) : (l.flatMap f)[i * n + k]? = (f x)[k]? := by
  induction l generalizing i with
  | nil => simp at h
  | cons y l ih =>
    rw [List.flatMap_cons]
    cases i with
    | zero =>
      simp only [List.getElem?_cons_zero, Option.some.injEq] at h
      subst h
      rw [Nat.zero_mul, Nat.zero_add, List.getElem?_append_left (by rw [hn]; exact hk)]
    | succ i =>
      simp only [List.getElem?_cons_succ] at h
      rw [List.getElem?_append_right (by rw [hn, Nat.add_mul]; omega), hn, ← ih i h]
      congr 1
      rw [Nat.add_mul, Nat.one_mul]
      omega
theorem StepV.vals_length (s : StepV) : s.vals.length = 8 := rfl
end Go.Proofs.YtnllmkpbnccllaaDoor
/- (*Disk).Remove, Extents, Free, Fuse: over a disk told by its files. -/
namespace Go.Proofs.YtnllmkpbnccllaaDoor
open Go.RowKit HP
set_option linter.unusedSimpArgs false
set_option linter.unusedVariables false

set_option maxHeartbeats 1000000 in
set_option maxRecDepth 100000 in
theorem disk_extents (E : Env) (q : HP) (d : Nat) (A : Dk) (name : ByteArray) (w : World) (hn : name.size ≤ maxLen) (hw : Sat E w (HP.disk d A * q)) :
    Calls Tryd.prog 19 #[.pointer (some ⟨d, 0, none⟩), .string name] w fun e w' => e = .returned (.int .i64 ((A.at name).length : Int)) ∧ w' = w := by
  obtain ⟨m, es, clock, fs, hv, hd⟩ := hw.disk_open
  have hsm := at_small hv.fine name
  obtain ⟨k, hk⟩ : ∃ k, k = (A.at name).length := ⟨_, rfl⟩
  simp only [← hk] at hsm ⊢
  clear hw
  go_enter Tryd.func19, Tryd.ntmps19
  go_wp2_with fail
  refine (disk_none E _ d _ _ m w (dk_parts hd)).mono ?_
  rintro e w1 ⟨rfl, rfl⟩
  have c1 := (dk_parts hd).cell 1
  simp only [List.getElem?_toArray, List.getElem?_cons_zero, List.getElem?_cons_succ] at c1
  obtain ⟨v, B, cc, hvB, hlook, -, -⟩ := find_file hv hd name hn
  rw [hvB] at hlook
  clear hvB hd hv
  rw [← hk] at hlook
  clear hk
  go_wp2
  go_ret
  exact ⟨rfl, rfl⟩
theorem disk_free_ok (E : Env) (q : HP) (d : Nat) (A : Dk) (w : World) (hw : Sat E w (HP.disk d A * q)) :
    Calls Tryd.prog 28 #[.pointer (some ⟨d, 0, none⟩)] w fun e w' => e = .returned (.int .i64 A.free) ∧ Sat E w' (HP.disk d A * q) := by
  obtain ⟨m, es, clock, fs, hv, hd⟩ := hw.disk_open
  refine (disk_free E q d A.room A.fuse m es clock fs w hv.map hv.fine.room (by rw [hv.total]; have := hv.size_le; omega) hd).mono ?_
  rintro e w' ⟨rfl, h⟩
  exact ⟨by rw [hv.total]; rfl, Sat.disk_close hv h⟩
theorem disk_fuse_ok (E : Env) (q : HP) (d : Nat) (A : Dk) (n : Int) (w : World) (hn : n ≤ 9223372036854775807) (hw : Sat E w (HP.disk d A * q)) :
    Calls Tryd.prog 85 #[.pointer (some ⟨d, 0, none⟩), .int .i64 n] w fun e w' => (n < 0 ∧ e = .returned (.int .i64 1) ∧ Sat E w' (HP.disk d A * q)) ∨ (0 ≤ n ∧ e = .returned (.int .i64 0) ∧ Sat E w' (HP.disk d { A with fuse := n } * q)) := by
  obtain ⟨m, es, clock, fs, hv, hd⟩ := hw.disk_open
  refine (disk_fuse E _ d _ _ m n w (dk_parts hd)).mono ?_
  rintro e w' (⟨h1, rfl, rfl⟩ | ⟨h1, rfl, h⟩)
  · exact .inl ⟨h1, rfl, hw⟩
  · refine .inr ⟨h1, rfl, Sat.disk_close (m := m) (hv.fuel n ⟨by omega, hn⟩) (h.perm ?_)⟩
    unfold HP.dk
    ac_rfl
/-- Whether a disk was made: 'Fuse(-1)' of one that was. -/
theorem disk_asked (E : Env) (q : HP) (d : Nat) (A : Dk) (w : World) (hw : Sat E w (HP.disk d A * q)) :
    Calls Tryd.prog 85 #[.pointer (some ⟨d, 0, none⟩), .int .i64 (-1)] w fun e w' => e = .returned (.int .i64 1) ∧ Sat E w' (HP.disk d A * q) :=
  (disk_fuse_ok E q d A (-1) w (by omega) hw).mono fun e w' h => by
    rcases h with ⟨_, he, hs⟩ | ⟨h0, _, _⟩
    · exact ⟨he, hs⟩
    · omega
set_option maxHeartbeats 1000000 in
set_option maxRecDepth 100000 in
theorem disk_remove (E : Env) (q : HP) (d : Nat) (A : Dk) (name : ByteArray) (w : World) (hn : name.size ≤ maxLen) (hw : Sat E w (HP.disk d A * q)) :
    Calls Tryd.prog 57 #[.pointer (some ⟨d, 0, none⟩), .string name] w fun e w' => e = .returned (.int .i64 (A.remove name).1) ∧ Sat E w' (HP.disk d (A.remove name).2 * q) := by
  obtain ⟨m, es, clock, fs, hv, hd⟩ := hw.disk_open
  have hfu := hv.fine.fuse
  have HF : Aside (A.remove name = match lk A.files name with
    | none => (30, A)
    | some _ => if A.goes = false then (31, A.burnt) else (0, { A.burnt with files := delF A.files name })) := ⟨rfl⟩
  clear hw
  go_enter Tryd.func57, Tryd.ntmps57
  go_wp2_with fail
  refine (disk_none E _ d _ _ m w (dk_parts hd)).mono ?_
  rintro e w1 ⟨rfl, rfl⟩
  have c1 := (dk_parts hd).cell 1
  simp only [List.getElem?_toArray, List.getElem?_cons_zero, List.getElem?_cons_succ] at c1
  obtain ⟨v, B, cc, hvB, -, hlook, hcase⟩ := find_file hv hd name hn
  clear hvB
  rcases hcase with ⟨hlk, -⟩ | ⟨j, f, hj, hname, hfv, hlk⟩
  · rw [hlk] at HF hlook
    have HT : Aside (A.remove name = (30, A) ∧ Sat E w1 (HP.disk d A * q)) := ⟨HF.out, Sat.disk_close hv hd⟩
    clear HF hd hv hlk hfu
    go_wp2
    go_ret
    rw [HT.out.1]
    exact ⟨rfl, HT.out.2⟩
  · rw [hlk] at HF hlook
    subst hname
    have HV := Aside.mk (And.intro hv hj)
    clear hlk hv hj hfv
    go_wp2_with fail
    refine (disk_burn E _ d _ _ m w1 hfu.2 (dk_parts hd)).mono ?_
    rintro e w3 ⟨rfl, hd3⟩
    cases hgo : A.goes with
    | false =>
      have hgo' : (burnI A.fuse).2 = false := hgo
      rw [hgo']
      have HT : Aside (A.remove f.name = (31, A.burnt) ∧ Sat E w3 (HP.disk d A.burnt * q)) := ⟨by rw [HF.out]; simp [hgo], Sat.disk_close HV.out.1.burnt (burnt_dsk hd3)⟩
      clear HF hd hd3 HV hgo hgo' hfu hlook c1
      go_wp2
      go_ret
      rw [HT.out.1]
      exact ⟨rfl, HT.out.2⟩
    | true =>
      have hgo' : (burnI A.fuse).2 = true := hgo
      rw [hgo']
      have HS : Aside (A.remove f.name = (0, { A.burnt with files := delF A.files f.name })) := ⟨by rw [HF.out]; simp [hgo]⟩
      obtain ⟨hv, hj⟩ := HV.out
      have c3 := hd3.cell 1
      simp only [List.getElem?_toArray, List.getElem?_cons_zero, List.getElem?_cons_succ] at c3
      have hrun : (Builtin.delete_ #[29, 9] 0 #[.map (some m), .string f.name]).run Tryd.prog w3 = .ok (.tuple #[]) (ChangeMaps.setBlock w3 m (.map (es.eraseIdxIfInBounds j) clock)) := by
        rcases delete_str (P := Tryd.prog) (t := 29) (ty := 0) Tryd.underlying9 Tryd.underlying29 hd3.s2.get hv.map.1 f.name hn with ⟨hno, -⟩ | ⟨i, x, hi, hx, h⟩
        · have h1 : (Value.string f.name, f.val) ∈ fs.map (fun f => (Value.string f.name, f.val)) := List.mem_map.2 ⟨f, List.mem_of_getElem? hj, rfl⟩
          rw [← hv.map.2.1] at h1
          obtain ⟨x, hx, hxe⟩ := List.mem_map.1 h1
          simp only [Prod.mk.injEq] at hxe
          exact absurd hxe.1 (hno x hx)
        · have h6 := congrArg (fun l => l[i]?) hv.map.2.1
          simp only [List.getElem?_map, hi, Option.map_some] at h6
          cases hfi : fs[i]? with
          | none => rw [hfi] at h6; cases h6
          | some g =>
            rw [hfi] at h6
            simp only [Option.map_some, Option.some.injEq, Prod.mk.injEq] at h6
            have hgn : g.name = f.name := by
              have := h6.1.symm.trans hx
              injection this
            have hil : i < fs.length := (List.getElem?_eq_some_iff.1 hfi).1
            have hij : i = j := by
              have e1 : (fs.map (·.name))[i]? = some f.name := by rw [List.getElem?_map, hfi, ← hgn]; rfl
              have e2 : (fs.map (·.name))[j]? = some f.name := by rw [List.getElem?_map, hj]; rfl
              exact (List.getElem?_inj (by simpa using hil) hv.map.2.2.1).1 (e1.trans e2.symm)
            subst hij
            exact h
      have h4 : Sat E (ChangeMaps.setBlock w3 m (.map (es.eraseIdxIfInBounds j) clock)) (HP.disk d { A.burnt with files := delF A.files f.name } * q) := by
        have h5 := Sat.setBlk hd3.s2 (.map (es.eraseIdxIfInBounds j) clock)
        refine Sat.disk_close (m := m) (hv.burnt.erase hj) ?_
        have h6 : Sat E (ChangeMaps.setBlock w3 m (.map (es.eraseIdxIfInBounds j) clock)) (HP.all (fs.map HP.fil) * (HP.pt m (.map (es.eraseIdxIfInBounds j) clock) * (HP.dsk d A.room (burnI A.fuse).1 m * q))) := h5.perm (by ac_rfl)
        rw [all_take (l := fs.map HP.fil) (j := j) (p := HP.fil f) (by rw [List.getElem?_map, hj]; rfl), map_erase] at h6
        exact (h6.perm (HP.mul_assoc _ _ _)).right.perm (by unfold HP.dk; show _ = HP.dsk d A.room (burnI A.fuse).1 m * _ * q; ac_rfl)
      have HT := Aside.mk (And.intro HS.out h4)
      clear HF hd hd3 HV hgo hgo' hfu hlook c1 hv hj h4 HS
      go_wp2_with (at_builtin; refine wpList_delete_run rfl rfl rfl rfl hrun ?_)
      go_ret
      rw [HT.out.1]
      exact ⟨rfl, HT.out.2⟩
end Go.Proofs.YtnllmkpbnccllaaDoor
/- A disk that no call made: what every call answers. -/
namespace Go.Proofs.YtnllmkpbnccllaaDoor
open Go.RowKit HP
set_option linter.unusedSimpArgs false
set_option linter.unusedVariables false

set_option maxHeartbeats 1000000 in
set_option maxRecDepth 100000 in
theorem none_write (p : Value) (s : ByteArray) (i : Int) (v : Value) (w : World) (hn : Calls Tryd.prog 58 #[p] w fun e w' => e = .returned (.bool true) ∧ w' = w) : Calls Tryd.prog 52 #[p, .string s, .int .i64 i, v] w fun e w' => e = .returned (.int .i64 2) ∧ w' = w := by
  go_enter Tryd.func52, Tryd.ntmps52
  go_wp2_with fail
  refine hn.mono ?_
  rintro e w1 ⟨rfl, rfl⟩
  clear hn
  go_wp2
  go_ret
  exact ⟨rfl, rfl⟩
set_option maxHeartbeats 1000000 in
set_option maxRecDepth 100000 in
theorem none_sync (p : Value) (s : ByteArray) (w : World) (hn : Calls Tryd.prog 58 #[p] w fun e w' => e = .returned (.bool true) ∧ w' = w) : Calls Tryd.prog 53 #[p, .string s] w fun e w' => e = .returned (.int .i64 2) ∧ w' = w := by
  go_enter Tryd.func53, Tryd.ntmps53
  go_wp2_with fail
  refine hn.mono ?_
  rintro e w1 ⟨rfl, rfl⟩
  clear hn
  go_wp2
  go_ret
  exact ⟨rfl, rfl⟩
set_option maxHeartbeats 1000000 in
set_option maxRecDepth 100000 in
theorem none_remove (p : Value) (s : ByteArray) (w : World) (hn : Calls Tryd.prog 58 #[p] w fun e w' => e = .returned (.bool true) ∧ w' = w) : Calls Tryd.prog 57 #[p, .string s] w fun e w' => e = .returned (.int .i64 2) ∧ w' = w := by
  go_enter Tryd.func57, Tryd.ntmps57
  go_wp2_with fail
  refine hn.mono ?_
  rintro e w1 ⟨rfl, rfl⟩
  clear hn
  go_wp2
  go_ret
  exact ⟨rfl, rfl⟩
set_option maxHeartbeats 1000000 in
set_option maxRecDepth 100000 in
theorem none_rot (p : Value) (s : ByteArray) (i k m : Int) (w : World) (hn : Calls Tryd.prog 58 #[p] w fun e w' => e = .returned (.bool true) ∧ w' = w) : Calls Tryd.prog 20 #[p, .string s, .int .i64 i, .int .i64 k, .int .u8 m] w fun e w' => e = .returned (.int .i64 2) ∧ w' = w := by
  go_enter Tryd.func20, Tryd.ntmps20
  go_wp2_with fail
  refine hn.mono ?_
  rintro e w1 ⟨rfl, rfl⟩
  clear hn
  go_wp2
  go_ret
  exact ⟨rfl, rfl⟩
set_option maxHeartbeats 1000000 in
set_option maxRecDepth 100000 in
theorem none_fuse (p : Value) (n : Int) (w : World) (hn : Calls Tryd.prog 58 #[p] w fun e w' => e = .returned (.bool true) ∧ w' = w) : Calls Tryd.prog 85 #[p, .int .i64 n] w fun e w' => e = .returned (.int .i64 2) ∧ w' = w := by
  go_enter Tryd.func85, Tryd.ntmps85
  go_wp2_with fail
  refine hn.mono ?_
  rintro e w1 ⟨rfl, rfl⟩
  clear hn
  go_wp2
  go_ret
  exact ⟨rfl, rfl⟩
set_option maxHeartbeats 1000000 in
set_option maxRecDepth 100000 in
theorem none_read (p : Value) (s : ByteArray) (i : Int) (w : World) (hn : Calls Tryd.prog 58 #[p] w fun e w' => e = .returned (.bool true) ∧ w' = w) : Calls Tryd.prog 25 #[p, .string s, .int .i64 i] w fun e w' => e = .returned (.tuple #[.slice none 0 0, .int .i64 2]) ∧ w' = w := by
  go_enter Tryd.func25, Tryd.ntmps25
  go_wp2_with fail
  refine hn.mono ?_
  rintro e w1 ⟨rfl, rfl⟩
  clear hn
  go_wp2
  go_ret2
  exact ⟨rfl, rfl⟩
set_option maxHeartbeats 1000000 in
set_option maxRecDepth 100000 in
theorem none_extents (p : Value) (s : ByteArray) (w : World) (hn : Calls Tryd.prog 58 #[p] w fun e w' => e = .returned (.bool true) ∧ w' = w) : Calls Tryd.prog 19 #[p, .string s] w fun e w' => e = .returned (.int .i64 0) ∧ w' = w := by
  go_enter Tryd.func19, Tryd.ntmps19
  go_wp2_with fail
  refine hn.mono ?_
  rintro e w1 ⟨rfl, rfl⟩
  clear hn
  go_wp2
  go_ret
  exact ⟨rfl, rfl⟩
set_option maxHeartbeats 1000000 in
set_option maxRecDepth 100000 in
theorem none_free (p : Value)  (w : World) (hn : Calls Tryd.prog 58 #[p] w fun e w' => e = .returned (.bool true) ∧ w' = w) : Calls Tryd.prog 28 #[p] w fun e w' => e = .returned (.int .i64 0) ∧ w' = w := by
  go_enter Tryd.func28, Tryd.ntmps28
  go_wp2_with fail
  refine hn.mono ?_
  rintro e w1 ⟨rfl, rfl⟩
  clear hn
  go_wp2
  go_ret
  exact ⟨rfl, rfl⟩
set_option maxHeartbeats 1000000 in
set_option maxRecDepth 100000 in
theorem none_list (p : Value)  (w : World) (hn : Calls Tryd.prog 58 #[p] w fun e w' => e = .returned (.bool true) ∧ w' = w) : Calls Tryd.prog 60 #[p] w fun e w' => e = .returned (.slice none 0 0) ∧ w' = w := by
  go_enter Tryd.func60, Tryd.ntmps60
  go_wp2_with fail
  refine hn.mono ?_
  rintro e w1 ⟨rfl, rfl⟩
  clear hn
  go_wp2
  go_ret
  exact ⟨rfl, rfl⟩
set_option maxHeartbeats 1000000 in
set_option maxRecDepth 100000 in
theorem none_damaged (p : Value)  (w : World) (hn : Calls Tryd.prog 58 #[p] w fun e w' => e = .returned (.bool true) ∧ w' = w) : Calls Tryd.prog 26 #[p] w fun e w' => e = .returned (.slice none 0 0) ∧ w' = w := by
  go_enter Tryd.func26, Tryd.ntmps26
  go_wp2_with fail
  refine hn.mono ?_
  rintro e w1 ⟨rfl, rfl⟩
  clear hn
  go_wp2
  go_ret
  exact ⟨rfl, rfl⟩
set_option maxHeartbeats 1000000 in
set_option maxRecDepth 100000 in
theorem none_copy (p : Value)  (w : World) (hn : Calls Tryd.prog 58 #[p] w fun e w' => e = .returned (.bool true) ∧ w' = w) : Calls Tryd.prog 21 #[p] w fun e w' => e = .returned (.pointer none) ∧ w' = w := by
  go_enter Tryd.func21, Tryd.ntmps21
  go_wp2_with fail
  refine hn.mono ?_
  rintro e w1 ⟨rfl, rfl⟩
  clear hn
  go_wp2
  go_ret
  exact ⟨rfl, rfl⟩
end Go.Proofs.YtnllmkpbnccllaaDoor
/- pair: halves, none. -/
namespace Go.Proofs.YtnllmkpbnccllaaDoor
open Go.RowKit HP
set_option linter.unusedSimpArgs false
set_option linter.unusedVariables false

def dotA : ByteArray := ⟨#[46, 97]⟩
def dotB : ByteArray := ⟨#[46, 98]⟩
theorem agTwo : AgTy Tryd.prog 82 2 := ⟨⟨_, Tryd.underlying82, rfl⟩, by kernel_rfl⟩
set_option maxHeartbeats 1000000 in
set_option maxRecDepth 100000 in
theorem pair_halves (E : Env) (q : HP) (name : ByteArray) (w : World) (hn : name.size + 2 ≤ maxLen) (hw : Sat E w q) :
    Calls Tryd.prog 49 #[.string name] w fun e w' => e = .returned (.agg #[.string (name ++ dotA), .string (name ++ dotB)]) ∧ Sat E w' q := by
  have HW := Aside.mk hw
  have hn2 : name.size + 2 ≤ 9223372036854775807 := by unfold maxLen at hn; omega
  unfold dotA dotB
  go_enter Tryd.func49, Tryd.ntmps49
  have h1 := hw.alloc (.cells [.string (name ++ ⟨#[46, 97]⟩), .string (name ++ ⟨#[46, 98]⟩)].toArray 82)
  have r1 := run_loadAgg (P := Tryd.prog) (n := 2) agTwo rfl (Sat.ptCells (off := 0) (l := [.string (name ++ ⟨#[46, 97]⟩), .string (name ++ ⟨#[46, 98]⟩)]) h1 rfl)
  go_wp2
  exact ⟨rfl, _, results_cell (t := 2) (by kernel_rfl) rfl r1, rfl, h1.right⟩
set_option maxHeartbeats 1000000 in
set_option maxRecDepth 100000 in
theorem pair_none (E : Env) (q : HP) (d : Nat) (A : Dk) (w : World) (hw : Sat E w (HP.disk d A * q)) :
    Calls Tryd.prog 48 #[.pointer (some ⟨d, 0, none⟩)] w fun e w' => e = .returned (.bool false) ∧ Sat E w' (HP.disk d A * q) := by
  have HW := Aside.mk hw
  clear hw
  go_enter Tryd.func48, Tryd.ntmps48
  go_wp2_with fail
  refine (disk_asked E q d A _ HW.out).mono ?_
  rintro e w1 ⟨rfl, h1⟩
  have H1 := Aside.mk h1
  clear h1
  go_wp2
  go_ret
  exact ⟨rfl, H1.out⟩
end Go.Proofs.YtnllmkpbnccllaaDoor
/- pair.write. -/
namespace Go.Proofs.YtnllmkpbnccllaaDoor
open Go.RowKit HP
set_option linter.unusedSimpArgs false
set_option linter.unusedVariables false

/-- Payloads written to a file, one behind the other, and synced. -/
def wrF (A : Dk) (f : ByteArray) (gen : Nat) : Nat → List (List Int) → Int × Dk
  | _, [] => A.sync f
  | i, p :: r =>
    if ¬ FrameOk i gen p.length then (1, A)
    else if (A.write f i (extI f i gen p)).1 = 0 then wrF (A.write f i (extI f i gen p)).2 f gen (i + 1) r
    else A.write f i (extI f i gen p)
def wrL (A : Dk) (i gen : Nat) (ps : List (List Int)) : List ByteArray → Int × Dk
  | [] => (0, A)
  | f :: r => if (wrF A f gen i ps).1 = 0 then wrL (wrF A f gen i ps).2 i gen ps r else wrF A f gen i ps
def halvesL (name : ByteArray) : List ByteArray := [name ++ dotA, name ++ dotB]
def wrP (A : Dk) (name : ByteArray) (i gen : Nat) (ps : List (List Int)) : Int × Dk := wrL A i gen ps (halvesL name)
def Sl.val8 (s : Sl Int) : Value := .slice s.A s.l.length s.cap
structure PayOk (s : Sl Int) : Prop where
  len : s.l.length ≤ s.cap
  bytes : Bytes s.l
theorem dotA_size (name : ByteArray) : (name ++ dotA).size = name.size + 2 := by rw [ByteArray.size_append]; rfl
theorem dotB_size (name : ByteArray) : (name ++ dotB).size = name.size + 2 := by rw [ByteArray.size_append]; rfl
set_option maxHeartbeats 2000000 in
set_option maxRecDepth 100000 in
theorem pair_write (E : Env) (q : HP) (d : Nat) (A : Dk) (name : ByteArray) (at_ gen : Nat) (Ap : Option Addr) (ss : List (Sl Int)) (n c : Nat) (w : World) (hname : name.size + 2 ≤ maxLen) (hat : (at_ : Int) ≤ 2147483647) (hgen : (gen : Int) ≤ 4611686018427387904)
    (hn : ss.length = n) (hnm : n ≤ maxLen) (hss : ∀ s ∈ ss, PayOk s) (hq : ∀ w, Sat E w q → Quarter w ∧ Cells w Ap (ss.map Sl.val8) ∧ ∀ s ∈ ss, Cells w s.A (b8s s.l)) (hw : Sat E w (HP.disk d A * q)) :
    Calls Tryd.prog 56 #[.pointer (some ⟨d, 0, none⟩), .string name, .int .i64 at_, .int .i64 gen, .slice Ap n c] w fun e w' => e = .returned (.int .i64 (wrP A name at_ gen (ss.map (·.l))).1) ∧ Sat E w' (HP.disk d (wrP A name at_ gen (ss.map (·.l))).2 * q) := by
  obtain ⟨ps, hps⟩ : ∃ ps, ps = ss.map (·.l) := ⟨_, rfl⟩
  rw [← hps]
  have hfa : (name ++ dotA).size ≤ maxLen := by rw [dotA_size]; exact hname
  have hfb : (name ++ dotB).size ≤ maxLen := by rw [dotB_size]; exact hname
  have HF : Aside (halvesL name = [name ++ dotA, name ++ dotB]) := ⟨rfl⟩
  have HR : Aside (wrP A name at_ gen ps = wrL A at_ gen ps (halvesL name)) := ⟨rfl⟩
  have HQ := Aside.mk (And.intro hq (And.intro hss (And.intro hn (And.intro hps hw))))
  clear hq hss hn hps hw
  have hnm' : (n : Int) ≤ 9223372036854775807 := by unfold maxLen at hnm; omega
  go_enter Tryd.func56, Tryd.ntmps56
  go_wp2_with fail
  refine (pair_halves E _ name _ hname HQ.out.2.2.2.2).mono ?_
  rintro e w1 ⟨rfl, h1⟩
  obtain ⟨fa, hfae⟩ : ∃ fa, fa = name ++ dotA := ⟨_, rfl⟩
  obtain ⟨fb, hfbe⟩ : ∃ fb, fb = name ++ dotB := ⟨_, rfl⟩
  rw [← hfae] at hfa HF ⊢
  rw [← hfbe] at hfb HF ⊢
  clear hfae hfbe
  have H1 := Aside.mk h1
  clear h1
  have i0 : ∀ w, (Instr.index 82 (.agg #[.string fa, .string fb]) (.int .i64 0)).run Tryd.prog w = .ok (.string fa) w := fun w => by kernel_rfl
  have i1 : ∀ w, (Instr.index 82 (.agg #[.string fa, .string fb]) (.int .i64 1)).run Tryd.prog w = .ok (.string fb) w := fun w => by kernel_rfl
  go_wp2
  go_loopw [20] (fun v20 wr => ∃ (h : Nat) (A' : Dk), h ≤ 2 ∧ v20 = .int .i64 h ∧ Aside (wrL A' at_ gen ps ((halvesL name).drop h) = wrP A name at_ gen ps) ∧ Aside (Sat E wr (HP.disk d A' * q))) (fun i _ => 2 - (intOf i).toNat)
  case atStart => exact ⟨0, A, by omega, rfl, ⟨by rw [HR.out]; rfl⟩, H1⟩
  case round =>
    obtain ⟨h, A', hh, rfl, HA, HS⟩ := hrel
    by_cases hlt : h < 2
    · obtain ⟨f, hf, hff, hix⟩ : ∃ f : ByteArray, f.size ≤ maxLen ∧ (halvesL name).drop h = f :: (halvesL name).drop (h + 1) ∧ ∀ w, (Instr.index 82 (.agg #[.string fa, .string fb]) (.int .i64 (h : Int))).run Tryd.prog w = .ok (.string f) w := by
        rw [HF.out]
        rcases Nat.lt_or_ge h 1 with h0 | h0
        · obtain rfl : h = 0 := by omega
          exact ⟨fa, hfa, rfl, i0⟩
        · obtain rfl : h = 1 := by omega
          exact ⟨fb, hfb, rfl, i1⟩
      rw [hff] at HA
      clear hff
      have hlt2 : (h : Int) < 2 := by omega
      have HW : Aside (wrL A' at_ gen ps (f :: (halvesL name).drop (h + 1)) = if (wrF A' f gen at_ ps).1 = 0 then wrL (wrF A' f gen at_ ps).2 at_ gen ps ((halvesL name).drop (h + 1)) else wrF A' f gen at_ ps) := ⟨rfl⟩
      go_wp2
      go_loopw [25] (fun v25 w2 => ∃ (k : Nat) (B : Dk), k ≤ n ∧ (at_ : Int) + k ≤ 2147483648 ∧ v25 = .int .i64 k ∧ Aside (wrF B f gen (at_ + k) (ps.drop k) = wrF A' f gen at_ ps) ∧ Aside (Sat E w2 (HP.disk d B * q))) (fun i _ => n - (intOf i).toNat)
      case atStart => exact ⟨0, A', by omega, by omega, rfl, ⟨by rw [Nat.add_zero]; rfl⟩, HS⟩
      case round =>
        obtain ⟨k, B, hk, hak, rfl, HB, HT⟩ := hrel
        by_cases hkn : k < n
        · have hks : k < ss.length := by rw [HQ.out.2.2.1]; exact hkn
          obtain ⟨ap, rfl, hcx⟩ := (HQ.out.1 _ HT.out.right).2.1.at_ k (by rw [List.length_map]; exact hks)
          rw [List.getElem_map] at hcx
          obtain ⟨s, hs⟩ : ∃ s, s = ss[k] := ⟨_, rfl⟩
          have hsm : s ∈ ss := by rw [hs]; exact List.getElem_mem hks
          have hpk : ps.drop k = s.l :: ps.drop (k + 1) := by
            rw [HQ.out.2.2.2.1, List.drop_eq_getElem_cons (by rw [List.length_map]; exact hks), List.getElem_map, ← hs]
          rw [← hs] at hcx
          rw [hpk] at HB
          clear hs hpk hks
          have hso := HQ.out.2.1 s hsm
          have hkn2 : (k : Int) < n := by omega
          unfold Sl.val8 at hcx
          have HN : Aside (wrF B f gen (at_ + k) (s.l :: ps.drop (k + 1)) = if ¬ FrameOk ((at_ + k : Nat) : Int) gen s.l.length then (1, B)
            else if (B.write f ((at_ + k : Nat) : Int) (extI f (at_ + k) gen s.l)).1 = 0 then wrF (B.write f ((at_ + k : Nat) : Int) (extI f (at_ + k) gen s.l)).2 f gen (at_ + k + 1) (ps.drop (k + 1))
            else B.write f ((at_ + k : Nat) : Int) (extI f (at_ + k) gen s.l)) := ⟨rfl⟩
          rw [HB.out] at HN
          obtain ⟨j, hj⟩ : ∃ j : Nat, (at_ : Int) + k = j := ⟨at_ + k, by omega⟩
          have hj2 : at_ + k = j := by omega
          rw [hj2] at HN
          by_cases hfo : FrameOk (j : Int) gen s.l.length
          · rw [if_neg (by simpa using hfo)] at HN
            obtain ⟨_, hf2, _, _, hf5⟩ := hfo
            go_wp2_with fail
            refine (ext_frame E (HP.disk d B * q) f j gen s.A s.l s.l.length s.cap _ hf hf2 hgen rfl hf5 hso.bytes (fun w h => ⟨(HQ.out.1 _ h.right).1, (HQ.out.1 _ h.right).2.2 s hsm⟩) HT.out).mono ?_
            rintro e w3 ⟨gI, rfl, h3⟩
            have hIl : (extI f j gen s.l).length = 128 := extI_length hf5
            obtain ⟨I, hIe⟩ : ∃ I, I = extI f j gen s.l := ⟨_, rfl⟩
            rw [← hIe] at hIl h3 HN
            clear hIe
            have H3 := Aside.mk (And.intro h3 hIl)
            clear h3 hIl hcx hsm hso
            go_wp2_with fail
            refine (disk_write E (HP.pt gI (.cells (b8s I).toArray 138) * q) d B f j (some ⟨gI, 0, none⟩) I 128 128 _ hf H3.out.2 (by unfold maxLen; omega) (fun w h => Sat.ptCells (off := 0) h (by rw [List.drop_zero, List.take_length])) H3.out.1.s2).mono ?_
            rintro e w4 ⟨rfl, h4⟩
            have H4 := Aside.mk h4.drop2
            clear h4 H3
            by_cases h0 : (B.write f (j : Int) I).1 = 0
            · rw [h0]
              rw [if_pos h0] at HN
              generalize (B.write f (j : Int) I).2 = B2 at *
              have HX : Aside (wrF B2 f gen (at_ + (k + 1)) (ps.drop (k + 1)) = wrF A' f gen at_ ps) := ⟨by rw [HN.out, show at_ + (k + 1) = j + 1 by omega]⟩
              clear HN h0 HB
              go_wp2
              go_roundw
              case rel => exact ⟨k + 1, B2, by omega, by push_cast; omega, by push_cast; rfl, HX, H4⟩
              case measure => simp [intOf]; omega
            · rw [if_neg h0] at HN
              have HX : Aside (wrP A name at_ gen ps = B.write f (j : Int) I) := ⟨by rw [← HA.out, HW.out, HN.out, if_neg h0]⟩
              obtain ⟨ec, hec⟩ : ∃ ec, ec = (B.write f (j : Int) I).1 := ⟨_, rfl⟩
              rw [← hec] at h0 ⊢
              have HE := Aside.mk hec
              clear HN hec HB HA HW
              go_wp2
              go_ret
              rw [HX.out, HE.out]
              exact ⟨rfl, H4.out⟩
          · rw [if_pos hfo] at HN
            have HX : Aside (wrP A name at_ gen ps = (1, B)) := ⟨by rw [← HA.out, HW.out, HN.out]; rfl⟩
            have HFo := Aside.mk hfo
            clear HN HB HA HW hfo
            go_wp2_with fail
            refine (ext_frame_bad f j gen s.A s.l.length s.cap _ HFo.out).mono ?_
            rintro e w3 ⟨rfl, rfl⟩
            clear hcx
            go_wp2
            go_ret
            rw [HX.out]
            exact ⟨rfl, HT.out⟩
        · have hkn' : k = n := by omega
          subst hkn'
          have hpl : ps.drop k = [] := by rw [HQ.out.2.2.2.1]; exact List.drop_eq_nil_of_le (by rw [List.length_map, HQ.out.2.2.1]; exact Nat.le_refl _)
          rw [hpl] at HB
          clear hpl
          have HB2 : Aside (wrF A' f gen at_ ps = B.sync f) := ⟨by rw [← HB.out]; rfl⟩
          clear HB hix i0 i1
          rw [HB2.out] at HW
          go_wp2_with fail
          refine (disk_sync E q d B f _ hf HT.out).mono ?_
          rintro e w4 ⟨rfl, h4⟩
          have H4 := Aside.mk h4
          clear h4
          by_cases h0 : (B.sync f).1 = 0
          · rw [h0]
            rw [if_pos h0] at HW
            have HX : Aside (wrL (B.sync f).2 at_ gen ps ((halvesL name).drop (h + 1)) = wrP A name at_ gen ps) := ⟨by rw [← HW.out, HA.out]⟩
            generalize (B.sync f).2 = B2 at *
            clear HW HA HB2 h0
            go_wp2
            go_roundw
            case rel => exact ⟨h + 1, B2, by omega, by push_cast; rfl, HX, H4⟩
            case measure => simp [intOf]; omega
          · rw [if_neg h0] at HW
            have HX : Aside (wrP A name at_ gen ps = B.sync f) := ⟨by rw [← HA.out, HW.out]⟩
            obtain ⟨ec, hec⟩ : ∃ ec, ec = (B.sync f).1 := ⟨_, rfl⟩
            rw [← hec] at h0 ⊢
            have HE := Aside.mk hec
            clear hec HB2 HA HW
            go_wp2
            go_ret
            rw [HX.out, HE.out]
            exact ⟨rfl, H4.out⟩
    · have hh2 : h = 2 := by omega
      subst hh2
      rw [HF.out] at HA
      have HX : Aside (wrP A name at_ gen ps = (0, A')) := ⟨by rw [← HA.out]; rfl⟩
      clear HA i0 i1
      go_wp2
      go_ret
      rw [HX.out]
      exact ⟨rfl, HS.out⟩
end Go.Proofs.YtnllmkpbnccllaaDoor
/- pair.Put. -/
namespace Go.Proofs.YtnllmkpbnccllaaDoor
open Go.RowKit HP
set_option linter.unusedSimpArgs false
set_option linter.unusedVariables false

def putP (A : Dk) (name : ByteArray) (i gen : Int) (p : List Int) : Int × Dk := if FrameOk i gen p.length then wrP A name i.toNat gen.toNat [p] else (1, A)
set_option maxHeartbeats 2000000 in
set_option maxRecDepth 100000 in
theorem pair_put (E : Env) (q : HP) (d : Nat) (A : Dk) (name : ByteArray) (i gen : Int) (Ap : Option Addr) (p : List Int) (n c : Nat) (w : World) (hname : name.size + 2 ≤ maxLen) (hpn : p.length = n) (hnc : n ≤ c) (hp : Bytes p)
    (hq : ∀ w, Sat E w q → Quarter w ∧ Cells w Ap (b8s p)) (hw : Sat E w (HP.disk d A * q)) :
    Calls Tryd.prog 15 #[.pointer (some ⟨d, 0, none⟩), .string name, .int .i64 i, .int .i64 gen, .slice Ap n c] w fun e w' => e = .returned (.int .i64 (putP A name i gen p).1) ∧ Sat E w' (HP.disk d (putP A name i gen p).2 * q) := by
  have HP' : Aside (putP A name i gen p = if FrameOk i gen n then wrP A name i.toNat gen.toNat [p] else (1, A)) := ⟨by rw [← hpn]; rfl⟩
  have hn2 : name.size ≤ maxLen := by omega
  have HQ := Aside.mk (And.intro hq (And.intro hp (And.intro hpn hw)))
  clear hq hp hpn hw
  by_cases hfo : FrameOk i gen n
  · rw [if_pos hfo] at HP'
    obtain ⟨h1, h2, h3, h4, h5⟩ := hfo
    obtain ⟨i, rfl⟩ := Int.eq_ofNat_of_zero_le h1
    obtain ⟨gen, rfl⟩ := Int.eq_ofNat_of_zero_le h3
    rw [Int.toNat_natCast, Int.toNat_natCast] at HP'
    go_enter Tryd.func15, Tryd.ntmps15
    go_wp2_with fail
    refine (pair_none E q d A _ HQ.out.2.2.2).mono ?_
    rintro e w1 ⟨rfl, k1⟩
    have K1 := Aside.mk k1
    clear k1
    go_wp2_with fail
    refine (ext_frame E (HP.disk d A * q) name i gen Ap p n c _ hn2 h2 h4 HQ.out.2.2.1 h5 HQ.out.2.1 (fun w h => HQ.out.1 _ h.right) K1.out).mono ?_
    rintro e w2 ⟨gI, rfl, k2⟩
    have k3 := (k2.right).alloc (.cells [Value.slice Ap n c].toArray 22)
    have K3 := Aside.mk k3
    clear k2 k3 K1
    go_wp2_with fail
    refine (pair_write E (HP.pt w2.heap.size (.cells [Value.slice Ap n c].toArray 22) * q) d A name i gen (some ⟨w2.heap.size, 0, none⟩) [⟨Ap, c, p⟩] 1 1 _ hname h2 h4 rfl (by unfold maxLen; omega) (fun s hs => by
      have : s = ⟨Ap, c, p⟩ := by simpa using hs
      subst this
      exact ⟨by show p.length ≤ c; rw [HQ.out.2.2.1]; exact hnc, HQ.out.2.1⟩) (fun w h => ⟨(HQ.out.1 _ h.right).1, by
        have := Sat.ptCells (off := 0) (l := [Value.slice Ap n c]) h rfl
        rw [show List.map Sl.val8 [⟨Ap, c, p⟩] = [Value.slice Ap n c] by rw [← HQ.out.2.2.1]; rfl]
        exact this, fun s hs => by
        have : s = ⟨Ap, c, p⟩ := by simpa using hs
        subst this
        exact (HQ.out.1 _ h.right).2⟩) K3.out.s2).mono ?_
    rintro e w3 ⟨rfl, k4⟩
    have K4 := Aside.mk k4.drop2
    clear k4 K3
    have HX : Aside (wrP A name i gen (List.map (·.l) [(⟨Ap, c, p⟩ : Sl Int)]) = putP A name i gen p) := ⟨by rw [HP'.out]; rfl⟩
    rw [HX.out] at K4 ⊢
    go_wp2
    go_ret
    exact ⟨rfl, K4.out⟩
  · rw [if_neg hfo] at HP'
    have HFo := Aside.mk hfo
    clear hfo
    go_enter Tryd.func15, Tryd.ntmps15
    go_wp2_with fail
    refine (pair_none E q d A _ HQ.out.2.2.2).mono ?_
    rintro e w1 ⟨rfl, k1⟩
    have K1 := Aside.mk k1
    clear k1
    go_wp2_with fail
    refine (ext_frame_bad name i gen Ap n c _ HFo.out).mono ?_
    rintro e w2 ⟨rfl, rfl⟩
    go_wp2
    go_ret
    rw [HP'.out]
    exact ⟨rfl, K1.out⟩
end Go.Proofs.YtnllmkpbnccllaaDoor
/- pair.Drop, pair.Need. -/
namespace Go.Proofs.YtnllmkpbnccllaaDoor
open Go.RowKit HP
set_option linter.unusedSimpArgs false
set_option linter.unusedVariables false

def dropL (A : Dk) : List ByteArray → Int × Dk
  | [] => (0, A)
  | f :: r => if (A.at f).length = 0 then dropL A r else if (A.remove f).1 = 0 then dropL (A.remove f).2 r else A.remove f
def dropP (A : Dk) (name : ByteArray) : Int × Dk := dropL A (halvesL name)
set_option maxHeartbeats 2000000 in
set_option maxRecDepth 100000 in
theorem pair_drop (E : Env) (q : HP) (d : Nat) (A : Dk) (name : ByteArray) (w : World) (hname : name.size + 2 ≤ maxLen) (hw : Sat E w (HP.disk d A * q)) :
    Calls Tryd.prog 16 #[.pointer (some ⟨d, 0, none⟩), .string name] w fun e w' => e = .returned (.int .i64 (dropP A name).1) ∧ Sat E w' (HP.disk d (dropP A name).2 * q) := by
  have hfa : (name ++ dotA).size ≤ maxLen := by rw [dotA_size]; exact hname
  have hfb : (name ++ dotB).size ≤ maxLen := by rw [dotB_size]; exact hname
  have HF : Aside (halvesL name = [name ++ dotA, name ++ dotB]) := ⟨rfl⟩
  have HW0 := Aside.mk hw
  clear hw
  go_enter Tryd.func16, Tryd.ntmps16
  go_wp2_with fail
  refine (pair_none E q d A _ HW0.out).mono ?_
  rintro e w0 ⟨rfl, h0⟩
  have H0 := Aside.mk h0
  clear h0
  go_wp2_with fail
  refine (pair_halves E _ name _ hname H0.out).mono ?_
  rintro e w1 ⟨rfl, h1⟩
  obtain ⟨fa, hfae⟩ : ∃ fa, fa = name ++ dotA := ⟨_, rfl⟩
  obtain ⟨fb, hfbe⟩ : ∃ fb, fb = name ++ dotB := ⟨_, rfl⟩
  rw [← hfae] at hfa HF ⊢
  rw [← hfbe] at hfb HF ⊢
  clear hfae hfbe
  have H1 := Aside.mk h1
  clear h1
  have i0 : ∀ w, (Instr.index 82 (.agg #[.string fa, .string fb]) (.int .i64 0)).run Tryd.prog w = .ok (.string fa) w := fun w => by kernel_rfl
  have i1 : ∀ w, (Instr.index 82 (.agg #[.string fa, .string fb]) (.int .i64 1)).run Tryd.prog w = .ok (.string fb) w := fun w => by kernel_rfl
  go_wp2
  go_loopw [12] (fun v12 wr => ∃ (h : Nat) (B : Dk), h ≤ 2 ∧ v12 = .int .i64 h ∧ Aside (dropL B ((halvesL name).drop h) = dropP A name) ∧ Aside (Sat E wr (HP.disk d B * q))) (fun i _ => 2 - (intOf i).toNat)
  case atStart => exact ⟨0, A, by omega, rfl, ⟨rfl⟩, H1⟩
  case round =>
    obtain ⟨h, B, hh, rfl, HA, HS⟩ := hrel
    by_cases hlt : h < 2
    · obtain ⟨f, hf, hff, hix⟩ : ∃ f : ByteArray, f.size ≤ maxLen ∧ (halvesL name).drop h = f :: (halvesL name).drop (h + 1) ∧ ∀ w, (Instr.index 82 (.agg #[.string fa, .string fb]) (.int .i64 (h : Int))).run Tryd.prog w = .ok (.string f) w := by
        rw [HF.out]
        rcases Nat.lt_or_ge h 1 with h0 | h0
        · obtain rfl : h = 0 := by omega
          exact ⟨fa, hfa, rfl, i0⟩
        · obtain rfl : h = 1 := by omega
          exact ⟨fb, hfb, rfl, i1⟩
      have hlt2 : (h : Int) < 2 := by omega
      have HD : Aside (dropL B (f :: (halvesL name).drop (h + 1)) = if (B.at f).length = 0 then dropL B ((halvesL name).drop (h + 1)) else if (B.remove f).1 = 0 then dropL (B.remove f).2 ((halvesL name).drop (h + 1)) else B.remove f) := ⟨rfl⟩
      rw [hff, HD.out] at HA
      clear hff HD
      clear i0 i1
      go_wp2_with fail
      refine (disk_extents E q d B f _ hf HS.out).mono ?_
      rintro e w2 ⟨rfl, rfl⟩
      by_cases hz : (B.at f).length = 0
      · rw [if_pos hz] at HA
        rw [hz]
        clear hz
        go_wp2
        go_roundw
        case rel => exact ⟨h + 1, B, by omega, by push_cast; rfl, HA, HS⟩
        case measure => simp [intOf]; omega
      · rw [if_neg hz] at HA
        obtain ⟨m, hm⟩ : ∃ m, m = (B.at f).length := ⟨_, rfl⟩
        rw [← hm] at hz ⊢
        clear hm
        have hz2 : ((m : Int) == 0) = false := by rw [beq_eq_false_iff_ne]; omega
        have hz3 : ¬ (m : Int) = 0 := by omega
        go_wp2_with fail
        refine (disk_remove E q d B f _ hf HS.out).mono ?_
        rintro e w3 ⟨rfl, h3⟩
        have H3 := Aside.mk h3
        clear h3
        by_cases h0 : (B.remove f).1 = 0
        · rw [if_pos h0] at HA
          rw [h0]
          generalize (B.remove f).2 = B2 at *
          clear h0 hz hz2 hz3
          go_wp2
          go_roundw
          case rel => exact ⟨h + 1, B2, by omega, by push_cast; rfl, HA, H3⟩
          case measure => simp [intOf]; omega
        · rw [if_neg h0] at HA
          obtain ⟨ec, hec⟩ : ∃ ec, ec = (B.remove f).1 := ⟨_, rfl⟩
          rw [← hec] at h0 ⊢
          have HE := Aside.mk hec
          have HX := Aside.mk HA.out.symm
          clear hec HA hz hz2 hz3
          go_wp2
          go_ret
          rw [HX.out, HE.out]
          exact ⟨rfl, H3.out⟩
    · have hh2 : h = 2 := by omega
      subst hh2
      rw [HF.out] at HA
      have HX : Aside (dropP A name = (0, B)) := ⟨by rw [← HA.out]; rfl⟩
      clear HA i0 i1
      go_wp2
      go_ret
      rw [HX.out]
      exact ⟨rfl, HS.out⟩
def needI (n : Int) : Int := if n ≤ 0 then 2 else 2 * ((n - 1) / 106 + 1)
end Go.Proofs.YtnllmkpbnccllaaDoor
/- slices.Chunk: a slice's pieces come, one behind the other. -/
namespace Go.Proofs.YtnllmkpbnccllaaDoor
open Go.RowKit Go.Shelf HP
set_option linter.unusedSimpArgs false
set_option linter.unusedVariables false
attribute [local go_sem] Oper.semAt_some

def chunkN (n : Nat) : Nat := (n + 105) / 106
def chunkM (n k : Nat) : Nat := min 106 (n - 106 * k)
def chunkV (g o n k : Nat) : Value := .slice (some ⟨g, o + 106 * k, none⟩) (chunkM n k) (chunkM n k)
def Keep2 (b1 b2 : Nat) (W W' : World) : Prop := W'.heap[b1]? = W.heap[b1]? ∧ W'.heap[b2]? = W.heap[b2]?
theorem Keep2.refl {b1 b2 : Nat} (W : World) : Keep2 b1 b2 W W := ⟨rfl, rfl⟩
theorem Keep2.trans {b1 b2 : Nat} {W X Y : World} (h : Keep2 b1 b2 W X) (k : Keep2 b1 b2 X Y) : Keep2 b1 b2 W Y := ⟨k.1.trans h.1, k.2.trans h.2⟩
theorem grows_drew (w : World) : w.grownBy w.drew none := ⟨rfl, rfl, rfl, Nat.le_refl _, fun _ _ _ => rfl⟩
set_option maxRecDepth 100000 in
set_option maxHeartbeats 2000000 in
theorem chunk1_in (N : Nat) (hN : 1 ≤ N) (l bS bN : Nat) (A : Option Addr) (g o n c : Nat) (hA : 0 < n → A = some ⟨g, o, none⟩) (hnc : n ≤ c) (hcm : c ≤ maxLen) (hn64 : n ≤ 140737488351232) (J Jx : List Nat → World → Prop)
    (hY : ∀ pre x W, J pre W → pre.length < chunkN n → x < chunkN n → YieldAt Fence.wide (N - 1) Tryd.prog l #[chunkV g o n x] W fun e W' =>
      (e = .returned (.bool true) ∧ J (pre ++ [x]) W' ∧ Keep2 bS bN W W') ∨ (e = .returned (.bool false) ∧ Jx (pre ++ [x]) W'))
    (W : World) (hS : W.cell? ⟨bS, 0, none⟩ = some (.slice A n c)) (hB : W.cell? ⟨bN, 0, none⟩ = some (.int .i64 106)) (h0 : J [] W) (hJ : AbidesFrom W.heap.size J) :
    CallsIn Fence.wide N Tryd.prog 90 #[.func (.yield l) #[] #[], .pointer (some ⟨bS, 0, none⟩), .pointer (some ⟨bN, 0, none⟩)] W fun e W' => (∃ v, e = .returned v) ∧
      ((∃ ys, ys = List.range (chunkN n) ∧ J ys W') ∨ (∃ pre, Jx pre W')) := by
  refine callsIn_of_wp Tryd.func90 rfl trivial ?_ rfl
  simp only [Tryd.ntmps90, List.size_toArray, List.length_cons, List.length_nil, Nat.reduceAdd, Nat.reduceSub, Array.replicate_succ, Array.replicate_zero, List.push_toArray, List.append_toArray, List.nil_append, List.cons_append]
  gi_wp2
  gi_loopw [4] (fun i wr => ∃ k : Nat, k ≤ chunkN n ∧ i = .int .i64 ((106 * k : Nat) : Int) ∧ J (List.range k) wr ∧ Keep2 bS bN W wr) (fun i _ => (106 * chunkN n + 1 - (intOf i).toNat))
  case atStart => exact ⟨0, Nat.zero_le _, rfl, h0, Keep2.refl _⟩
  case round =>
    obtain ⟨k, hk, rfl, hJs, hnx⟩ := hrel
    have hS1 : wr.cell? ⟨bS, 0, none⟩ = some (.slice A n c) := (World.cell?_of_block (w := W) hnx.1).trans hS
    have hB1 : wr.cell? ⟨bN, 0, none⟩ = some (.int .i64 106) := (World.cell?_of_block (w := W) hnx.2).trans hB
    by_cases hlt : k < chunkN n
    · have hkn : 106 * k < n := by unfold chunkN at hlt; omega
      obtain rfl := hA (by omega)
      obtain ⟨j, hj⟩ : ∃ j, j = 106 * k := ⟨_, rfl⟩
      rw [← hj]
      have hjn : j < n := by omega
      have hjn' : (j : Int) < n := by omega
      have hjc : (j : Int) < c := by omega
      have hm : (if ((n - j : Nat) : Int) < 106 then ((n - j : Nat) : Int) else 106) = ((min 106 (n - j) : Nat) : Int) := by split <;> omega
      have hjle : j ≤ n := by omega
      have hcj : ¬ c = j := by omega
      have hlt' := hlt
      have HK : Aside (k < chunkN n) := ⟨hlt⟩
      clear hlt'
      have HJ := Aside.mk hj
      have HM := Aside.mk hm
      have HY := Aside.mk hY
      clear hj hm hkn hA hlt hS hB h0 hY
      gi_wp2
      refine wpIn_wide.2 ?_
      refine region_R [] [] (fun _ => True) #[false, false, false, false, false, false, false] (by kernel_rfl) rfl rfl ?_
      refine wpR_rd 0 #[true, false, false, false, false, false, false] rfl onlyN_noPanic (by kernel_rfl) (fun K hK => ?_); (go_simp; try go_bits); refine hK _ ?_; clear hK K
      refine wpR_rd 1 #[true, true, false, false, false, false, false] rfl onlyN_noPanic (by kernel_rfl) (fun K hK => ?_); (go_simp; try go_bits); refine hK _ ?_; clear hK K
      refine wpR_rd 2 #[true, true, true, false, false, false, false] rfl onlyN_noPanic (by kernel_rfl) (fun K hK => ?_); (go_simp; try go_bits); refine hK _ ?_; clear hK K
      refine wpR_rd 3 #[true, true, true, true, false, false, false] rfl onlyN_noPanic (by kernel_rfl) (fun K hK => ?_); (go_simp; try go_bits); refine hK _ ?_; clear hK K
      refine wpR_rd 4 #[true, true, true, true, true, false, false] rfl onlyN_noPanic (by kernel_rfl) (fun K hK => ?_); (go_simp; try go_bits); refine hK _ ?_; clear hK K
      refine wpR_rd 5 #[true, true, true, true, true, true, false] rfl onlyN_noPanic (by kernel_rfl) (fun K hK => ?_); (go_simp; try go_bits); refine hK _ ?_; clear hK K
      refine wpR_rd 6 #[true, true, true, true, true, true, true] rfl onlyN_noPanic (by kernel_rfl) (fun K hK => ?_); (go_simp; try go_bits); refine hK _ ?_; clear hK K
      refine wpR_done (by kernel_rfl) ?_ _
      simp only [OnlyN]
      rw [HM.out]
      obtain ⟨m, hm⟩ : ∃ m, m = min 106 (n - j) := ⟨_, rfl⟩
      rw [← hm]
      have hm0 : 0 < m := by omega
      have hmn : j + m ≤ n := by omega
      have hmc : (j : Int) + m ≤ c := by omega
      have hjd := hJ _ _ _ none hJs (grows_drew wr) (fun r h => by cases h)
      obtain ⟨fn, tmps, assign, body, hy, hR⟩ := HY.out (List.range k) k wr.drew hjd (by rw [List.length_range]; exact HK.out) HK.out
      have ev : chunkV g o n k = .slice (some ⟨g, o + j, none⟩) m m := by unfold chunkV chunkM; rw [← HJ.out, hm]
      rw [ev] at hy
      have hnd : Keep2 bS bN W wr.drew := hnx
      have HN := Aside.mk hnd
      have hjm1 : j ≤ j + m := by omega
      have hjm2 : j + m ≤ c := by omega
      have ejm : j + m - j = m := by omega
      clear hJs hjd HM hm ev hnx hnd
      gi_wp2
      refine hR.mono ?_
      have hn64' : (n : Int) ≤ 140737488351232 := by omega
      rintro ee W3 (⟨rfl, hJ3, hk3⟩ | ⟨rfl, hJx3⟩)
      · have hn1 := HN.out.trans hk3
        have hB3 : W3.cell? ⟨bN, 0, none⟩ = some (.int .i64 106) := (World.cell?_of_block (w := wr.drew) hk3.2).trans hB1
        have HR := Aside.mk (And.intro hn1 hJ3)
        clear hS1 hB1 hy hR hk3 hn1 hJ3
        gi_wp2
        go_roundw
        case rel => exact ⟨k + 1, by have := HK.out; omega, by rw [HJ.out]; push_cast; congr 1, by rw [List.range_succ]; exact HR.out.2, HR.out.1⟩
        case measure =>
          have := HK.out
          have := HJ.out
          simp [intOf]
          omega
      · clear hy hR
        gi_wp2
        refine bodyPost_ret (results_none rfl _ _ _) rfl ?_
        exact ⟨⟨_, rfl⟩, .inr ⟨_, hJx3⟩⟩
    · have hkc : k = chunkN n := by omega
      have hge : ¬ (((106 * k : Nat) : Int) < (n : Int)) := by unfold chunkN at hkc; omega
      have HX : Aside (∃ ys, ys = List.range (chunkN n) ∧ J ys wr) := ⟨⟨_, rfl, by rw [← hkc]; exact hJs⟩⟩
      obtain ⟨j, hj⟩ : ∃ j, j = 106 * k := ⟨_, rfl⟩
      rw [← hj] at hge ⊢
      clear hkc hj hY hA hJs hnx
      gi_wp2
      go_end0
      exact ⟨⟨_, rfl⟩, .inl (by obtain ⟨ys, rfl, h⟩ := HX.out; exact h)⟩
theorem chunk_stops (N : Nat) (hN : 1 ≤ N) (bS bN : Nat) (A : Option Addr) (g o n c : Nat) (hA : 0 < n → A = some ⟨g, o, none⟩) (hnc : n ≤ c) (hcm : c ≤ maxLen) (hn64 : n ≤ 140737488351232) (w : World) (hbS : bS < w.heap.size) (hbN : bN < w.heap.size)
    (hS : w.cell? ⟨bS, 0, none⟩ = some (.slice A n c)) (hB : w.cell? ⟨bN, 0, none⟩ = some (.int .i64 106)) :
    SeqStopsK Fence.wide N Tryd.prog 90 #[.pointer (some ⟨bS, 0, none⟩), .pointer (some ⟨bN, 0, none⟩)] (fun x : { x : Nat // x < chunkN n } => #[chunkV g o n x.1]) (Keep2 bS bN)
      (fun ys => ys.map (·.1) = List.range (chunkN n)) (fun _ => True) (chunkN n) w := fun l J Jx W hW hJ hJx hY h0 => by
  have hS' := (hW.cell (p := ⟨bS, 0, none⟩) hbS).trans hS
  have hB' := (hW.cell (p := ⟨bN, 0, none⟩) hbN).trans hB
  refine (chunk1_in N hN l bS bN A g o n c hA hnc hcm hn64 (fun ys W => ∃ zs : List { x : Nat // x < chunkN n }, zs.map (·.1) = ys ∧ J zs W) (fun ys W => ∃ zs : List { x : Nat // x < chunkN n }, zs.map (·.1) = ys ∧ Jx zs W) ?_ W hS' hB' ⟨[], rfl, h0⟩ ?_).mono ?_
  · rintro pre x W1 ⟨zs, rfl, hj⟩ hl hx
    obtain ⟨fn, tmps, assign, body, hy, hR⟩ := hY zs ⟨x, hx⟩ W1 hj (by simpa using hl)
    refine ⟨fn, tmps, assign, body, hy, hR.mono ?_⟩
    rintro e W' (⟨rfl, h1, h2⟩ | ⟨rfl, h1⟩)
    · exact .inl ⟨rfl, ⟨_, by simp, h1⟩, h2⟩
    · exact .inr ⟨rfl, ⟨_, by simp, h1⟩⟩
  · rintro s W1 W2 row ⟨zs, hz, hj⟩ hg hr
    exact ⟨zs, hz, hJ _ _ _ _ hj hg hr⟩
  · rintro e W' ⟨he, ⟨ys, rfl, zs, hz, hj⟩ | ⟨pre, zs, hz, hj⟩⟩
    · exact ⟨he, .inl ⟨zs, hz, hj⟩⟩
    · exact ⟨he, .inr ⟨zs, trivial, hj⟩⟩
set_option maxHeartbeats 1000000 in
set_option maxRecDepth 100000 in
theorem chunk_ok (E : Env) (q : HP) (A : Option Addr) (n c : Nat) (w : World) (hw : Sat E w q) :
    Calls Tryd.prog 55 #[.slice A n c, .int .i64 106] w fun e w' => ∃ bS, e = .returned (.func (.func 90) #[] #[.pointer (some ⟨bS, 0, none⟩), .pointer (some ⟨bS + 1, 0, none⟩)]) ∧
      Sat E w' (HP.pt bS (.cells #[.slice A n c] 22) * (HP.pt (bS + 1) (.cells #[.int .i64 106] 3) * q)) := by
  have h1 := ((hw.alloc (.cells #[.slice A n c] 22)).alloc (.cells #[.int .i64 106] 3)).s2
  rw [show (w.alloc (.cells #[.slice A n c] 22)).heap.size = w.heap.size + 1 by simp] at h1
  have H1 := Aside.mk h1
  clear h1 hw
  go_enter Tryd.func55, Tryd.ntmps55
  go_wp2
  go_ret
  exact ⟨w.heap.size, rfl, H1.out⟩
end Go.Proofs.YtnllmkpbnccllaaDoor
/- slices.AppendSeq and Collect over slices.Chunk. -/
namespace Go.Proofs.YtnllmkpbnccllaaDoor
open Go.RowKit Go.Shelf HP
set_option linter.unusedSimpArgs false
set_option linter.unusedVariables false
attribute [local go_sem] Oper.semAt_some

theorem slSS : SlTy Tryd.prog 88 22 (.slice none 0 0) 1 24 := ⟨Tryd.underlying88, by kernel_rfl, rfl, by decide⟩
/-- What has been gathered: a box with a slice of an own array. -/
def HP.gath (bb : Nat) (l : List Value) : HP := HP.ex fun v => HP.pt bb (.cells #[v] 88) * HP.row 22 1 v l.length l
theorem HP.gath_solid {bb B : Nat} (h : bb < B) (l : List Value) : HP.Solid B (HP.gath bb l) := by
  rintro k ⟨v, hk⟩
  exact (HP.Solid.mul (HP.Solid.pt_below h _) ((HP.Celled.row _ _ _ _ _).solid B)) k hk
set_option maxHeartbeats 2000000 in
set_option maxRecDepth 100000 in
theorem appendSeq_ok (E : Env) (q : HP) (bS bN : Nat) (A : Option Addr) (g o n c : Nat) (w : World) (hA : 0 < n → A = some ⟨g, o, none⟩) (hnc : n ≤ c) (hcm : c ≤ maxLen) (hn64 : n ≤ 140737488351232)
    (hw : Sat E w (HP.pt bS (.cells #[.slice A n c] 22) * (HP.pt bN (.cells #[.int .i64 106] 3) * q))) :
    Calls Tryd.prog 89 #[.slice none 0 0, .func (.func 90) #[] #[.pointer (some ⟨bS, 0, none⟩), .pointer (some ⟨bN, 0, none⟩)]] w fun e w' => ∃ v, e = .returned v ∧
      Sat E w' (HP.row 22 1 v (chunkN n) ((List.range (chunkN n)).map (chunkV g o n)) * (HP.pt bS (.cells #[.slice A n c] 22) * (HP.pt bN (.cells #[.int .i64 106] 3) * q))) := by
  obtain ⟨q0, hq0⟩ : ∃ q0, q0 = HP.pt bS (.cells #[.slice A n c] 22) * (HP.pt bN (.cells #[.int .i64 106] 3) * q) := ⟨_, rfl⟩
  have hk0 : ∀ E1 W p, Sat E1 W (p * q0) → W.heap[bS]? = some (.cells #[.slice A n c] 22) ∧ W.heap[bN]? = some (.cells #[.int .i64 106] 3) := fun E1 W p h => by
    rw [hq0] at h
    exact ⟨h.s2.get, h.s3.get⟩
  rw [← hq0] at hw ⊢
  clear hq0
  refine calls_of_wp_marks Tryd.func89 rfl ?_
  simp only [Tryd.ntmps89, List.size_toArray, List.length_cons, List.length_nil, Nat.reduceAdd, Nat.reduceSub, Array.replicate_succ, Array.replicate_zero, List.push_toArray, List.append_toArray, List.nil_append, List.cons_append]
  have h1 := (hw.alloc (.cells #[.slice none 0 0] 88))
  have hl1 : bS < w.heap.size := (Array.getElem?_eq_some_iff.1 (hk0 _ _ HP.emp (by rw [HP.emp_mul]; exact hw)).1).1
  have hl2 : bN < w.heap.size := (Array.getElem?_eq_some_iff.1 (hk0 _ _ HP.emp (by rw [HP.emp_mul]; exact hw)).2).1
  have hsz : (w.alloc (.cells #[.slice none 0 0] 88)).heap.size = w.heap.size + 1 := by simp
  have h2 : Sat E (w.alloc (.cells #[.slice none 0 0] 88)) (HP.gath w.heap.size [] * q0) := Sat.ex_intro (f := fun v => HP.pt w.heap.size (.cells #[v] 88) * HP.row 22 1 v 0 []) (.slice none 0 0) ((h1.row_nil 22 1 none).perm (by ac_rfl))
  clear h1
  go_wp2
  generalize World.alloc w _ = w1 at *
  generalize w.heap.size = bb at *
  refine wp_range_sat (α := { x : Nat // x < chunkN n }) rfl (enters_of Tryd.func90 (by kernel_rfl) rfl)
    (chunk_stops 19 (by omega) bS bN A g o n c hA hnc hcm hn64 w1 (by omega) (by omega) (cell_of_row _ _ 0 _ _ _ (hk0 _ _ _ h2).1) (cell_of_row _ _ 0 _ _ _ (hk0 _ _ _ h2).2)) (fun h k => h.trans k) (fun W l o o' hl ho h1 _ => ⟨putObj_heap_ne W l o' bS (by omega), putObj_heap_ne W l o' bN (by omega)⟩)
    (fun E1 E2 W W' p p' h1 h2 => ⟨(hk0 _ _ _ h2).1.trans (hk0 _ _ _ h1).1.symm, (hk0 _ _ _ h2).2.trans (hk0 _ _ _ h1).2.symm⟩) (fun _ => rfl)
    (fun pre => HP.gath bb (pre.map fun x => chunkV g o n x.1)) (fun pre => HP.gath_solid (by omega) _) h2
    (fun x a' W => a' = { tmps := #[.slice none 0 0, .func (.func 90) #[] #[.pointer (some ⟨bS, 0, none⟩), .pointer (some ⟨bN, 0, none⟩)], .pointer (some ⟨bb, 0, none⟩), undef, .slice none 0 0, chunkV g o n x.1, .func (.func 90) #[] #[.pointer (some ⟨bS, 0, none⟩), .pointer (some ⟨bN, 0, none⟩)], chunkV g o n x.1, undef, undef, undef, undef, undef], defers := [] }) ?hAx ?assign ?body ?done
  case hAx =>
    rintro x a' s W W' row rfl hg hr
    rfl
  case assign =>
    intro l x W K' hsz hK'
    clear hk0 h2 hw
    generalize chunkV g o n x.1 = cv at *
    gi_wp2
    exact hK' _ _ (Below.refl _ _) rfl
  case body =>
    rintro E' q' l pre x a' W hqq hI rfl hpre
    clear hqq h2 hw hk0
    obtain ⟨v, hI⟩ := hI.ex_elim
    have hI2 : Sat E' W (HP.row 22 1 v (pre.map fun x => chunkV g o n x.1).length (pre.map fun x => chunkV g o n x.1) * (HP.pt bb (.cells #[v] 88) * q')) := hI.perm (by ac_rfl)
    have b0 := hI2.s2.cell1
    have hpl : (pre.map fun x => chunkV g o n x.1).length = pre.length := List.length_map _
    have hN : chunkN n ≤ 1400000000000 := by unfold chunkN; omega
    have HX : Aside ((pre ++ [x]).map (fun x => chunkV g o n x.1) = (pre.map fun x => chunkV g o n x.1) ++ [chunkV g o n x.1]) := ⟨by rw [List.map_append]; rfl⟩
    have hone : (chunkV g o n x.1).oneCell' = true := rfl
    have hcv : ∃ A' m', chunkV g o n x.1 = .slice A' m' m' := ⟨_, _, rfl⟩
    generalize hL : (pre.map fun x => chunkV g o n x.1) = L at *
    generalize chunkV g o n x.1 = cv at *
    have HI := Aside.mk (And.intro hI2 (And.intro hone (And.intro hpl hpre)))
    obtain ⟨Ac, mc, rfl⟩ := hcv
    clear hI hI2 hone hpl hpre hL
    gi_wp2_with (gi_at_builtin; go_loud (refine wpListIn_append_new slSS rfl rfl rfl rfl HI.out.1 rfl (by simp [HI.out.2.1]) (by rw [HI.out.2.2.1]; unfold maxLen; have := HI.out.2.2.2; omega) (by rw [HI.out.2.2.1]; have := HI.out.2.2.2; omega) (fun v4 w4 hw4 => ?_); obtain ⟨A4, c4, rfl, -, -⟩ := hw4.row_slice; have b4 := hw4.s2.cell1; have t4 := hw4.s2.thaw 0; have HW4 := Aside.mk hw4; clear hw4))
    show Sat E' _ _
    rw [HX.out]
    have hlen : (L ++ [Value.slice Ac mc mc]).length = L.length + 1 := by rw [List.length_append]; rfl
    refine Sat.ex_intro (f := fun v => HP.pt bb (.cells #[v] 88) * HP.row 22 1 v (L ++ [Value.slice Ac mc mc]).length (L ++ [Value.slice Ac mc mc])) (Value.slice A4 (L.length + 1) c4) ?_
    rw [hlen]
    exact (HW4.out.s2.set1 (Value.slice A4 (L.length + 1) c4)).perm (by ac_rfl)
  case done =>
    intro D xs W hxs hI
    have hmap : (xs.map fun x => chunkV g o n x.1) = (List.range (chunkN n)).map (chunkV g o n) := by
      have hxs : xs.map (·.1) = List.range (chunkN n) := hxs
      rw [← hxs, List.map_map]
      rfl
    rw [hmap] at hI
    have hlen : ((List.range (chunkN n)).map (chunkV g o n)).length = chunkN n := by rw [List.length_map, List.length_range]
    obtain ⟨v, h5⟩ := hI.s2.ex_elim
    rw [hlen] at h5
    obtain ⟨L, hL⟩ : ∃ L, L = (List.range (chunkN n)).map (chunkV g o n) := ⟨_, rfl⟩
    rw [← hL] at h5
    have HL := Aside.mk hL
    clear hL hlen
    have h6 : Sat E W (HP.pt D (.deferred (some [])) * (HP.pt bb (.cells #[v] 88) * (HP.row 22 1 v (chunkN n) L * q0))) := h5.perm (by ac_rfl)
    have h7 : Sat E W (HP.row 22 1 v (chunkN n) L * (HP.pt D (.deferred (some [])) * (HP.pt bb (.cells #[v] 88) * q0))) := h5.perm (by ac_rfl)
    obtain ⟨A5, c5, rfl, -, -⟩ := h7.row_slice
    have b0 := h6.s2.cell1
    have hD := h6.get
    have HF := Aside.mk (And.intro h6 hD)
    clear hI h5 h6 h7 hD hmap hxs h2 hk0 hw
    go_wp2
    refine marks_ret rfl HF.out.2 (fun w => results_tmp rfl _ _ _) ⟨_, rfl, ?_⟩
    rw [← HL.out]
    exact ((HF.out.1).putDef (.deferred none)).right.right
set_option maxHeartbeats 1000000 in
set_option maxRecDepth 100000 in
theorem collect_ok (E : Env) (q : HP) (bS bN : Nat) (A : Option Addr) (g o n c : Nat) (w : World) (hA : 0 < n → A = some ⟨g, o, none⟩) (hnc : n ≤ c) (hcm : c ≤ maxLen) (hn64 : n ≤ 140737488351232)
    (hw : Sat E w (HP.pt bS (.cells #[.slice A n c] 22) * (HP.pt bN (.cells #[.int .i64 106] 3) * q))) :
    Calls Tryd.prog 54 #[.func (.func 90) #[] #[.pointer (some ⟨bS, 0, none⟩), .pointer (some ⟨bN, 0, none⟩)]] w fun e w' => ∃ v, e = .returned v ∧
      Sat E w' (HP.row 22 1 v (chunkN n) ((List.range (chunkN n)).map (chunkV g o n)) * q) := by
  have HW := Aside.mk (And.intro hw hA)
  clear hw hA
  go_enter Tryd.func54, Tryd.ntmps54
  go_wp2_with fail
  refine (appendSeq_ok E q bS bN A g o n c _ HW.out.2 hnc hcm hn64 HW.out.1).mono ?_
  rintro e w1 ⟨v, rfl, h1⟩
  obtain ⟨A1, c1, rfl, -, -⟩ := h1.row_slice
  have H1 := Aside.mk h1.drop2.drop2
  clear h1
  go_wp2
  go_ret
  exact ⟨_, rfl, H1.out⟩
end Go.Proofs.YtnllmkpbnccllaaDoor
/- pair.Store. -/
namespace Go.Proofs.YtnllmkpbnccllaaDoor
open Go.RowKit HP
set_option linter.unusedSimpArgs false
set_option linter.unusedVariables false

/-- A text's pieces. -/
def piece (l : List Int) (k : Nat) : List Int := (l.drop (106 * k)).take 106
def piecesI (l : List Int) : List (List Int) := if l.length = 0 then [[]] else (List.range (chunkN l.length)).map (piece l)
def storeP (A : Dk) (name : ByteArray) (gen : Nat) (l : List Int) : Int × Dk := if (dropP A name).1 = 0 then wrP (dropP A name).2 name 0 gen (piecesI l) else dropP A name
theorem piece_length (l : List Int) (k : Nat) : (piece l k).length = chunkM l.length k := by
  unfold piece chunkM
  rw [List.length_take, List.length_drop]
def pieceS (g o : Nat) (l : List Int) (k : Nat) : Sl Int := ⟨some ⟨g, o + 106 * k, none⟩, chunkM l.length k, piece l k⟩
theorem pieceS_val (g o : Nat) (l : List Int) (k : Nat) : (pieceS g o l k).val8 = chunkV g o l.length k := by
  unfold Sl.val8 pieceS chunkV
  rw [piece_length]
set_option maxHeartbeats 2000000 in
set_option maxRecDepth 100000 in
theorem pair_store (E : Env) (q : HP) (d : Nat) (A : Dk) (name : ByteArray) (gen : Nat) (Ap : Option Addr) (l : List Int) (n c : Nat) (w : World) (hname : name.size + 2 ≤ maxLen) (hgen : (gen : Int) ≤ 4611686018427387904) (hln : l.length = n) (hnc : n ≤ c) (hcm : c ≤ maxLen) (hn64 : n ≤ 140737488351232) (hl : Bytes l)
    (hq : ∀ w, Sat E w q → Quarter w ∧ Cells w Ap (b8s l)) (hw : Sat E w (HP.disk d A * q)) :
    Calls Tryd.prog 14 #[.pointer (some ⟨d, 0, none⟩), .string name, .int .i64 gen, .slice Ap n c] w fun e w' => e = .returned (.int .i64 (storeP A name gen l).1) ∧ Sat E w' (HP.disk d (storeP A name gen l).2 * q) := by
  have HS : Aside (storeP A name gen l = if (dropP A name).1 = 0 then wrP (dropP A name).2 name 0 gen (piecesI l) else dropP A name) := ⟨rfl⟩
  have hn2 : name.size ≤ maxLen := by omega
  have hadr : 0 < n → ∃ g o, Ap = some ⟨g, o, none⟩ := fun h => by
    have hc := (hq w hw.right).2
    obtain ⟨a, rfl, -⟩ := hc.at_ 0 (by rw [b8s_length, hln]; exact h)
    obtain ⟨g, o, rfl⟩ := slice_addr hc rfl (k := 0) (by rw [b8s_length, hln]; exact h)
    exact ⟨g, o, rfl⟩
  obtain ⟨g, o, hgo⟩ : ∃ g o, 0 < n → Ap = some ⟨g, o, none⟩ := by
    rcases Nat.eq_zero_or_pos n with h | h
    · exact ⟨0, 0, fun h' => by omega⟩
    · obtain ⟨g, o, h1⟩ := hadr h
      exact ⟨g, o, fun _ => h1⟩
  have HQ := Aside.mk (And.intro hq (And.intro hl (And.intro hln (And.intro hgo hw))))
  clear hq hl hln hw hadr hgo
  go_enter Tryd.func14, Tryd.ntmps14
  go_wp2_with fail
  refine (pair_none E q d A _ HQ.out.2.2.2.2).mono ?_
  rintro e w1 ⟨rfl, k1⟩
  have K1 := Aside.mk k1
  clear k1
  go_wp2_with fail
  refine (ext_frame E (HP.disk d A * q) name 0 gen none [] 0 0 _ hn2 (by omega) hgen rfl (by omega) (fun x hx => by cases hx) (fun w h => ⟨(HQ.out.1 _ h.right).1, Cells.nil _ _⟩) K1.out).mono ?_
  rintro e w2 ⟨gI, rfl, k2⟩
  have K2 := Aside.mk k2.right
  clear k2 K1
  go_wp2_with fail
  refine (pair_drop E q d A name _ hname K2.out).mono ?_
  rintro e w3 ⟨rfl, k3⟩
  have K3 := Aside.mk k3
  clear k3 K2
  by_cases h0 : (dropP A name).1 = 0
  · rw [if_pos h0] at HS
    rw [h0]
    generalize (dropP A name).2 = B at *
    clear h0
    go_wp2_with fail
    refine (chunk_ok E (HP.disk d B * q) Ap n c _ K3.out).mono ?_
    rintro e w4 ⟨bS, rfl, k4⟩
    have K4 := Aside.mk k4
    clear k4 K3
    go_wp2_with fail
    refine (collect_ok E (HP.disk d B * q) bS (bS + 1) Ap g o n c _ HQ.out.2.2.2.1 hnc hcm hn64 K4.out).mono ?_
    rintro e w5 ⟨v, rfl, k5⟩
    obtain ⟨A5, c5, rfl, -, hc5⟩ := k5.row_slice
    have K5 := Aside.mk k5
    clear k5 K4
    by_cases hz : n = 0
    · subst hz
      have hN0 : chunkN 0 = 0 := rfl
      rw [hN0] at K5 ⊢
      have K6 := Aside.mk ((K5.out.right).alloc (.cells [Value.slice none 0 0].toArray 22))
      clear K5
      go_wp2_with fail
      refine (pair_write E (HP.pt w5.heap.size (.cells [Value.slice none 0 0].toArray 22) * q) d B name 0 gen (some ⟨w5.heap.size, 0, none⟩) [⟨none, 0, []⟩] 1 1 _ hname (by omega) hgen rfl (by unfold maxLen; omega) (fun s hs => by
        obtain rfl := List.mem_singleton.1 hs
        exact ⟨Nat.le_refl _, fun x hx => by cases hx⟩) (fun w h => ⟨(HQ.out.1 _ h.right).1, Sat.ptCells (off := 0) (l := [Value.slice none 0 0]) h rfl, fun s hs => by
        obtain rfl := List.mem_singleton.1 hs
        exact Cells.nil _ _⟩) K6.out.s2).mono ?_
      rintro e w6 ⟨rfl, k7⟩
      have K7 := Aside.mk k7.drop2
      clear k7 K6
      have HX : Aside (wrP B name 0 gen (List.map (·.l) [(⟨none, 0, []⟩ : Sl Int)]) = storeP A name gen l) := ⟨by
        rw [HS.out]
        unfold piecesI
        rw [if_pos HQ.out.2.2.1]
        rfl⟩
      rw [HX.out] at K7 ⊢
      go_wp2
      go_ret
      exact ⟨rfl, K7.out⟩
    · obtain ⟨N, hN⟩ : ∃ N, N = chunkN n := ⟨_, rfl⟩
      have hNp : 0 < N := by rw [hN]; unfold chunkN; omega
      have hNm : N ≤ 1400000000000 := by rw [hN]; unfold chunkN; omega
      have HN := Aside.mk hN
      rw [← hN] at K5 ⊢
      clear hN
      have hnz1 : ((N : Int) == 0) = false := by rw [beq_eq_false_iff_ne]; omega
      have hnz2 : ¬ (N : Int) = 0 := by omega
      have hnz3 : ¬ N = 0 := by omega
      obtain rfl := HQ.out.2.2.2.1 (by omega)
      go_wp2_with fail
      refine (pair_write E (HP.row 22 1 (.slice A5 N c5) N ((List.range N).map (chunkV g o n)) * q) d B name 0 gen A5 ((List.range N).map (pieceS g o l)) N c5 _ hname (by omega) hgen (by rw [List.length_map, List.length_range]) (by unfold maxLen; omega) (fun s hs => by
        obtain ⟨k, hk, rfl⟩ := List.mem_map.1 hs
        exact ⟨by show (piece l k).length ≤ chunkM l.length k; rw [piece_length]; exact Nat.le_refl _, fun x hx => HQ.out.2.1 x (List.mem_of_mem_drop (List.mem_of_mem_take hx))⟩) (fun w h => ⟨(HQ.out.1 _ h.right).1, by
        have := h.row_cells
        rw [List.map_map, show (Sl.val8 ∘ pieceS g o l) = chunkV g o n by funext k; rw [Function.comp_apply, pieceS_val, HQ.out.2.2.1]]
        exact this, fun s hs => by
        obtain ⟨k, hk, rfl⟩ := List.mem_map.1 hs
        have := (((HQ.out.1 _ h.right).2).drop (106 * k)).take 106
        rw [addr_add] at this
        show Cells w (some ⟨g, o + 106 * k, none⟩) (b8s (piece l k))
        unfold piece
        unfold b8s at this ⊢
        rw [List.map_take, List.map_drop]
        exact this⟩) K5.out.s2).mono ?_
      rintro e w6 ⟨rfl, k7⟩
      have K7 := Aside.mk k7.drop2
      clear k7 K5
      have HX : Aside (wrP B name 0 gen (List.map (·.l) ((List.range N).map (pieceS g o l))) = storeP A name gen l) := ⟨by
        rw [HS.out]
        unfold piecesI
        rw [if_neg (by rw [HQ.out.2.2.1]; exact hz), List.map_map, HQ.out.2.2.1, ← HN.out]
        rfl⟩
      rw [HX.out] at K7 ⊢
      go_wp2
      go_ret
      exact ⟨rfl, K7.out⟩
  · rw [if_neg h0] at HS
    obtain ⟨ec, hec⟩ : ∃ ec, ec = (dropP A name).1 := ⟨_, rfl⟩
    rw [← hec] at h0 ⊢
    have HE := Aside.mk hec
    clear hec
    go_wp2
    go_ret
    rw [HS.out, HE.out]
    exact ⟨rfl, K3.out⟩
end Go.Proofs.YtnllmkpbnccllaaDoor
/- pair.Get. -/
namespace Go.Proofs.YtnllmkpbnccllaaDoor
open Go.RowKit HP
set_option linter.unusedSimpArgs false
set_option linter.unusedVariables false

/-- A half read: what is best so far. -/
def getF (A : Dk) (i : Int) (st : Int × List Int) (f : ByteArray) : Int × List Int :=
  match A.cel f i with
  | none => st
  | some c => match openI c.read f i with
    | none => st
    | some x => if (x.2 : Int) ≤ st.1 then st else ((x.2 : Int), x.1)
def getP (A : Dk) (name : ByteArray) (i : Int) : Int × List Int := (halvesL name).foldl (getF A i) (-1, [])
theorem openI_gen {b : List Int} {f : ByteArray} {i : Int} {p : List Int} {g : Nat} (h : openI b f i = some (p, g)) : (g : Int) ≤ 4611686018427387904 ∧ p.length ≤ 106 := by
  unfold openI at h
  split at h
  · cases h
  · split at h
    · cases h
    · split at h
      · cases h
      · rename_i h1 h2 h3
        simp only [Option.some.injEq, Prod.mk.injEq] at h
        obtain ⟨rfl, rfl⟩ := h
        refine ⟨by omega, ?_⟩
        rw [List.length_take]
        omega
def getEnd (st : Int × List Int) (v : Value) : Ending := if st.1 < 0 then .returned (.tuple #[.slice none 0 0, .int .i64 0, .int .i64 50]) else .returned (.tuple #[v, .int .i64 st.1, .int .i64 0])
set_option maxHeartbeats 2000000 in
set_option maxRecDepth 100000 in
theorem pair_get (E : Env) (q : HP) (d : Nat) (A : Dk) (name : ByteArray) (i : Int) (w : World) (hname : name.size + 2 ≤ maxLen) (hby : ∀ f ∈ halvesL name, ∀ c, A.cel f i = some c → Bytes c.read)
    (hq : ∀ w, Sat E w q → Quarter w) (hw : Sat E w (HP.disk d A * q)) :
    Calls Tryd.prog 12 #[.pointer (some ⟨d, 0, none⟩), .string name, .int .i64 i] w fun e w' => ∃ v, e = getEnd (getP A name i) v ∧ Sat E w' (HP.row 5 1 v (getP A name i).2.length (b8s (getP A name i).2) * (HP.disk d A * q)) := by
  have hfa : (name ++ dotA).size ≤ maxLen := by rw [dotA_size]; exact hname
  have hfb : (name ++ dotB).size ≤ maxLen := by rw [dotB_size]; exact hname
  have HF : Aside (halvesL name = [name ++ dotA, name ++ dotB]) := ⟨rfl⟩
  have HQ := Aside.mk (And.intro hq (And.intro hby hw))
  clear hq hw hby
  go_enter Tryd.func12, Tryd.ntmps12
  go_wp2_with fail
  refine (pair_none E q d A _ HQ.out.2.2).mono ?_
  rintro e w1 ⟨rfl, k1⟩
  have K1 := Aside.mk k1
  clear k1
  go_wp2_with fail
  refine (pair_halves E _ name _ hname K1.out).mono ?_
  rintro e w2 ⟨rfl, k2⟩
  obtain ⟨fa, hfae⟩ : ∃ fa, fa = name ++ dotA := ⟨_, rfl⟩
  obtain ⟨fb, hfbe⟩ : ∃ fb, fb = name ++ dotB := ⟨_, rfl⟩
  rw [← hfae] at hfa HF ⊢
  rw [← hfbe] at hfb HF ⊢
  clear hfae hfbe
  have K2 := Aside.mk (k2.row_nil 5 1 none)
  clear k2 K1
  have i0 : ∀ w, (Instr.index 82 (.agg #[.string fa, .string fb]) (.int .i64 0)).run Tryd.prog w = .ok (.string fa) w := fun w => by kernel_rfl
  have i1 : ∀ w, (Instr.index 82 (.agg #[.string fa, .string fb]) (.int .i64 1)).run Tryd.prog w = .ok (.string fb) w := fun w => by kernel_rfl
  go_wp2
  go_loopw [9, 10, 21] (fun v9 v10 v21 wr => ∃ (h : Nat) (best : Int) (p : List Int), h ≤ 2 ∧ v21 = .int .i64 h ∧ v9 = .int .i64 best ∧ best ≤ 4611686018427387904 ∧ -1 ≤ best ∧ p.length ≤ 106 ∧ Aside ((((halvesL name).drop h).foldl (getF A i) (best, p)) = getP A name i) ∧ Aside (Sat E wr (HP.row 5 1 v10 p.length (b8s p) * (HP.disk d A * q)))) (fun _ _ i _ => 2 - (intOf i).toNat)
  case atStart => exact ⟨0, -1, [], by omega, rfl, rfl, by omega, by omega, by simp, ⟨rfl⟩, K2⟩
  case round =>
    obtain ⟨h, best, p, hh, rfl, rfl, hb1, hb2, hpl, HG, HS⟩ := hrel
    by_cases hlt : h < 2
    · obtain ⟨f, hf, hfm, hff, hix⟩ : ∃ f : ByteArray, f.size ≤ maxLen ∧ f ∈ halvesL name ∧ (halvesL name).drop h = f :: (halvesL name).drop (h + 1) ∧ ∀ w, (Instr.index 82 (.agg #[.string fa, .string fb]) (.int .i64 (h : Int))).run Tryd.prog w = .ok (.string f) w := by
        rw [HF.out]
        rcases Nat.lt_or_ge h 1 with h0 | h0
        · obtain rfl : h = 0 := by omega
          exact ⟨fa, hfa, by simp, rfl, i0⟩
        · obtain rfl : h = 1 := by omega
          exact ⟨fb, hfb, by simp, rfl, i1⟩
      rw [hff, List.foldl_cons] at HG
      clear hff
      have hlt2 : (h : Int) < 2 := by omega
      have hby := HQ.out.2.1 f hfm
      clear hfm
      clear i0 i1
      go_wp2_with fail
      refine (disk_read_ok E _ d A f i _ hf HS.out.s2).mono ?_
      intro e w3 h3
      unfold readEnd at h3
      cases hc : A.cel f i with
      | none =>
        rw [hc] at h3
        obtain ⟨rfl, h3⟩ := h3
        have HG2 : Aside (((halvesL name).drop (h + 1)).foldl (getF A i) (best, p) = getP A name i) := ⟨by rw [← HG.out]; simp only [getF, hc]⟩
        have H3 := Aside.mk h3.s2
        clear h3 hc HG hby HS
        go_wp2
        go_roundw
        case rel => exact ⟨h + 1, best, p, by omega, by push_cast; rfl, rfl, hb1, hb2, hpl, HG2, H3⟩
        case measure => simp [intOf]; omega
      | some cl =>
        rw [hc] at h3
        obtain ⟨vr, rfl, h3⟩ := h3
        have hbr := hby cl hc
        obtain ⟨Ar, cr, rfl, hcr, -⟩ := h3.row_slice
        have hl128 : cl.read.length = 128 := by
          have := h3.row_cases.1
          rw [b8s_length] at this
          exact this
        have HC : Aside (getF A i (best, p) f = match openI cl.read f i with
            | none => (best, p)
            | some x => if (x.2 : Int) ≤ best then (best, p) else ((x.2 : Int), x.1)) := ⟨by simp only [getF, hc]⟩
        have H3 := Aside.mk (And.intro h3 (And.intro hbr hl128))
        clear h3 hbr hl128 hc hby HS
        go_wp2_with fail
        refine (ext_open E _ f i Ar cl.read 128 cr _ hf H3.out.2.2 hcr H3.out.2.1 (fun w h => ⟨HQ.out.1 _ h.right.right.right, h.row_cells⟩) H3.out.1).mono ?_
        rintro e w4 (⟨ho, rfl, h4⟩ | ⟨p2, G, vp, ho, rfl, h4⟩)
        · rw [ho] at HC
          rw [HC.out] at HG
          have H4 := Aside.mk (h4.right.s2)
          clear h4 ho HC H3
          go_wp2
          go_roundw
          case rel => exact ⟨h + 1, best, p, by omega, by push_cast; rfl, rfl, hb1, hb2, hpl, HG, H4⟩
          case measure => simp [intOf]; omega
        · obtain ⟨hG1, hp2⟩ := openI_gen ho
          rw [ho] at HC
          dsimp only at HC
          by_cases hle : (G : Int) ≤ best
          · rw [if_pos hle] at HC
            rw [HC.out] at HG
            have H4 := Aside.mk (h4.right.right.s2)
            clear h4 ho HC H3
            go_wp2
            go_roundw
            case rel => exact ⟨h + 1, best, p, by omega, by push_cast; rfl, rfl, hb1, hb2, hpl, HG, H4⟩
            case measure => simp [intOf]; omega
          · rw [if_neg hle] at HC
            rw [HC.out] at HG
            obtain ⟨A2, c2, rfl, -, -⟩ := h4.row_slice
            have H4 := Aside.mk h4
            clear h4 ho HC H3
            obtain ⟨m, hm⟩ : ∃ m, m = p2.length := ⟨_, rfl⟩
            rw [← hm] at H4 hp2 ⊢
            have HM := Aside.mk hm
            clear hm
            have hle2 : best < (G : Int) := by omega
            clear hle
            go_wp2_with (first
              | (refine wpList_make_row (n := m) slB8 rfl rfl rfl rfl rfl H4.out (by unfold maxLen; omega) (by omega) (fun g w5 hw5 => ?_); have HW5 := Aside.mk hw5; clear hw5)
              | (at_builtin; fail)
              | (refine wpList_copy_sat Tryd.underlying22 (by kernel_rfl) rfl rfl rfl rfl HW5.out (by rw [b8s_length]; exact HM.out.symm) (HW5.out.right.row_cells) (b8s_one _) (fun w6 hw6 => ?_); have HW6 := Aside.mk hw6; clear hw6))
            have HW7 : Aside (Sat E w6 (HP.row 5 1 (.slice (some ⟨g, 0, none⟩) m m) p2.length (b8s p2) * (HP.disk d A * q))) := ⟨by
              have h7 := HW6.out.drop2.drop2
              rw [List.take_of_length_le (by rw [b8s_length, ← HM.out]; exact Nat.le_refl _), List.drop_of_length_le (by simp), List.append_nil] at h7
              have h8 : Sat E w6 (HP.row 5 1 u10 p.length (b8s p) * (HP.row 5 1 (.slice (some ⟨g, 0, none⟩) m m) m (b8s p2) * (HP.disk d A * q))) := h7.perm (by ac_rfl)
              rw [← HM.out]
              exact h8.right⟩
            clear HW5 HW6 H4
            go_wp2
            go_roundw
            case rel => exact ⟨h + 1, (G : Int), p2, by omega, by push_cast; rfl, rfl, hG1, by omega, by rw [← HM.out]; omega, HG, HW7⟩
            case measure => simp [intOf]; omega
    · have hh2 : h = 2 := by omega
      subst hh2
      rw [HF.out] at HG
      have HX : Aside (getP A name i = (best, p)) := ⟨HG.out.symm⟩
      clear HG i0 i1
      by_cases hneg : best < 0
      · go_wp2
        go_ret3
        rw [HX.out]
        exact ⟨_, by unfold getEnd; rw [if_pos hneg]; rfl, HS.out⟩
      · go_wp2
        go_ret3
        rw [HX.out]
        exact ⟨_, by unfold getEnd; rw [if_neg (by show ¬ best < 0; omega)]; rfl, HS.out⟩
end Go.Proofs.YtnllmkpbnccllaaDoor
/- What is framed is opened; two extents written and read. -/
namespace Go.Proofs.YtnllmkpbnccllaaDoor
open Go.RowKit HP
set_option linter.unusedSimpArgs false
set_option linter.unusedVariables false

theorem extI_parts {f : ByteArray} {i g : Nat} {p : List Int} (h : p.length ≤ 106) :
    (extI f i g p).getD 17 0 = p.length ∧ ((extI f i g p).drop 9).take 8 = putI g 8 ∧ ((extI f i g p).drop 18).take p.length = p := by
  have e : extI f i g p = ([229] ++ putI (crcSum (strB f)) 4 ++ putI i 4) ++ (putI g 8 ++ ((p.length : Int) :: (p ++ (List.replicate (106 - p.length) 0 ++ putI (crcSum (extH f i g p)) 4)))) := by
    unfold extI
    conv => lhs; arg 1; unfold extH
    simp only [List.append_assoc, List.cons_append, List.nil_append]
  have l1 : ([229] ++ putI (crcSum (strB f)) 4 ++ putI i 4 : List Int).length = 9 := by simp [putI_length]
  have d9 : (extI f i g p).drop 9 = putI g 8 ++ ((p.length : Int) :: (p ++ (List.replicate (106 - p.length) 0 ++ putI (crcSum (extH f i g p)) 4))) := by
    rw [e, ← l1, List.drop_left]
  have d17 : (extI f i g p).drop 17 = (p.length : Int) :: (p ++ (List.replicate (106 - p.length) 0 ++ putI (crcSum (extH f i g p)) 4)) := by
    rw [show 17 = 9 + 8 from rfl, ← List.drop_drop, d9, List.drop_left' (putI_length g 8)]
  refine ⟨?_, ?_, ?_⟩
  · have := congrArg (fun l => l[0]?) d17
    simp only [List.getElem?_drop, Nat.add_zero, List.getElem?_cons_zero] at this
    simp [List.getD, this]
  · rw [d9]
    have := putI_length g 8
    rw [List.take_append_of_le_length (by omega), List.take_of_length_le (by omega)]
  · rw [show 18 = 17 + 1 from rfl, ← List.drop_drop, d17, List.drop_one, List.tail_cons, List.take_left]
theorem openI_extI {f : ByteArray} {i g : Nat} {p : List Int} (hi : i ≤ 2147483647) (hg : g ≤ 4611686018427387904) (h : p.length ≤ 106) : openI (extI f i g p) f i = some (p, g) := by
  obtain ⟨h1, h2, h3⟩ := extI_parts (f := f) (i := i) (g := g) h
  unfold openI
  rw [h1, h2, Int.toNat_natCast, Int.toNat_natCast, h3, getN_putI 8 g (by omega)]
  rw [if_neg (by rw [extI_length h]; omega), if_neg (by omega), if_neg (by simp)]

def stl (I : List Int) : Cel := ⟨I, I, I, I, false⟩
theorem stl_sync (c : Cel) (I : List Int) : (c.wrote I).syncd = stl I := rfl
structure TwoNames (fa fb : ByteArray) : Prop where
  na : namedB fa = true
  nb : namedB fb = true
  ne : fa ≠ fb
  lt : ltN fa fb = true
  gt : ltN fb fa = false
def wr1 (A : Dk) (f : ByteArray) (i : Int) (I : List Int) : Int × Dk := if (A.write f i I).1 = 0 then (A.write f i I).2.sync f else A.write f i I
def put2 (A : Dk) (fa fb : ByteArray) (i : Int) (Ia Ib : List Int) : Int × Dk :=
  if (wr1 A fa i Ia).1 = 0 then (if (wr1 (wr1 A fa i Ia).2 fb i Ib).1 = 0 then (0, (wr1 (wr1 A fa i Ia).2 fb i Ib).2) else wr1 (wr1 A fa i Ia).2 fb i Ib) else wr1 A fa i Ia
theorem wrF_one {A : Dk} {f : ByteArray} {i g : Nat} {p : List Int} (hf : FrameOk i g p.length) : wrF A f g i [p] = wr1 A f i (extI f i g p) := by
  unfold wrF wr1
  rw [if_neg (by simpa using hf)]
  rfl
theorem putP_two {A : Dk} {x : ByteArray} {i g : Nat} {p : List Int} (hf : FrameOk i g p.length) : putP A x i g p = put2 A (x ++ dotA) (x ++ dotB) i (extI (x ++ dotA) i g p) (extI (x ++ dotB) i g p) := by
  unfold putP
  rw [if_pos hf, Int.toNat_natCast, Int.toNat_natCast]
  unfold wrP halvesL
  simp only [wrL, wrF_one hf]
  rfl
def two (room fuse : Int) (fa fb : ByteArray) (a b : Cel) : Dk := ⟨room, fuse, [(fa, [a]), (fb, [b])]⟩
section
variable {fa fb : ByteArray} {Ia Ib : List Int} (T : TwoNames fa fb) (la : Ia.length = 128) (lb : Ib.length = 128)
include T la lb
theorem put_first : put2 (Dk.new 4) fa fb 0 Ia Ib = (0, two 4 (-1) fa fb (stl Ia) (stl Ib)) := by
  obtain ⟨na, nb, ne, lt, gt⟩ := T
  have ne' := Ne.symm ne
  simp [put2, wr1, Dk.write, Dk.sync, Dk.new, Dk.at, Dk.free, Dk.goes, Dk.burnt, burnI, Dk.set, lk_nil, lk_cons, putF, sizeF, na, nb, ne, ne', lt, gt, la, lb, stl_sync, two]
theorem put_first2 : put2 (Dk.new 2) fa fb 0 Ia Ib = (0, two 2 (-1) fa fb (stl Ia) (stl Ib)) := by
  obtain ⟨na, nb, ne, lt, gt⟩ := T
  have ne' := Ne.symm ne
  simp [put2, wr1, Dk.write, Dk.sync, Dk.new, Dk.at, Dk.free, Dk.goes, Dk.burnt, burnI, Dk.set, lk_nil, lk_cons, putF, sizeF, na, nb, ne, ne', lt, gt, la, lb, stl_sync, two]
end
theorem cel_a {room fuse : Int} {fa fb : ByteArray} {a b : Cel} : (two room fuse fa fb a b).cel fa 0 = some a := by simp [two, Dk.cel, Dk.at, lk_cons]
theorem cel_b {room fuse : Int} {fa fb : ByteArray} {a b : Cel} (h : fa ≠ fb) : (two room fuse fa fb a b).cel fb 0 = some b := by simp [two, Dk.cel, Dk.at, lk_cons, h]
/-- Of two halves that are right the greater generation counts; of two alike the first. -/
theorem get_two {x : ByteArray} (h : x ++ dotA ≠ x ++ dotB) {room fuse : Int} {ca cb : Cel} {ga gb : Nat} (ha : ga ≤ 4611686018427387904) (hb : gb ≤ 4611686018427387904) {pa pb : List Int} (la : pa.length ≤ 106) (lb : pb.length ≤ 106)
    (ra : ca.read = extI (x ++ dotA) 0 ga pa) (rb : cb.read = extI (x ++ dotB) 0 gb pb) :
    getP (two room fuse (x ++ dotA) (x ++ dotB) ca cb) x 0 = if (gb : Int) ≤ ga then ((ga : Int), pa) else ((gb : Int), pb) := by
  have oa := openI_extI (f := x ++ dotA) (i := 0) (by omega) ha la
  have ob := openI_extI (f := x ++ dotB) (i := 0) (by omega) hb lb
  simp only [Int.ofNat_zero, Int.natCast_zero] at oa ob
  rw [← ra] at oa
  rw [← rb] at ob
  unfold getP halvesL
  simp only [List.foldl_cons, List.foldl_nil]
  rw [show getF _ 0 (-1, []) (x ++ dotA) = ((ga : Int), pa) by simp only [getF, cel_a, oa]; rw [if_neg (by show ¬ (ga : Int) ≤ -1; omega)]]
  simp only [getF, cel_b h, ob]
def exS : ByteArray := ⟨#[120]⟩
theorem twoEx : TwoNames (exS ++ dotA) (exS ++ dotB) := ⟨by kernel_rfl, by kernel_rfl, by decide, by kernel_rfl, by kernel_rfl⟩
end Go.Proofs.YtnllmkpbnccllaaDoor
/- PairNeeds, the plain part: how many extents a text has. -/
namespace Go.Proofs.YtnllmkpbnccllaaDoor
open Go.RowKit HP
set_option linter.unusedSimpArgs false
set_option linter.unusedVariables false

theorem goes_ever {A : Dk} (h : A.fuse = -1) : A.goes = true := by simp [Dk.goes, burnI, h]
theorem burnt_ever {A : Dk} (h : A.fuse = -1) : A.burnt = A := by
  obtain ⟨r, f, fs⟩ := A
  simp only at h
  subst h
  rfl
theorem write_end {A : Dk} {f : ByteArray} {I : List Int} (hn : namedB f = true) (hl : I.length = 128) (he : A.fuse = -1) (hf : 0 < A.free) : A.write f ((A.at f).length : Int) I = (0, A.set f (A.at f ++ [Cel.zero.wrote I])) := by
  unfold Dk.write
  rw [if_neg (by rw [hn, hl]; simp), if_neg (by rw [goes_ever he]; simp), if_neg (by omega), if_pos rfl, burnt_ever he]
theorem at_some {A : Dk} {f : ByteArray} (h : 0 < (A.at f).length) : lk A.files f = some (A.at f) := by
  unfold Dk.at at h ⊢
  cases hk : lk A.files f with
  | none => rw [hk] at h; simp at h
  | some l => rfl
structure Fresh (A B : Dk) (f : ByteArray) (m : Nat) : Prop where
  sorted : Sorted B.files
  fuse : B.fuse = -1
  room : B.room = A.room
  size : sizeF B.files = sizeF A.files + m
  others : ∀ t, f ≠ t → B.at t = A.at t
theorem set_fresh {A : Dk} {f : ByteArray} {l : List Cel} {m : Nat} (hs : Sorted A.files) (he : A.fuse = -1) (hl : l.length = (A.at f).length + m) : Fresh A (A.set f l) f m :=
  ⟨sorted_put f l hs, he, rfl, by
    have := sizeF_put hs f l
    have h2 : ((lk A.files f).getD []).length = (A.at f).length := rfl
    show sizeF (putF A.files f l) = _
    omega, fun t ht => by rw [at_set hs l, if_neg ht]⟩
theorem wrF_fresh {f : ByteArray} {gen : Nat} (hn : namedB f = true) (hg : (gen : Int) ≤ 4611686018427387904) : ∀ (ps : List (List Int)) (A : Dk) (i : Nat), Sorted A.files → A.fuse = -1 → (A.at f).length = i → (ps.length : Int) ≤ A.free → (∀ p ∈ ps, p.length ≤ 106) → i + ps.length ≤ 2147483647 → 0 < i + ps.length →
    ∃ B, wrF A f gen i ps = (0, B) ∧ Fresh A B f ps.length ∧ (B.at f).length = i + ps.length
  | [], A, i, hs, he, hi, _, _, _, h0 => by
    have hl := at_some (A := A) (f := f) (by rw [hi]; simpa using h0)
    refine ⟨_, sync_some hl (goes_ever he), ?_, ?_⟩
    · rw [burnt_ever he]
      exact set_fresh hs he (by rw [List.length_map]; rfl)
    · rw [burnt_ever he, at_set hs, if_pos rfl, List.length_map, hi]; rfl
  | p :: ps, A, i, hs, he, hi, hf, hp, hm, _ => by
    have hpl := hp p (List.mem_cons_self ..)
    simp only [List.length_cons] at hf hm
    have hfo : FrameOk (i : Int) gen p.length := ⟨by omega, by omega, by omega, hg, hpl⟩
    have hw : A.write f (i : Int) (extI f i gen p) = (0, A.set f (A.at f ++ [Cel.zero.wrote (extI f i gen p)])) := by
      have := write_end (A := A) (f := f) (I := extI f i gen p) hn (extI_length hpl) he (by omega)
      rw [hi] at this
      exact this
    have h1 := set_fresh (A := A) (f := f) (l := A.at f ++ [Cel.zero.wrote (extI f i gen p)]) (m := 1) hs he (by rw [List.length_append]; rfl)
    have hlen : ((A.set f (A.at f ++ [Cel.zero.wrote (extI f i gen p)])).at f).length = i + 1 := by rw [at_set hs, if_pos rfl, List.length_append, hi]; rfl
    obtain ⟨B, hB, hF, hBl⟩ := wrF_fresh hn hg ps (A.set f (A.at f ++ [Cel.zero.wrote (extI f i gen p)])) (i + 1) h1.sorted h1.fuse hlen (by
      have := h1.size
      show (ps.length : Int) ≤ (A.set f _).room - _
      unfold Dk.free at hf
      have h2 := h1.room
      omega) (fun x hx => hp x (List.mem_cons_of_mem _ hx)) (by omega) (by omega)
    refine ⟨B, ?_, ⟨hF.sorted, hF.fuse, hF.room.trans h1.room, ?_, fun t ht => (hF.others t ht).trans (h1.others t ht)⟩, by rw [hBl, List.length_cons]; omega⟩
    · unfold wrF
      rw [if_neg (by simpa using hfo), hw, if_pos rfl]
      exact hB
    · rw [hF.size, h1.size, List.length_cons]; omega
theorem pieces_count {l : List Int} : ((piecesI l).length : Int) * 2 = needI l.length ∧ 0 < (piecesI l).length ∧ (l.length ≤ 600 → (piecesI l).length ≤ 6) ∧ ∀ p ∈ piecesI l, p.length ≤ 106 := by
  unfold piecesI needI
  by_cases h : l.length = 0
  · rw [if_pos h, if_pos (by omega)]
    refine ⟨by decide, by decide, fun _ => by decide, fun p hp => ?_⟩
    obtain rfl := List.mem_singleton.1 hp
    exact Nat.zero_le _
  · rw [if_neg h, if_neg (by omega), List.length_map, List.length_range]
    unfold chunkN
    refine ⟨by omega, by omega, fun h => by omega, fun p hp => ?_⟩
    obtain ⟨k, _, rfl⟩ := List.mem_map.1 hp
    rw [piece_length]
    unfold chunkM
    omega
/-- A text stored on a new disk. -/
theorem store_new {room : Int} {l : List Int} {gen : Nat} (hg : (gen : Int) ≤ 4611686018427387904) (hr : needI l.length ≤ room) (hl : (piecesI l).length ≤ 2147483647) : ∃ B, storeP (Dk.new room) exS gen l = (0, B) ∧ B.free = room - needI l.length ∧ B.fuse = -1 := by
  obtain ⟨p1, p2, -, p4⟩ := pieces_count (l := l)
  have hd : dropP (Dk.new room) exS = (0, Dk.new room) := by simp [dropP, dropL, halvesL, Dk.at, Dk.new, lk_nil]
  have hs0 : Sorted (Dk.new room).files := List.Pairwise.nil
  obtain ⟨B1, h1, f1, -⟩ := wrF_fresh (f := exS ++ dotA) twoEx.na hg (piecesI l) (Dk.new room) 0 hs0 rfl rfl (by show _ ≤ room - (0 : Nat); omega) p4 (by omega) (by omega)
  have hz : sizeF (Dk.new room).files = 0 := rfl
  have hr1 : B1.room = room := f1.room
  obtain ⟨B2, h2, f2, -⟩ := wrF_fresh (f := exS ++ dotB) twoEx.nb hg (piecesI l) B1 0 f1.sorted f1.fuse (by rw [f1.others _ twoEx.ne]; rfl) (by
    have := f1.size
    unfold Dk.free
    omega) p4 (by omega) (by omega)
  refine ⟨B2, ?_, ?_, f2.fuse⟩
  · unfold storeP
    rw [hd, if_pos rfl]
    unfold wrP halvesL
    simp only [wrL, h1, h2, if_pos rfl]
    rfl
  · have := f1.size
    have := f2.size
    have := f2.room
    unfold Dk.free
    omega
end Go.Proofs.YtnllmkpbnccllaaDoor
