/- Texts of one claim, one behind the other: DiskM, DiskRm, Nones, PairA, AnchA, AnchE, AnchD, PairW, PairP, PairG, AnchS, ExtP. -/
import Derived.Test.YtnllmkpbnccllaaDoorAn4
/- What calls make of a disk: plain lemmas. -/
namespace Go.Proofs.YtnllmkpbnccllaaDoor
open Go.RowKit HP
set_option linter.unusedSimpArgs false
set_option linter.unusedVariables false

def Dk.new (room : Int) : Dk := ⟨room, -1, []⟩
theorem Dk.new_fine {room : Int} (h : 0 ≤ room ∧ room ≤ 100000) : (Dk.new room).Fine :=
  ⟨List.Pairwise.nil, (fun x hx => by cases hx), (fun x hx => by cases hx), h, ⟨by show (-1 : Int) ≤ -1; omega, by show (-1 : Int) ≤ _; omega⟩, h.1⟩
theorem View.new {room : Int} (h : 0 ≤ room ∧ room ≤ 100000) : View (Dk.new room) #[] 0 [] :=
  ⟨⟨(fun x hx => by simp at hx), rfl, by simp, (fun x hx => by simp at hx), by simp⟩, fun s => rfl, Dk.new_fine h⟩
theorem disk_new_ok (E : Env) (q : HP) (room : Int) (w : World) (h : 0 ≤ room ∧ room ≤ 100000) (hw : Sat E w q) :
    Calls Tryd.prog 18 #[.int .i64 room] w fun e w' => ∃ d, e = .returned (.tuple #[.pointer (some ⟨d, 0, none⟩), .int .i64 0]) ∧ Sat E w' (HP.disk d (Dk.new room) * q) :=
  (disk_new E q room w h.1 h.2 hw).mono fun e w' ⟨d, m, he, hs⟩ => ⟨d, he, Sat.disk_close (m := m) (View.new h) (hs.perm (by
    unfold HP.dk
    simp only [List.map_nil, HP.all, HP.mul_emp]
    show _ = HP.dsk d room (-1) m * HP.pt m (.map #[] 0) * q
    rw [HP.mul_assoc]))⟩

section
variable {A : Dk} {s t : ByteArray} {i : Int} {b : List Int} {l : List Cel}
theorem at_set (hs : Sorted A.files) (l : List Cel) : (A.set s l).at t = if s = t then l else A.at t := by
  unfold Dk.at Dk.set
  rw [lk_put _ _ _ hs]
  split <;> rfl
theorem lk_set (hs : Sorted A.files) (l : List Cel) : lk (A.set s l).files t = if s = t then some l else lk A.files t := lk_put _ _ _ hs
theorem burnt_forever (h : A.fuse = -1) : A.burnt = A := by
  unfold Dk.burnt burnI
  rw [h]
  simp only [gt_iff_lt, Int.reduceNeg, Int.reduceLT, if_false]
  cases A
  simp only at h
  rw [h]
theorem goes_forever (h : A.fuse = -1) : A.goes = true := by
  unfold Dk.goes burnI
  rw [h]; rfl
theorem write_first (hn : namedB s = true) (hb : b.length = 128) (hat : A.at s = []) (hf : 0 < A.free) (hg : A.goes = true) : A.write s 0 b = (0, A.burnt.set s [Cel.zero.wrote b]) := by
  unfold Dk.write
  rw [if_neg (by simp [hn, hb, hat]), if_neg (by simp [hg]), if_neg (by omega), if_pos (by simp [hat]), hat]
  rfl
theorem write_other (hs : Sorted A.files) (hne : s ≠ t) : lk (A.write s i b).2.files t = lk A.files t := by
  unfold Dk.write
  split
  · rfl
  · split
    · rfl
    · split
      · rfl
      · split
        · show lk (A.burnt.set s _).files t = _
          rw [lk_set (A := A.burnt) hs, if_neg hne]; rfl
        · show lk (A.burnt.set s _).files t = _
          rw [lk_set (A := A.burnt) hs, if_neg hne]; rfl
theorem write_forever (h : A.fuse = -1) : (A.write s i b).2.fuse = -1 := by
  have e := burnt_forever h
  unfold Dk.write
  rw [e]
  split
  · exact h
  · split
    · exact h
    · split
      · exact h
      · split <;> exact h
theorem sync_some (hl : lk A.files s = some l) (hg : A.goes = true) : A.sync s = (0, A.burnt.set s (l.map Cel.syncd)) := by
  unfold Dk.sync
  rw [hl]
  simp [hg]
theorem cel_at (hl : lk A.files s = some l) (k : Nat) : A.cel s k = l[k]? := by
  unfold Dk.cel Dk.at
  rw [if_pos (by omega), hl]; rfl
end
theorem celAt_view {A : Dk} {es : Array MapEntry} {clock : Nat} {fs : List Fil} (hv : View A es clock fs) (s : ByteArray) (i : Int) : (celAt fs s i).map (·.2) = A.cel s i := by
  have h := hv.same s
  unfold celAt Dk.cel Dk.at
  unfold lkF at h
  cases hf : fs.find? (fun f => decide (f.name = s)) with
  | none =>
    rw [hf] at h
    rw [← h]
    simp
  | some f =>
    rw [hf] at h
    simp only [Option.map_some] at h
    rw [← h]
    simp only [Option.getD_some]
    by_cases h0 : 0 ≤ i
    · rw [if_pos h0]
      by_cases h1 : i < f.cels.length
      · rw [if_pos ⟨h0, h1⟩, Fil.cs, List.getElem?_map]
      · rw [if_neg (fun h => h1 h.2), Fil.cs, List.getElem?_map, List.getElem?_eq_none (by omega)]
    · rw [if_neg h0, if_neg (fun h => h0 h.1)]; rfl
def readEnd (E : Env) (q : HP) (r : Option Cel) (e : Ending) (w' : World) : Prop :=
  match r with
  | none => e = .returned (.tuple #[.slice none 0 0, .int .i64 30]) ∧ Sat E w' q
  | some c => ∃ v, e = .returned (.tuple #[v, .int .i64 0]) ∧ Sat E w' (HP.row 5 1 v 128 (b8s c.read) * q)
theorem disk_read_ok (E : Env) (q : HP) (d : Nat) (A : Dk) (name : ByteArray) (i : Int) (w : World) (hn : name.size ≤ maxLen) (hw : Sat E w (HP.disk d A * q)) :
    Calls Tryd.prog 25 #[.pointer (some ⟨d, 0, none⟩), .string name, .int .i64 i] w (readEnd E (HP.disk d A * q) (A.cel name i)) := by
  obtain ⟨m, es, clock, fs, hv, hd⟩ := hw.disk_open
  refine (disk_read E q d A.room A.fuse m es clock fs name i w hn hv.map hv.good hd).mono fun e w' h => ?_
  rw [← celAt_view hv]
  unfold readPost at h
  unfold readEnd
  cases hc : celAt fs name i with
  | none => rw [hc] at h; exact ⟨h.1, Sat.disk_close hv h.2⟩
  | some x =>
    rw [hc] at h
    obtain ⟨v, he, hs⟩ := h
    exact ⟨v, he, (Sat.disk_close (q := HP.row 5 1 v 128 (b8s x.2.read) * q) hv (hs.perm (HP.left_comm _ _ _))).perm (HP.left_comm _ _ _)⟩
/-- Elements of several cells. -/
theorem flat_get {α : Type} (f : α → List Value) (n : Nat) (l : List α) (hn : ∀ x, (f x).length = n) (i k : Nat) (x : α) (h : l[i]? = some x) (hk : k < n) : (l.flatMap f)[i * n + k]? = (f x)[k]? := by
  induction l generalizing i with
  | nil => simp at h
  | cons y l ih =>
    rw [List.flatMap_cons]
    cases i with
    | zero =>
      simp only [List.getElem?_cons_zero, Option.some.injEq] at h
      subst h
      rw [Nat.zero_mul, Nat.zero_add, List.getElem?_append_left (by rw [hn]; exact hk)]
    | succ i =>
      simp only [List.getElem?_cons_succ] at h
      rw [List.getElem?_append_right (by rw [hn, Nat.add_mul]; omega), hn, ← ih i h]
      congr 1
      rw [Nat.add_mul, Nat.one_mul]
      omega
theorem StepV.vals_length (s : StepV) : s.vals.length = 8 := rfl
end Go.Proofs.YtnllmkpbnccllaaDoor
/- (*Disk).Remove, Extents, Free, Fuse: over a disk told by its files. -/
namespace Go.Proofs.YtnllmkpbnccllaaDoor
open Go.RowKit HP
set_option linter.unusedSimpArgs false
set_option linter.unusedVariables false

set_option maxHeartbeats 1000000 in
set_option maxRecDepth 100000 in
theorem disk_extents (E : Env) (q : HP) (d : Nat) (A : Dk) (name : ByteArray) (w : World) (hn : name.size ≤ maxLen) (hw : Sat E w (HP.disk d A * q)) :
    Calls Tryd.prog 19 #[.pointer (some ⟨d, 0, none⟩), .string name] w fun e w' => e = .returned (.int .i64 ((A.at name).length : Int)) ∧ w' = w := by
  obtain ⟨m, es, clock, fs, hv, hd⟩ := hw.disk_open
  have hsm := at_small hv.fine name
  obtain ⟨k, hk⟩ : ∃ k, k = (A.at name).length := ⟨_, rfl⟩
  simp only [← hk] at hsm ⊢
  clear hw
  go_enter Tryd.func19, Tryd.ntmps19
  go_wp2_with fail
  refine (disk_none E _ d _ _ m w (dk_parts hd)).mono ?_
  rintro e w1 ⟨rfl, rfl⟩
  have c1 := (dk_parts hd).cell 1
  simp only [List.getElem?_toArray, List.getElem?_cons_zero, List.getElem?_cons_succ] at c1
  obtain ⟨v, B, cc, hvB, hlook, -, -⟩ := find_file hv hd name hn
  rw [hvB] at hlook
  clear hvB hd hv
  rw [← hk] at hlook
  clear hk
  go_wp2
  go_ret
  exact ⟨rfl, rfl⟩
theorem disk_free_ok (E : Env) (q : HP) (d : Nat) (A : Dk) (w : World) (hw : Sat E w (HP.disk d A * q)) :
    Calls Tryd.prog 28 #[.pointer (some ⟨d, 0, none⟩)] w fun e w' => e = .returned (.int .i64 A.free) ∧ Sat E w' (HP.disk d A * q) := by
  obtain ⟨m, es, clock, fs, hv, hd⟩ := hw.disk_open
  refine (disk_free E q d A.room A.fuse m es clock fs w hv.map hv.fine.room (by rw [hv.total]; have := hv.size_le; omega) hd).mono ?_
  rintro e w' ⟨rfl, h⟩
  exact ⟨by rw [hv.total]; rfl, Sat.disk_close hv h⟩
theorem disk_fuse_ok (E : Env) (q : HP) (d : Nat) (A : Dk) (n : Int) (w : World) (hn : n ≤ 9223372036854775807) (hw : Sat E w (HP.disk d A * q)) :
    Calls Tryd.prog 85 #[.pointer (some ⟨d, 0, none⟩), .int .i64 n] w fun e w' => (n < 0 ∧ e = .returned (.int .i64 1) ∧ Sat E w' (HP.disk d A * q)) ∨ (0 ≤ n ∧ e = .returned (.int .i64 0) ∧ Sat E w' (HP.disk d { A with fuse := n } * q)) := by
  obtain ⟨m, es, clock, fs, hv, hd⟩ := hw.disk_open
  refine (disk_fuse E _ d _ _ m n w (dk_parts hd)).mono ?_
  rintro e w' (⟨h1, rfl, rfl⟩ | ⟨h1, rfl, h⟩)
  · exact .inl ⟨h1, rfl, hw⟩
  · refine .inr ⟨h1, rfl, Sat.disk_close (m := m) (hv.fuel n ⟨by omega, hn⟩) (h.perm ?_)⟩
    unfold HP.dk
    ac_rfl
/-- Whether a disk was made: 'Fuse(-1)' of one that was. -/
theorem disk_asked (E : Env) (q : HP) (d : Nat) (A : Dk) (w : World) (hw : Sat E w (HP.disk d A * q)) :
    Calls Tryd.prog 85 #[.pointer (some ⟨d, 0, none⟩), .int .i64 (-1)] w fun e w' => e = .returned (.int .i64 1) ∧ Sat E w' (HP.disk d A * q) :=
  (disk_fuse_ok E q d A (-1) w (by omega) hw).mono fun e w' h => by
    rcases h with ⟨_, he, hs⟩ | ⟨h0, _, _⟩
    · exact ⟨he, hs⟩
    · omega
set_option maxHeartbeats 1000000 in
set_option maxRecDepth 100000 in
theorem disk_remove (E : Env) (q : HP) (d : Nat) (A : Dk) (name : ByteArray) (w : World) (hn : name.size ≤ maxLen) (hw : Sat E w (HP.disk d A * q)) :
    Calls Tryd.prog 57 #[.pointer (some ⟨d, 0, none⟩), .string name] w fun e w' => e = .returned (.int .i64 (A.remove name).1) ∧ Sat E w' (HP.disk d (A.remove name).2 * q) := by
  obtain ⟨m, es, clock, fs, hv, hd⟩ := hw.disk_open
  have hfu := hv.fine.fuse
  have HF : Aside (A.remove name = match lk A.files name with
    | none => (30, A)
    | some _ => if A.goes = false then (31, A.burnt) else (0, { A.burnt with files := delF A.files name })) := ⟨rfl⟩
  clear hw
  go_enter Tryd.func57, Tryd.ntmps57
  go_wp2_with fail
  refine (disk_none E _ d _ _ m w (dk_parts hd)).mono ?_
  rintro e w1 ⟨rfl, rfl⟩
  have c1 := (dk_parts hd).cell 1
  simp only [List.getElem?_toArray, List.getElem?_cons_zero, List.getElem?_cons_succ] at c1
  obtain ⟨v, B, cc, hvB, -, hlook, hcase⟩ := find_file hv hd name hn
  clear hvB
  rcases hcase with ⟨hlk, -⟩ | ⟨j, f, hj, hname, hfv, hlk⟩
  · rw [hlk] at HF hlook
    have HT : Aside (A.remove name = (30, A) ∧ Sat E w1 (HP.disk d A * q)) := ⟨HF.out, Sat.disk_close hv hd⟩
    clear HF hd hv hlk hfu
    go_wp2
    go_ret
    rw [HT.out.1]
    exact ⟨rfl, HT.out.2⟩
  · rw [hlk] at HF hlook
    subst hname
    have HV := Aside.mk (And.intro hv hj)
    clear hlk hv hj hfv
    go_wp2_with fail
    refine (disk_burn E _ d _ _ m w1 hfu.2 (dk_parts hd)).mono ?_
    rintro e w3 ⟨rfl, hd3⟩
    cases hgo : A.goes with
    | false =>
      have hgo' : (burnI A.fuse).2 = false := hgo
      rw [hgo']
      have HT : Aside (A.remove f.name = (31, A.burnt) ∧ Sat E w3 (HP.disk d A.burnt * q)) := ⟨by rw [HF.out]; simp [hgo], Sat.disk_close HV.out.1.burnt (burnt_dsk hd3)⟩
      clear HF hd hd3 HV hgo hgo' hfu hlook c1
      go_wp2
      go_ret
      rw [HT.out.1]
      exact ⟨rfl, HT.out.2⟩
    | true =>
      have hgo' : (burnI A.fuse).2 = true := hgo
      rw [hgo']
      have HS : Aside (A.remove f.name = (0, { A.burnt with files := delF A.files f.name })) := ⟨by rw [HF.out]; simp [hgo]⟩
      obtain ⟨hv, hj⟩ := HV.out
      have c3 := hd3.cell 1
      simp only [List.getElem?_toArray, List.getElem?_cons_zero, List.getElem?_cons_succ] at c3
      have hrun : (Builtin.delete_ #[29, 9] 0 #[.map (some m), .string f.name]).run Tryd.prog w3 = .ok (.tuple #[]) (ChangeMaps.setBlock w3 m (.map (es.eraseIdxIfInBounds j) clock)) := by
        rcases delete_str (P := Tryd.prog) (t := 29) (ty := 0) Tryd.underlying9 Tryd.underlying29 hd3.s2.get hv.map.1 f.name hn with ⟨hno, -⟩ | ⟨i, x, hi, hx, h⟩
        · have h1 : (Value.string f.name, f.val) ∈ fs.map (fun f => (Value.string f.name, f.val)) := List.mem_map.2 ⟨f, List.mem_of_getElem? hj, rfl⟩
          rw [← hv.map.2.1] at h1
          obtain ⟨x, hx, hxe⟩ := List.mem_map.1 h1
          simp only [Prod.mk.injEq] at hxe
          exact absurd hxe.1 (hno x hx)
        · have h6 := congrArg (fun l => l[i]?) hv.map.2.1
          simp only [List.getElem?_map, hi, Option.map_some] at h6
          cases hfi : fs[i]? with
          | none => rw [hfi] at h6; cases h6
          | some g =>
            rw [hfi] at h6
            simp only [Option.map_some, Option.some.injEq, Prod.mk.injEq] at h6
            have hgn : g.name = f.name := by
              have := h6.1.symm.trans hx
              injection this
            have hil : i < fs.length := (List.getElem?_eq_some_iff.1 hfi).1
            have hij : i = j := by
              have e1 : (fs.map (·.name))[i]? = some f.name := by rw [List.getElem?_map, hfi, ← hgn]; rfl
              have e2 : (fs.map (·.name))[j]? = some f.name := by rw [List.getElem?_map, hj]; rfl
              exact (List.getElem?_inj (by simpa using hil) hv.map.2.2.1).1 (e1.trans e2.symm)
            subst hij
            exact h
      have h4 : Sat E (ChangeMaps.setBlock w3 m (.map (es.eraseIdxIfInBounds j) clock)) (HP.disk d { A.burnt with files := delF A.files f.name } * q) := by
        have h5 := Sat.setBlk hd3.s2 (.map (es.eraseIdxIfInBounds j) clock)
        refine Sat.disk_close (m := m) (hv.burnt.erase hj) ?_
        have h6 : Sat E (ChangeMaps.setBlock w3 m (.map (es.eraseIdxIfInBounds j) clock)) (HP.all (fs.map HP.fil) * (HP.pt m (.map (es.eraseIdxIfInBounds j) clock) * (HP.dsk d A.room (burnI A.fuse).1 m * q))) := h5.perm (by ac_rfl)
        rw [all_take (l := fs.map HP.fil) (j := j) (p := HP.fil f) (by rw [List.getElem?_map, hj]; rfl), map_erase] at h6
        exact (h6.perm (HP.mul_assoc _ _ _)).right.perm (by unfold HP.dk; show _ = HP.dsk d A.room (burnI A.fuse).1 m * _ * q; ac_rfl)
      have HT := Aside.mk (And.intro HS.out h4)
      clear HF hd hd3 HV hgo hgo' hfu hlook c1 hv hj h4 HS
      go_wp2_with (at_builtin; refine wpList_delete_run rfl rfl rfl rfl hrun ?_)
      go_ret
      rw [HT.out.1]
      exact ⟨rfl, HT.out.2⟩
end Go.Proofs.YtnllmkpbnccllaaDoor
/- A disk that no call made: what every call answers. -/
namespace Go.Proofs.YtnllmkpbnccllaaDoor
open Go.RowKit HP
set_option linter.unusedSimpArgs false
set_option linter.unusedVariables false

set_option maxHeartbeats 1000000 in
set_option maxRecDepth 100000 in
theorem none_write (p : Value) (s : ByteArray) (i : Int) (v : Value) (w : World) (hn : Calls Tryd.prog 58 #[p] w fun e w' => e = .returned (.bool true) ∧ w' = w) : Calls Tryd.prog 52 #[p, .string s, .int .i64 i, v] w fun e w' => e = .returned (.int .i64 2) ∧ w' = w := by
  go_enter Tryd.func52, Tryd.ntmps52
  go_wp2_with fail
  refine hn.mono ?_
  rintro e w1 ⟨rfl, rfl⟩
  clear hn
  go_wp2
  go_ret
  exact ⟨rfl, rfl⟩
set_option maxHeartbeats 1000000 in
set_option maxRecDepth 100000 in
theorem none_sync (p : Value) (s : ByteArray) (w : World) (hn : Calls Tryd.prog 58 #[p] w fun e w' => e = .returned (.bool true) ∧ w' = w) : Calls Tryd.prog 53 #[p, .string s] w fun e w' => e = .returned (.int .i64 2) ∧ w' = w := by
  go_enter Tryd.func53, Tryd.ntmps53
  go_wp2_with fail
  refine hn.mono ?_
  rintro e w1 ⟨rfl, rfl⟩
  clear hn
  go_wp2
  go_ret
  exact ⟨rfl, rfl⟩
set_option maxHeartbeats 1000000 in
set_option maxRecDepth 100000 in
theorem none_remove (p : Value) (s : ByteArray) (w : World) (hn : Calls Tryd.prog 58 #[p] w fun e w' => e = .returned (.bool true) ∧ w' = w) : Calls Tryd.prog 57 #[p, .string s] w fun e w' => e = .returned (.int .i64 2) ∧ w' = w := by
  go_enter Tryd.func57, Tryd.ntmps57
  go_wp2_with fail
  refine hn.mono ?_
  rintro e w1 ⟨rfl, rfl⟩
  clear hn
  go_wp2
  go_ret
  exact ⟨rfl, rfl⟩
set_option maxHeartbeats 1000000 in
set_option maxRecDepth 100000 in
theorem none_rot (p : Value) (s : ByteArray) (i k m : Int) (w : World) (hn : Calls Tryd.prog 58 #[p] w fun e w' => e = .returned (.bool true) ∧ w' = w) : Calls Tryd.prog 20 #[p, .string s, .int .i64 i, .int .i64 k, .int .u8 m] w fun e w' => e = .returned (.int .i64 2) ∧ w' = w := by
  go_enter Tryd.func20, Tryd.ntmps20
  go_wp2_with fail
  refine hn.mono ?_
  rintro e w1 ⟨rfl, rfl⟩
  clear hn
  go_wp2
  go_ret
  exact ⟨rfl, rfl⟩
set_option maxHeartbeats 1000000 in
set_option maxRecDepth 100000 in
theorem none_fuse (p : Value) (n : Int) (w : World) (hn : Calls Tryd.prog 58 #[p] w fun e w' => e = .returned (.bool true) ∧ w' = w) : Calls Tryd.prog 85 #[p, .int .i64 n] w fun e w' => e = .returned (.int .i64 2) ∧ w' = w := by
  go_enter Tryd.func85, Tryd.ntmps85
  go_wp2_with fail
  refine hn.mono ?_
  rintro e w1 ⟨rfl, rfl⟩
  clear hn
  go_wp2
  go_ret
  exact ⟨rfl, rfl⟩
set_option maxHeartbeats 1000000 in
set_option maxRecDepth 100000 in
theorem none_read (p : Value) (s : ByteArray) (i : Int) (w : World) (hn : Calls Tryd.prog 58 #[p] w fun e w' => e = .returned (.bool true) ∧ w' = w) : Calls Tryd.prog 25 #[p, .string s, .int .i64 i] w fun e w' => e = .returned (.tuple #[.slice none 0 0, .int .i64 2]) ∧ w' = w := by
  go_enter Tryd.func25, Tryd.ntmps25
  go_wp2_with fail
  refine hn.mono ?_
  rintro e w1 ⟨rfl, rfl⟩
  clear hn
  go_wp2
  go_ret2
  exact ⟨rfl, rfl⟩
set_option maxHeartbeats 1000000 in
set_option maxRecDepth 100000 in
theorem none_extents (p : Value) (s : ByteArray) (w : World) (hn : Calls Tryd.prog 58 #[p] w fun e w' => e = .returned (.bool true) ∧ w' = w) : Calls Tryd.prog 19 #[p, .string s] w fun e w' => e = .returned (.int .i64 0) ∧ w' = w := by
  go_enter Tryd.func19, Tryd.ntmps19
  go_wp2_with fail
  refine hn.mono ?_
  rintro e w1 ⟨rfl, rfl⟩
  clear hn
  go_wp2
  go_ret
  exact ⟨rfl, rfl⟩
set_option maxHeartbeats 1000000 in
set_option maxRecDepth 100000 in
theorem none_free (p : Value)  (w : World) (hn : Calls Tryd.prog 58 #[p] w fun e w' => e = .returned (.bool true) ∧ w' = w) : Calls Tryd.prog 28 #[p] w fun e w' => e = .returned (.int .i64 0) ∧ w' = w := by
  go_enter Tryd.func28, Tryd.ntmps28
  go_wp2_with fail
  refine hn.mono ?_
  rintro e w1 ⟨rfl, rfl⟩
  clear hn
  go_wp2
  go_ret
  exact ⟨rfl, rfl⟩
set_option maxHeartbeats 1000000 in
set_option maxRecDepth 100000 in
theorem none_list (p : Value)  (w : World) (hn : Calls Tryd.prog 58 #[p] w fun e w' => e = .returned (.bool true) ∧ w' = w) : Calls Tryd.prog 60 #[p] w fun e w' => e = .returned (.slice none 0 0) ∧ w' = w := by
  go_enter Tryd.func60, Tryd.ntmps60
  go_wp2_with fail
  refine hn.mono ?_
  rintro e w1 ⟨rfl, rfl⟩
  clear hn
  go_wp2
  go_ret
  exact ⟨rfl, rfl⟩
set_option maxHeartbeats 1000000 in
set_option maxRecDepth 100000 in
theorem none_damaged (p : Value)  (w : World) (hn : Calls Tryd.prog 58 #[p] w fun e w' => e = .returned (.bool true) ∧ w' = w) : Calls Tryd.prog 26 #[p] w fun e w' => e = .returned (.slice none 0 0) ∧ w' = w := by
  go_enter Tryd.func26, Tryd.ntmps26
  go_wp2_with fail
  refine hn.mono ?_
  rintro e w1 ⟨rfl, rfl⟩
  clear hn
  go_wp2
  go_ret
  exact ⟨rfl, rfl⟩
set_option maxHeartbeats 1000000 in
set_option maxRecDepth 100000 in
theorem none_copy (p : Value)  (w : World) (hn : Calls Tryd.prog 58 #[p] w fun e w' => e = .returned (.bool true) ∧ w' = w) : Calls Tryd.prog 21 #[p] w fun e w' => e = .returned (.pointer none) ∧ w' = w := by
  go_enter Tryd.func21, Tryd.ntmps21
  go_wp2_with fail
  refine hn.mono ?_
  rintro e w1 ⟨rfl, rfl⟩
  clear hn
  go_wp2
  go_ret
  exact ⟨rfl, rfl⟩
end Go.Proofs.YtnllmkpbnccllaaDoor
/- pair: halves, none. -/
namespace Go.Proofs.YtnllmkpbnccllaaDoor
open Go.RowKit HP
set_option linter.unusedSimpArgs false
set_option linter.unusedVariables false

def dotA : ByteArray := ⟨#[46, 97]⟩
def dotB : ByteArray := ⟨#[46, 98]⟩
theorem agTwo : AgTy Tryd.prog 82 2 := ⟨⟨_, Tryd.underlying82, rfl⟩, by kernel_rfl⟩
set_option maxHeartbeats 1000000 in
set_option maxRecDepth 100000 in
theorem pair_halves (E : Env) (q : HP) (name : ByteArray) (w : World) (hn : name.size + 2 ≤ maxLen) (hw : Sat E w q) :
    Calls Tryd.prog 49 #[.string name] w fun e w' => e = .returned (.agg #[.string (name ++ dotA), .string (name ++ dotB)]) ∧ Sat E w' q := by
  have HW := Aside.mk hw
  have hn2 : name.size + 2 ≤ 9223372036854775807 := by unfold maxLen at hn; omega
  unfold dotA dotB
  go_enter Tryd.func49, Tryd.ntmps49
  have h1 := hw.alloc (.cells [.string (name ++ ⟨#[46, 97]⟩), .string (name ++ ⟨#[46, 98]⟩)].toArray 82)
  have r1 := run_loadAgg (P := Tryd.prog) (n := 2) agTwo rfl (Sat.ptCells (off := 0) (l := [.string (name ++ ⟨#[46, 97]⟩), .string (name ++ ⟨#[46, 98]⟩)]) h1 rfl)
  go_wp2
  exact ⟨rfl, _, results_cell (t := 2) (by kernel_rfl) rfl r1, rfl, h1.right⟩
set_option maxHeartbeats 1000000 in
set_option maxRecDepth 100000 in
theorem pair_none (E : Env) (q : HP) (d : Nat) (A : Dk) (w : World) (hw : Sat E w (HP.disk d A * q)) :
    Calls Tryd.prog 48 #[.pointer (some ⟨d, 0, none⟩)] w fun e w' => e = .returned (.bool false) ∧ Sat E w' (HP.disk d A * q) := by
  have HW := Aside.mk hw
  clear hw
  go_enter Tryd.func48, Tryd.ntmps48
  go_wp2_with fail
  refine (disk_asked E q d A _ HW.out).mono ?_
  rintro e w1 ⟨rfl, h1⟩
  have H1 := Aside.mk h1
  clear h1
  go_wp2
  go_ret
  exact ⟨rfl, H1.out⟩
end Go.Proofs.YtnllmkpbnccllaaDoor
/- anchor: whether an anchor may be. -/
namespace Go.Proofs.YtnllmkpbnccllaaDoor
open Go.RowKit HP
set_option linter.unusedSimpArgs false
set_option linter.unusedVariables false

def i8s (l : List Int) : List Value := l.map (Value.int .i64)
def nOk (lo n : Int) : Bool := decide (lo ≤ n) && decide (n ≤ 4611686018427387904)
def btw (lo : Int) (l : List Int) : Bool := l.all (nOk lo)
set_option maxHeartbeats 1000000 in
set_option maxRecDepth 100000 in
theorem btw_in (lo x : Int) (b : Nat) (w : World) (hb : w.cell? ⟨b, 0, none⟩ = some (.int .i64 lo)) :
    Calls Tryd.prog 103 #[.int .i64 x, .pointer (some ⟨b, 0, none⟩)] w fun e w' => e = .returned (.bool (!nOk lo x)) ∧ w' = w := by
  by_cases h1 : x < lo
  · have hr : nOk lo x = false := by unfold nOk; rw [decide_eq_false (by omega)]; rfl
    have HR := Aside.mk hr
    clear hr
    go_enter Tryd.func103, Tryd.ntmps103
    go_wp2
    go_ret
    rw [HR.out]
    exact ⟨rfl, rfl⟩
  · have hr : nOk lo x = decide (x ≤ 4611686018427387904) := by unfold nOk; rw [decide_eq_true (by omega)]; rfl
    by_cases h2 : 4611686018427387904 < x
    · have HR : Aside (nOk lo x = false) := ⟨by rw [hr, decide_eq_false (by omega)]⟩
      clear hr
      go_enter Tryd.func103, Tryd.ntmps103
      go_wp2
      go_ret
      rw [HR.out]
      exact ⟨rfl, rfl⟩
    · have HR : Aside (nOk lo x = true) := ⟨by rw [hr, decide_eq_true (by omega)]⟩
      clear hr
      go_enter Tryd.func103, Tryd.ntmps103
      go_wp2
      go_ret
      rw [HR.out]
      exact ⟨rfl, rfl⟩
theorem btw_take {lo : Int} {l : List Int} {k : Nat} {x : Int} (hx : l[k]? = some x) : btw lo (l.take (k + 1)) = (btw lo (l.take k) && nOk lo x) := by
  unfold btw
  rw [List.take_add_one, hx, List.all_append]
  simp
theorem btw_bad {lo : Int} {l : List Int} {k : Nat} {x : Int} (hx : l[k]? = some x) (h : nOk lo x = false) : btw lo l = false := by
  unfold btw
  rw [Bool.eq_false_iff]
  intro hn
  rw [List.all_eq_true] at hn
  have := hn x (List.mem_of_getElem? hx)
  rw [h] at this
  cases this
set_option maxHeartbeats 1000000 in
set_option maxRecDepth 100000 in
theorem index_fn (lo : Int) (g : Nat) (l : List Int) (n c b : Nat) (w : World) (hln : l.length = n) (hm : n ≤ 4611686018427387904) (hb : w.cell? ⟨b, 0, none⟩ = some (.int .i64 lo)) (hc : Cells w (some ⟨g, 0, none⟩) (i8s l)) :
    Calls Tryd.prog 129 #[.slice (some ⟨g, 0, none⟩) n c, .func (.func 103) #[] #[.pointer (some ⟨b, 0, none⟩)]] w fun e w' => (∃ i : Int, e = .returned (.int .i64 i) ∧ (if 0 ≤ i then btw lo l = false else btw lo l = true)) ∧ w' = w := by
  have HL := Aside.mk (And.intro hln hc)
  have Hb := Aside.mk hb
  clear hln hc hb
  go_enter Tryd.func129, Tryd.ntmps129
  go_wp2
  go_loopw [8] (fun v8 wr => ∃ k : Nat, k ≤ n ∧ v8 = .int .i64 k ∧ Aside (btw lo (l.take k) = true) ∧ wr = w) (fun i _ => n - (intOf i).toNat)
  case atStart => exact ⟨0, by omega, rfl, ⟨rfl⟩, rfl⟩
  case round =>
    obtain ⟨k, hk, rfl, HB, hwr⟩ := hrel
    subst wr
    by_cases hlt : k < n
    · have hlt2 : (k : Int) < n := by omega
      have hkl : k < l.length := by rw [HL.out.1]; exact hlt
      obtain ⟨x, hx⟩ : ∃ x, l[k]? = some x := ⟨_, List.getElem?_eq_getElem hkl⟩
      have gx : w.cell? ⟨g, k, none⟩ = some (.int .i64 x) := by
        have := HL.out.2.some_ k (.int .i64 x) (by unfold i8s; rw [List.getElem?_map, hx]; rfl)
        rw [addr_add, Nat.zero_add] at this
        exact this
      have HX := Aside.mk hx
      clear hx hkl
      cases hq : nOk lo x with
      | false =>
        have HQ : Aside (btw lo l = false) := ⟨btw_bad HX.out hq⟩
        go_wp2_with fail
        refine (btw_in lo x b _ Hb.out).mono ?_
        rintro e w1 ⟨rfl, hw1⟩
        subst w1
        rw [hq]
        go_wp2
        go_ret
        exact ⟨⟨_, rfl, by rw [if_pos (by omega)]; exact HQ.out⟩, rfl⟩
      | true =>
        have HQ : Aside (btw lo (l.take (k + 1)) = true) := ⟨by rw [btw_take HX.out, HB.out, hq]; rfl⟩
        go_wp2_with fail
        refine (btw_in lo x b _ Hb.out).mono ?_
        rintro e w1 ⟨rfl, hw1⟩
        subst w1
        rw [hq]
        go_wp2
        go_roundw
        case rel => exact ⟨k + 1, by omega, by push_cast; rfl, HQ, by first | rfl | trivial⟩
        case measure => simp [intOf]; omega
    · obtain rfl : k = n := by omega
      have HQ : Aside (btw lo l = true) := ⟨by have := HB.out; rwa [List.take_of_length_le (by rw [HL.out.1]; exact Nat.le_refl _)] at this⟩
      go_wp2
      go_ret
      exact ⟨⟨_, rfl, by rw [if_neg (by omega)]; exact HQ.out⟩, rfl⟩
set_option maxHeartbeats 1000000 in
set_option maxRecDepth 100000 in
theorem contains_fn (lo : Int) (g : Nat) (l : List Int) (n c b : Nat) (w : World) (hln : l.length = n) (hm : n ≤ 4611686018427387904) (hb : w.cell? ⟨b, 0, none⟩ = some (.int .i64 lo)) (hc : Cells w (some ⟨g, 0, none⟩) (i8s l)) :
    Calls Tryd.prog 102 #[.slice (some ⟨g, 0, none⟩) n c, .func (.func 103) #[] #[.pointer (some ⟨b, 0, none⟩)]] w fun e w' => e = .returned (.bool (!btw lo l)) ∧ w' = w := by
  have HI := Aside.mk (index_fn lo g l n c b w hln hm hb hc)
  clear hln hc hb
  go_enter Tryd.func102, Tryd.ntmps102
  go_wp2_with fail
  refine HI.out.mono ?_
  rintro e w1 ⟨⟨i, rfl, hi⟩, hw1⟩
  subst w1
  by_cases h0 : 0 ≤ i
  · rw [if_pos h0] at hi
    have HV := Aside.mk hi
    clear hi
    go_wp2
    go_ret
    rw [HV.out]
    exact ⟨rfl, rfl⟩
  · rw [if_neg h0] at hi
    have HV := Aside.mk hi
    clear hi
    go_wp2
    go_ret
    rw [HV.out]
    exact ⟨by show Ending.returned (Value.bool (decide (0 ≤ i))) = _; rw [decide_eq_false (by omega)]; rfl, rfl⟩
set_option maxHeartbeats 1000000 in
set_option maxRecDepth 100000 in
theorem between_ok (E : Env) (q : HP) (lo : Int) (g : Nat) (l : List Int) (n c : Nat) (w : World) (hln : l.length = n) (hm : n ≤ 4611686018427387904) (hq : ∀ w, Sat E w q → Cells w (some ⟨g, 0, none⟩) (i8s l)) (hw : Sat E w q) :
    Calls Tryd.prog 82 #[.int .i64 lo, .slice (some ⟨g, 0, none⟩) n c] w fun e w' => e = .returned (.bool (btw lo l)) ∧ Sat E w' q := by
  have h1 := hw.alloc (.cells #[.int .i64 lo] 3)
  have HI := Aside.mk (And.intro (contains_fn lo g l n c w.heap.size _ hln hm h1.cell1 (hq _ h1.right)) h1.right)
  clear hln hq hw h1
  go_enter Tryd.func82, Tryd.ntmps82
  go_wp2_with fail
  refine HI.out.1.mono ?_
  rintro e w1 ⟨rfl, hw1⟩
  subst w1
  go_wp2
  go_ret
  simp only [Bool.not_not]
  exact ⟨rfl, HI.out.2⟩
structure Anch where
  seq : Int
  gen : Int
  lsn : Int
  seg : Int
  ext : Int
  flo : Int
  new : Int
  keep : Int
  next : Int
  cur : Int
def Anch.l (a : Anch) : List Int := [a.seq, a.gen, a.lsn, a.seg, a.ext, a.flo, a.new, a.keep, a.next, a.cur]
def canA (a : Anch) : Bool := btw 1 [a.seq, a.gen, a.seg, a.next] && btw 0 [a.lsn, a.ext, a.keep, a.cur]
set_option maxHeartbeats 1000000 in
set_option maxRecDepth 100000 in
theorem can_ok (E : Env) (q : HP) (a : Anch) (w : World) (hw : Sat E w q) :
    Calls Tryd.prog 43 #[.agg #[.int .i64 a.seq, .int .i64 a.gen, .int .i64 a.lsn, .int .i64 a.seg, .int .i64 a.ext, .int .i64 a.flo, .int .i64 a.new, .int .i64 a.keep, .int .i64 a.next, .int .i64 a.cur]] w fun e w' => e = .returned (.bool (canA a)) ∧ Sat E w' q := by
  have h1 := (hw.alloc (.cells #[.int .i64 a.seq, .int .i64 a.gen, .int .i64 a.lsn, .int .i64 a.seg, .int .i64 a.ext, .int .i64 a.flo, .int .i64 a.new, .int .i64 a.keep, .int .i64 a.next, .int .i64 a.cur] 71))
  have h2 := h1.alloc (.cells #[.int .i64 a.seq, .int .i64 a.gen, .int .i64 a.seg, .int .i64 a.next] 3)
  have hz : (w.alloc (.cells #[.int .i64 a.seq, .int .i64 a.gen, .int .i64 a.lsn, .int .i64 a.seg, .int .i64 a.ext, .int .i64 a.flo, .int .i64 a.new, .int .i64 a.keep, .int .i64 a.next, .int .i64 a.cur] 71)).heap.size = w.heap.size + 1 := by simp
  rw [hz] at h2
  have H2 := Aside.mk h2
  have HC : Aside (canA a = (btw 1 [a.seq, a.gen, a.seg, a.next] && btw 0 [a.lsn, a.ext, a.keep, a.cur])) := ⟨rfl⟩
  clear hw h1 h2 hz
  go_enter Tryd.func43, Tryd.ntmps43
  go_wp2_with fail
  refine (between_ok E _ 1 (w.heap.size + 1) [a.seq, a.gen, a.seg, a.next] 4 4 _ rfl (by omega) (fun w h => Sat.ptCells (off := 0) (l := i8s [a.seq, a.gen, a.seg, a.next]) h rfl) H2.out).mono ?_
  rintro e w1 ⟨rfl, h3⟩
  cases hb : btw 1 [a.seq, a.gen, a.seg, a.next] with
  | false =>
    have H3 := Aside.mk h3.right.right
    rw [hb] at HC
    clear h3 hb H2
    go_wp2
    go_ret
    rw [HC.out]
    exact ⟨rfl, H3.out⟩
  | true =>
    have H3 := Aside.mk h3.right
    rw [hb] at HC
    have k0 := H3.out.cell 2
    have k1 := H3.out.cell 4
    have k2 := H3.out.cell 7
    have k3 := H3.out.cell 9
    simp only [List.getElem?_toArray, List.getElem?_cons_zero, List.getElem?_cons_succ] at k0 k1 k2 k3
    have H4 := Aside.mk (H3.out.alloc (.cells #[.int .i64 a.lsn, .int .i64 a.ext, .int .i64 a.keep, .int .i64 a.cur] 3))
    clear h3 hb H2
    go_wp2_with fail
    refine (between_ok E _ 0 w1.heap.size [a.lsn, a.ext, a.keep, a.cur] 4 4 _ rfl (by omega) (fun w h => Sat.ptCells (off := 0) (l := i8s [a.lsn, a.ext, a.keep, a.cur]) h rfl) H4.out).mono ?_
    rintro e w2 ⟨rfl, h5⟩
    have H5 := Aside.mk h5.right.right
    clear h5
    go_wp2
    go_ret
    rw [HC.out]
    exact ⟨rfl, H5.out⟩
end Go.Proofs.YtnllmkpbnccllaaDoor
/- anchor.Encode. -/
namespace Go.Proofs.YtnllmkpbnccllaaDoor
open Go.RowKit HP
set_option linter.unusedSimpArgs false
set_option linter.unusedVariables false

def n64 (n : Int) : Nat := (n % 18446744073709551616).toNat
def encI (l : List Int) : List Int := l.flatMap fun n => putI (n64 n) 8
def encEnd (E : Env) (q : HP) (a : Anch) (e : Ending) (w' : World) : Prop :=
  if canA a = true then ∃ v, e = .returned (.tuple #[v, .int .i64 0]) ∧ Sat E w' (HP.row 5 1 v 80 (b8s (encI a.l)) * q) else e = .returned (.tuple #[.slice none 0 0, .int .i64 1]) ∧ Sat E w' q
theorem encEnd_no {E : Env} {q : HP} {a : Anch} {e : Ending} {w' : World} (h : canA a = false) (he : e = .returned (.tuple #[.slice none 0 0, .int .i64 1])) (hw : Sat E w' q) : encEnd E q a e w' := by
  unfold encEnd
  rw [if_neg (by rw [h]; decide)]
  exact ⟨he, hw⟩
theorem encEnd_yes {E : Env} {q : HP} {a : Anch} {e : Ending} {w' : World} {v : Value} (h : canA a = true) (he : e = .returned (.tuple #[v, .int .i64 0])) (hw : Sat E w' (HP.row 5 1 v 80 (b8s (encI a.l)) * q)) : encEnd E q a e w' := by
  unfold encEnd
  rw [if_pos h]
  exact ⟨v, he, hw⟩
theorem Anch.l_length (a : Anch) : a.l.length = 10 := rfl
theorem encI_length (l : List Int) : (encI l).length = 8 * l.length := by
  unfold encI
  rw [List.length_flatMap]
  induction l with
  | nil => rfl
  | cons x l ih => rw [List.map_cons, List.sum_cons, ih, putI_length, List.length_cons]; omega
theorem encI_bytes (l : List Int) : Bytes (encI l) := fun x hx => by
  obtain ⟨n, -, h⟩ := List.mem_flatMap.1 hx
  exact putI_bytes _ _ x h
theorem encI_take {l : List Int} {k : Nat} {x : Int} (hx : l[k]? = some x) : encI (l.take (k + 1)) = encI (l.take k) ++ putI (n64 x) 8 := by
  unfold encI
  rw [List.take_add_one, hx, List.flatMap_append]
  simp
theorem n64_wrap (n : Int) : IntKind.u64.wrap n = (n64 n : Int) := by
  rw [IntKind.wrap_u64]
  unfold n64
  rw [Int.toNat_of_nonneg (by omega)]
theorem n64_lt (n : Int) : n64 n < 18446744073709551616 := by unfold n64; omega
set_option maxRecDepth 100000 in
theorem index_anch (a : Anch) : ∀ k : Nat, k < 10 → ∃ x, a.l[k]? = some x ∧ ∀ w, (Instr.index 125 (.agg #[.int .i64 a.seq, .int .i64 a.gen, .int .i64 a.lsn, .int .i64 a.seg, .int .i64 a.ext, .int .i64 a.flo, .int .i64 a.new, .int .i64 a.keep, .int .i64 a.next, .int .i64 a.cur]) (.int .i64 (k : Int))).run Tryd.prog w = .ok (.int .i64 x) w
  | 0, _ => ⟨_, rfl, fun w => by kernel_rfl⟩
  | 1, _ => ⟨_, rfl, fun w => by kernel_rfl⟩
  | 2, _ => ⟨_, rfl, fun w => by kernel_rfl⟩
  | 3, _ => ⟨_, rfl, fun w => by kernel_rfl⟩
  | 4, _ => ⟨_, rfl, fun w => by kernel_rfl⟩
  | 5, _ => ⟨_, rfl, fun w => by kernel_rfl⟩
  | 6, _ => ⟨_, rfl, fun w => by kernel_rfl⟩
  | 7, _ => ⟨_, rfl, fun w => by kernel_rfl⟩
  | 8, _ => ⟨_, rfl, fun w => by kernel_rfl⟩
  | 9, _ => ⟨_, rfl, fun w => by kernel_rfl⟩
  | k + 10, h => by omega
set_option maxHeartbeats 2000000 in
set_option maxRecDepth 100000 in
theorem encode_ok (E : Env) (q : HP) (a : Anch) (w : World) (hw : Sat E w q) :
    Calls Tryd.prog 37 #[.agg #[.int .i64 a.seq, .int .i64 a.gen, .int .i64 a.lsn, .int .i64 a.seg, .int .i64 a.ext, .int .i64 a.flo, .int .i64 a.new, .int .i64 a.keep, .int .i64 a.next, .int .i64 a.cur]] w (encEnd E q a) := by
  have H1 := Aside.mk (hw.alloc (.cells #[.int .i64 a.seq, .int .i64 a.gen, .int .i64 a.lsn, .int .i64 a.seg, .int .i64 a.ext, .int .i64 a.flo, .int .i64 a.new, .int .i64 a.keep, .int .i64 a.next, .int .i64 a.cur] 71))
  clear hw
  go_enter Tryd.func37, Tryd.ntmps37
  go_wp2_with fail
  refine (can_ok E _ a _ H1.out).mono ?_
  rintro e w1 ⟨rfl, h2⟩
  have H2 := Aside.mk h2
  clear h2 H1
  obtain ⟨cb, hcb⟩ : ∃ cb, cb = canA a := ⟨_, rfl⟩
  rw [← hcb]
  have HC := Aside.mk hcb
  clear hcb
  cases cb with
  | false =>
    go_wp2
    go_ret2
    exact encEnd_no HC.out.symm rfl H2.out.right
  | true =>
    have k0 := H2.out.cell 0
    have k1 := H2.out.cell 1
    have k2 := H2.out.cell 2
    have k3 := H2.out.cell 3
    have k4 := H2.out.cell 4
    have k5 := H2.out.cell 5
    have k6 := H2.out.cell 6
    have k7 := H2.out.cell 7
    have k8 := H2.out.cell 8
    have k9 := H2.out.cell 9
    simp only [List.getElem?_toArray, List.getElem?_cons_zero, List.getElem?_cons_succ] at k0 k1 k2 k3 k4 k5 k6 k7 k8 k9
    have H3 := Aside.mk ((H2.out.right.alloc (.cells #[.int .i64 a.seq, .int .i64 a.gen, .int .i64 a.lsn, .int .i64 a.seg, .int .i64 a.ext, .int .i64 a.flo, .int .i64 a.new, .int .i64 a.keep, .int .i64 a.next, .int .i64 a.cur] 125)).right.row_nil 5 1 none)
    have HIX := Aside.mk (index_anch a)
    go_wp2
    go_loopw [5, 33] (fun v5 v33 wr => ∃ k : Nat, k ≤ 10 ∧ v33 = .int .i64 k ∧ Aside (Sat E wr (HP.row 5 1 v5 (8 * k) (b8s (encI (a.l.take k))) * q))) (fun _ i _ => 10 - (intOf i).toNat)
    case atStart => exact ⟨0, by omega, rfl, H3⟩
    case round =>
      obtain ⟨k, hk, rfl, HS⟩ := hrel
      clear k0 k1 k2 k3 k4 k5 k6 k7 k8 k9 H3 H2
      by_cases hlt : k < 10
      · obtain ⟨x, hx, ix⟩ := HIX.out k hlt
        have HX := Aside.mk (encI_take hx)
        have hlt2 : (k : Int) < 10 := by omega
        have hwr := n64_wrap x
        have HN := Aside.mk (n64_lt x)
        obtain ⟨m, hm⟩ : ∃ m, m = n64 x := ⟨_, rfl⟩
        rw [← hm] at hwr HX HN
        clear hm hx
        go_wp2_with fail
        refine (crc_put E _ m 8 _ (by omega) HN.out HS.out).mono ?_
        rintro e w4 ⟨g, rfl, h4⟩
        have h5 := h4.s2
        obtain ⟨ol, hol⟩ : ∃ ol, ol = 8 * k := ⟨_, rfl⟩
        rw [← hol] at h5
        have ho : ol ≤ 80 := by omega
        have H5 := Aside.mk (And.intro h5 (And.intro h4.row_cells (show (b8s (putI m 8)).length = 8 * 1 by rw [b8s_length, putI_length])))
        have HO := Aside.mk hol
        clear h4 h5 hol
        go_wp2_with (at_builtin; refine wpList_append_row slB8 rfl rfl (by rfl) (by rfl) H5.out.1 H5.out.2.1 H5.out.2.2 (b8s_one _) (by unfold maxLen; omega) (by omega) (fun v5 w5 hw5 => ?_); obtain ⟨A5, c5, rfl, -, -⟩ := hw5.row_slice; have HW5 := Aside.mk hw5; clear hw5)
        have H6 : Aside (Sat E w5 (HP.row 5 1 (.slice A5 (ol + 8) c5) (8 * (k + 1)) (b8s (encI (a.l.take (k + 1)))) * q)) := ⟨by
          rw [HX.out, b8s_append, show 8 * (k + 1) = ol + 8 by have := HO.out; omega]
          exact HW5.out.drop2⟩
        clear HW5 H5
        go_wp2
        go_roundw
        case rel => exact ⟨k + 1, by omega, by push_cast; rfl, H6⟩
        case measure => simp [intOf]; omega
      · obtain rfl : k = 10 := by omega
        have H7 : Aside (Sat E wr (HP.row 5 1 u5 80 (b8s (encI a.l)) * q)) := ⟨HS.out⟩
        clear HS
        go_wp2
        go_ret2
        exact encEnd_yes HC.out.symm rfl H7.out
end Go.Proofs.YtnllmkpbnccllaaDoor
/- anchor.Decode. -/
namespace Go.Proofs.YtnllmkpbnccllaaDoor
open Go.RowKit HP
set_option linter.unusedSimpArgs false
set_option linter.unusedVariables false

theorem results_cellTmp {P : Program} {fn : Func} {t u : Tmp} {ty : TypeId} (h : fn.results = #[.cell t ty, .tmp u]) {tmps : Array Value} {w : World} {a : Addr} {V : Value} (ha : tmps.getD t undef = .pointer (some a)) (hr : (loadVar ty a).run P w = .ok V w) : (results fn tmps).run P w = .ok (.tuple #[V, tmps.getD u undef]) w := by
  have ha' : tmps[t]?.getD undef = .pointer (some a) := by simpa using ha
  unfold results
  rw [h]
  simp [ha', asAddr, hr]
theorem agAnch : AgTy Tryd.prog 71 10 := ⟨⟨_, Tryd.underlying71, rfl⟩, by kernel_rfl⟩
def decN (b : List Int) (k : Nat) : Int := wrap64 (getN ((b.drop (8 * k)).take 8) : Int)
def decA (b : List Int) : Anch := ⟨decN b 0, decN b 1, decN b 2, decN b 3, decN b 4, decN b 5, decN b 6, decN b 7, decN b 8, decN b 9⟩
set_option maxHeartbeats 1000000 in
set_option maxRecDepth 100000 in
theorem of_ok (k : Nat) (hk : k < 10) (bl : Nat) (g o : Nat) (b : List Int) (n c : Nat) (w : World) (hn : n = 80) (hln : b.length = n) (hnc : n ≤ c) (hcm : c ≤ maxLen) (hb : Bytes b) (hs : w.cell? ⟨bl, 0, none⟩ = some (.slice (some ⟨g, o, none⟩) n c)) (hc : Cells w (some ⟨g, o, none⟩) (b8s b)) :
    Calls Tryd.prog 78 #[.int .i64 k, .pointer (some ⟨bl, 0, none⟩)] w fun e w' => e = .returned (.int .i64 (decN b k)) ∧ w' = w := by
  obtain ⟨j, hj⟩ : ∃ j, j = 8 * k := ⟨_, rfl⟩
  have h8 : (8 : Int) * (k : Int) = (j : Int) := by omega
  have hjn : j + 8 ≤ 80 := by omega
  have c2 : Cells w (some ⟨g, o + j, none⟩) (b8s ((b.drop j).take 8)) := by
    have := (hc.drop j).take 8
    rw [addr_add] at this
    unfold b8s at this ⊢
    rw [List.map_take, List.map_drop]
    exact this
  have l2 : ((b.drop j).take 8).length = 8 := by rw [List.length_take, List.length_drop]; omega
  have b2 : Bytes ((b.drop j).take 8) := fun y hy => hb y (List.mem_of_mem_drop (List.mem_of_mem_take hy))
  have HD : Aside (decN b k = wrap64 (getN ((b.drop j).take 8) : Int)) := ⟨by unfold decN; rw [hj]⟩
  have H2 := Aside.mk (And.intro c2 (And.intro l2 b2))
  subst hn
  clear c2 l2 b2 hc hb hln hj
  go_enter Tryd.func78, Tryd.ntmps78
  go_wp2_with fail
  refine (crc_get (some ⟨g, o + j, none⟩) ((b.drop j).take 8) 8 _ w H2.out.2.1 (by omega) (by omega) H2.out.2.2 H2.out.1).mono ?_
  rintro e w1 ⟨rfl, hw1⟩
  subst w1
  go_wp2
  go_ret
  rw [HD.out]
  exact ⟨rfl, rfl⟩
def Anch.val (a : Anch) : Value := .agg (i8s a.l).toArray
def zeroA : Anch := ⟨0, 0, 0, 0, 0, 0, 0, 0, 0, 0⟩
def decP (b : List Int) : Anch × Int := if b.length = 80 ∧ canA (decA b) = true then (decA b, 0) else (zeroA, 5)
theorem decP_long {b : List Int} (h : ¬ b.length = 80) : decP b = (zeroA, 5) := by
  unfold decP
  rw [if_neg (fun h2 => h h2.1)]
set_option maxHeartbeats 2000000 in
set_option maxRecDepth 100000 in
theorem decode_ok (E : Env) (q : HP) (A : Option Addr) (b : List Int) (n c : Nat) (w : World) (hln : b.length = n) (hnc : n ≤ c) (hcm : c ≤ maxLen) (hb : Bytes b) (hq : ∀ w, Sat E w q → Cells w A (b8s b)) (hw : Sat E w q) :
    Calls Tryd.prog 40 #[.slice A n c] w fun e w' => e = .returned (.tuple #[(decP b).1.val, .int .i64 (decP b).2]) ∧ Sat E w' q := by
  have h1 := (hw.alloc (.cells #[.slice A n c] 22)).alloc (.cells #[.int .i64 0, .int .i64 0, .int .i64 0, .int .i64 0, .int .i64 0, .int .i64 0, .int .i64 0, .int .i64 0, .int .i64 0, .int .i64 0] 71)
  have hz : (w.alloc (.cells #[.slice A n c] 22)).heap.size = w.heap.size + 1 := by simp
  rw [hz] at h1
  by_cases h80 : n = 80
  · subst h80
    have HC : Aside (decP b = if canA (decA b) = true then (decA b, 0) else (zeroA, 5)) := ⟨by
      unfold decP
      by_cases hc : canA (decA b) = true
      · rw [if_pos ⟨hln, hc⟩, if_pos hc]
      · rw [if_neg (fun h => hc h.2), if_neg hc]⟩
    have hcw := hq _ h1.right.right
    obtain ⟨a0, rfl, -⟩ := hcw.at_ 0 (by rw [b8s_length, hln]; decide)
    obtain ⟨g, o, rfl⟩ := slice_addr hcw rfl (k := 0) (by rw [b8s_length, hln]; decide)
    have HQ := Aside.mk (And.intro hln (And.intro hb (And.intro h1.right.cell1 hcw)))
    have h2 := h1.alloc (.cells #[.int .i64 (decN b 0), .int .i64 (decN b 1), .int .i64 (decN b 2), .int .i64 (decN b 3), .int .i64 (decN b 4), .int .i64 (decN b 5), .int .i64 (decN b 6), .int .i64 (decN b 7), .int .i64 (decN b 8), .int .i64 (decN b 9)] 71)
    have hz2 : ((w.alloc (.cells #[.slice (some ⟨g, o, none⟩) 80 c] 22)).alloc (.cells #[.int .i64 0, .int .i64 0, .int .i64 0, .int .i64 0, .int .i64 0, .int .i64 0, .int .i64 0, .int .i64 0, .int .i64 0, .int .i64 0] 71)).heap.size = w.heap.size + 1 + 1 := by simp
    rw [hz2] at h2
    have H2 := Aside.mk h2
    clear hw h1 hz hq hb hln hcw h2 hz2
    go_enter Tryd.func40, Tryd.ntmps40
    go_wp2_with fail
    refine (of_ok 0 (by omega) w.heap.size g o b 80 c _ rfl HQ.out.1 hnc hcm HQ.out.2.1 HQ.out.2.2.1 HQ.out.2.2.2).mono ?_
    rintro e w1 ⟨rfl, hw1⟩
    subst w1
    go_wp2_with fail
    refine (of_ok 1 (by omega) w.heap.size g o b 80 c _ rfl HQ.out.1 hnc hcm HQ.out.2.1 HQ.out.2.2.1 HQ.out.2.2.2).mono ?_
    rintro e w1 ⟨rfl, hw1⟩
    subst w1
    go_wp2_with fail
    refine (of_ok 2 (by omega) w.heap.size g o b 80 c _ rfl HQ.out.1 hnc hcm HQ.out.2.1 HQ.out.2.2.1 HQ.out.2.2.2).mono ?_
    rintro e w1 ⟨rfl, hw1⟩
    subst w1
    go_wp2_with fail
    refine (of_ok 3 (by omega) w.heap.size g o b 80 c _ rfl HQ.out.1 hnc hcm HQ.out.2.1 HQ.out.2.2.1 HQ.out.2.2.2).mono ?_
    rintro e w1 ⟨rfl, hw1⟩
    subst w1
    go_wp2_with fail
    refine (of_ok 4 (by omega) w.heap.size g o b 80 c _ rfl HQ.out.1 hnc hcm HQ.out.2.1 HQ.out.2.2.1 HQ.out.2.2.2).mono ?_
    rintro e w1 ⟨rfl, hw1⟩
    subst w1
    go_wp2_with fail
    refine (of_ok 5 (by omega) w.heap.size g o b 80 c _ rfl HQ.out.1 hnc hcm HQ.out.2.1 HQ.out.2.2.1 HQ.out.2.2.2).mono ?_
    rintro e w1 ⟨rfl, hw1⟩
    subst w1
    go_wp2_with fail
    refine (of_ok 6 (by omega) w.heap.size g o b 80 c _ rfl HQ.out.1 hnc hcm HQ.out.2.1 HQ.out.2.2.1 HQ.out.2.2.2).mono ?_
    rintro e w1 ⟨rfl, hw1⟩
    subst w1
    go_wp2_with fail
    refine (of_ok 7 (by omega) w.heap.size g o b 80 c _ rfl HQ.out.1 hnc hcm HQ.out.2.1 HQ.out.2.2.1 HQ.out.2.2.2).mono ?_
    rintro e w1 ⟨rfl, hw1⟩
    subst w1
    go_wp2_with fail
    refine (of_ok 8 (by omega) w.heap.size g o b 80 c _ rfl HQ.out.1 hnc hcm HQ.out.2.1 HQ.out.2.2.1 HQ.out.2.2.2).mono ?_
    rintro e w1 ⟨rfl, hw1⟩
    subst w1
    go_wp2_with fail
    refine (of_ok 9 (by omega) w.heap.size g o b 80 c _ rfl HQ.out.1 hnc hcm HQ.out.2.1 HQ.out.2.2.1 HQ.out.2.2.2).mono ?_
    rintro e w1 ⟨rfl, hw1⟩
    subst w1
    go_wp2_with fail
    refine (can_ok E _ (decA b) _ H2.out).mono ?_
    rintro e w2 ⟨rfl, h3⟩
    have H3 := Aside.mk h3
    clear h3 H2 HQ
    obtain ⟨cb, hcb⟩ : ∃ cb, cb = canA (decA b) := ⟨_, rfl⟩
    rw [← hcb] at HC ⊢
    clear hcb
    cases cb with
    | false =>
      rw [if_neg (by decide)] at HC
      have r2 : (storeVar 71 ⟨w.heap.size + 1, 0, none⟩ (.agg (i8s zeroA.l).toArray)).run Tryd.prog w2 = .ok () (w2.setRow (w.heap.size + 1) (i8s zeroA.l).toArray) := run_storeAgg agAnch (g := w.heap.size + 1) (off := 0) (cs := i8s zeroA.l) H3.out.s2.get rfl (by decide) rfl
      have h4 := H3.out.s2.splice (i8s zeroA.l)
      have H4 := Aside.mk h4
      clear h4
      generalize World.setRow w2 _ _ = w4 at *
      go_wp2_with (refine wpList_store_run rfl rfl rfl rfl rfl r2 ?_)
      go_wp2
      refine bodyPost_ret (results_cellTmp rfl rfl (run_loadAgg agAnch (cs := i8s zeroA.l) rfl (Sat.ptCells (off := 0) H4.out rfl))) rfl ?_
      rw [HC.out]
      exact ⟨rfl, H4.out.right.right.right⟩
    | true =>
      rw [if_pos rfl] at HC
      have r1 : (loadVar 71 ⟨w.heap.size + 1 + 1, 0, none⟩).run Tryd.prog w2 = .ok (.agg (i8s (decA b).l).toArray) w2 := run_loadAgg agAnch (cs := i8s (decA b).l) rfl (Sat.ptCells (off := 0) H3.out rfl)
      have r2 : (storeVar 71 ⟨w.heap.size + 1, 0, none⟩ (.agg (i8s (decA b).l).toArray)).run Tryd.prog w2 = .ok () (w2.setRow (w.heap.size + 1) (i8s (decA b).l).toArray) := run_storeAgg agAnch (g := w.heap.size + 1) (off := 0) (cs := i8s (decA b).l) H3.out.s2.get rfl (by show 0 + 10 ≤ 10; omega) rfl
      have h4 := H3.out.s2.splice (i8s (decA b).l)
      have H4 := Aside.mk h4
      clear h4
      generalize World.setRow w2 _ _ = w4 at *
      go_wp2_with (first | (refine wpList_load_run rfl rfl rfl r1 ?_) | (refine wpList_store_run rfl rfl rfl rfl rfl r2 ?_))
      go_wp2
      refine bodyPost_ret (results_cellTmp rfl rfl (run_loadAgg agAnch (cs := i8s (decA b).l) rfl (Sat.ptCells (off := 0) H4.out rfl))) rfl ?_
      rw [HC.out]
      exact ⟨rfl, H4.out.right.right.right⟩
  · have HP := Aside.mk (decP_long (b := b) (by omega))
    have H1 := Aside.mk h1
    have h80b : ((n : Int) == 80) = false := by rw [beq_eq_false_iff_ne]; omega
    have h80c : ¬ (n : Int) = 80 := by omega
    clear hw h1 hz hq hb hln
    go_enter Tryd.func40, Tryd.ntmps40
    go_wp2
    refine bodyPost_ret (results_cellTmp rfl rfl (run_loadAgg agAnch (cs := i8s zeroA.l) rfl (Sat.ptCells (off := 0) H1.out rfl))) rfl ?_
    rw [HP.out]
    exact ⟨rfl, H1.out.right.right⟩
end Go.Proofs.YtnllmkpbnccllaaDoor
/- pair.write. -/
namespace Go.Proofs.YtnllmkpbnccllaaDoor
open Go.RowKit HP
set_option linter.unusedSimpArgs false
set_option linter.unusedVariables false

/-- Payloads written to a file, one behind the other, and synced. -/
def wrF (A : Dk) (f : ByteArray) (gen : Nat) : Nat → List (List Int) → Int × Dk
  | _, [] => A.sync f
  | i, p :: r =>
    if ¬ FrameOk i gen p.length then (1, A)
    else if (A.write f i (extI f i gen p)).1 = 0 then wrF (A.write f i (extI f i gen p)).2 f gen (i + 1) r
    else A.write f i (extI f i gen p)
def wrL (A : Dk) (i gen : Nat) (ps : List (List Int)) : List ByteArray → Int × Dk
  | [] => (0, A)
  | f :: r => if (wrF A f gen i ps).1 = 0 then wrL (wrF A f gen i ps).2 i gen ps r else wrF A f gen i ps
def halvesL (name : ByteArray) : List ByteArray := [name ++ dotA, name ++ dotB]
def wrP (A : Dk) (name : ByteArray) (i gen : Nat) (ps : List (List Int)) : Int × Dk := wrL A i gen ps (halvesL name)
def Sl.val8 (s : Sl Int) : Value := .slice s.A s.l.length s.cap
structure PayOk (s : Sl Int) : Prop where
  len : s.l.length ≤ s.cap
  bytes : Bytes s.l
theorem dotA_size (name : ByteArray) : (name ++ dotA).size = name.size + 2 := by rw [ByteArray.size_append]; rfl
theorem dotB_size (name : ByteArray) : (name ++ dotB).size = name.size + 2 := by rw [ByteArray.size_append]; rfl
set_option maxHeartbeats 2000000 in
set_option maxRecDepth 100000 in
theorem pair_write (E : Env) (q : HP) (d : Nat) (A : Dk) (name : ByteArray) (at_ gen : Nat) (Ap : Option Addr) (ss : List (Sl Int)) (n c : Nat) (w : World) (hname : name.size + 2 ≤ maxLen) (hat : (at_ : Int) ≤ 2147483647) (hgen : (gen : Int) ≤ 4611686018427387904)
    (hn : ss.length = n) (hnm : n ≤ maxLen) (hss : ∀ s ∈ ss, PayOk s) (hq : ∀ w, Sat E w q → Quarter w ∧ Cells w Ap (ss.map Sl.val8) ∧ ∀ s ∈ ss, Cells w s.A (b8s s.l)) (hw : Sat E w (HP.disk d A * q)) :
    Calls Tryd.prog 56 #[.pointer (some ⟨d, 0, none⟩), .string name, .int .i64 at_, .int .i64 gen, .slice Ap n c] w fun e w' => e = .returned (.int .i64 (wrP A name at_ gen (ss.map (·.l))).1) ∧ Sat E w' (HP.disk d (wrP A name at_ gen (ss.map (·.l))).2 * q) := by
  obtain ⟨ps, hps⟩ : ∃ ps, ps = ss.map (·.l) := ⟨_, rfl⟩
  rw [← hps]
  have hfa : (name ++ dotA).size ≤ maxLen := by rw [dotA_size]; exact hname
  have hfb : (name ++ dotB).size ≤ maxLen := by rw [dotB_size]; exact hname
  have HF : Aside (halvesL name = [name ++ dotA, name ++ dotB]) := ⟨rfl⟩
  have HR : Aside (wrP A name at_ gen ps = wrL A at_ gen ps (halvesL name)) := ⟨rfl⟩
  have HQ := Aside.mk (And.intro hq (And.intro hss (And.intro hn (And.intro hps hw))))
  clear hq hss hn hps hw
  have hnm' : (n : Int) ≤ 9223372036854775807 := by unfold maxLen at hnm; omega
  go_enter Tryd.func56, Tryd.ntmps56
  go_wp2_with fail
  refine (pair_halves E _ name _ hname HQ.out.2.2.2.2).mono ?_
  rintro e w1 ⟨rfl, h1⟩
  obtain ⟨fa, hfae⟩ : ∃ fa, fa = name ++ dotA := ⟨_, rfl⟩
  obtain ⟨fb, hfbe⟩ : ∃ fb, fb = name ++ dotB := ⟨_, rfl⟩
  rw [← hfae] at hfa HF ⊢
  rw [← hfbe] at hfb HF ⊢
  clear hfae hfbe
  have H1 := Aside.mk h1
  clear h1
  have i0 : ∀ w, (Instr.index 82 (.agg #[.string fa, .string fb]) (.int .i64 0)).run Tryd.prog w = .ok (.string fa) w := fun w => by kernel_rfl
  have i1 : ∀ w, (Instr.index 82 (.agg #[.string fa, .string fb]) (.int .i64 1)).run Tryd.prog w = .ok (.string fb) w := fun w => by kernel_rfl
  go_wp2
  go_loopw [20] (fun v20 wr => ∃ (h : Nat) (A' : Dk), h ≤ 2 ∧ v20 = .int .i64 h ∧ Aside (wrL A' at_ gen ps ((halvesL name).drop h) = wrP A name at_ gen ps) ∧ Aside (Sat E wr (HP.disk d A' * q))) (fun i _ => 2 - (intOf i).toNat)
  case atStart => exact ⟨0, A, by omega, rfl, ⟨by rw [HR.out]; rfl⟩, H1⟩
  case round =>
    obtain ⟨h, A', hh, rfl, HA, HS⟩ := hrel
    by_cases hlt : h < 2
    · obtain ⟨f, hf, hff, hix⟩ : ∃ f : ByteArray, f.size ≤ maxLen ∧ (halvesL name).drop h = f :: (halvesL name).drop (h + 1) ∧ ∀ w, (Instr.index 82 (.agg #[.string fa, .string fb]) (.int .i64 (h : Int))).run Tryd.prog w = .ok (.string f) w := by
        rw [HF.out]
        rcases Nat.lt_or_ge h 1 with h0 | h0
        · obtain rfl : h = 0 := by omega
          exact ⟨fa, hfa, rfl, i0⟩
        · obtain rfl : h = 1 := by omega
          exact ⟨fb, hfb, rfl, i1⟩
      rw [hff] at HA
      clear hff
      have hlt2 : (h : Int) < 2 := by omega
      have HW : Aside (wrL A' at_ gen ps (f :: (halvesL name).drop (h + 1)) = if (wrF A' f gen at_ ps).1 = 0 then wrL (wrF A' f gen at_ ps).2 at_ gen ps ((halvesL name).drop (h + 1)) else wrF A' f gen at_ ps) := ⟨rfl⟩
      go_wp2
      go_loopw [25] (fun v25 w2 => ∃ (k : Nat) (B : Dk), k ≤ n ∧ (at_ : Int) + k ≤ 2147483648 ∧ v25 = .int .i64 k ∧ Aside (wrF B f gen (at_ + k) (ps.drop k) = wrF A' f gen at_ ps) ∧ Aside (Sat E w2 (HP.disk d B * q))) (fun i _ => n - (intOf i).toNat)
      case atStart => exact ⟨0, A', by omega, by omega, rfl, ⟨by rw [Nat.add_zero]; rfl⟩, HS⟩
      case round =>
        obtain ⟨k, B, hk, hak, rfl, HB, HT⟩ := hrel
        by_cases hkn : k < n
        · have hks : k < ss.length := by rw [HQ.out.2.2.1]; exact hkn
          obtain ⟨ap, rfl, hcx⟩ := (HQ.out.1 _ HT.out.right).2.1.at_ k (by rw [List.length_map]; exact hks)
          rw [List.getElem_map] at hcx
          obtain ⟨s, hs⟩ : ∃ s, s = ss[k] := ⟨_, rfl⟩
          have hsm : s ∈ ss := by rw [hs]; exact List.getElem_mem hks
          have hpk : ps.drop k = s.l :: ps.drop (k + 1) := by
            rw [HQ.out.2.2.2.1, List.drop_eq_getElem_cons (by rw [List.length_map]; exact hks), List.getElem_map, ← hs]
          rw [← hs] at hcx
          rw [hpk] at HB
          clear hs hpk hks
          have hso := HQ.out.2.1 s hsm
          have hkn2 : (k : Int) < n := by omega
          unfold Sl.val8 at hcx
          have HN : Aside (wrF B f gen (at_ + k) (s.l :: ps.drop (k + 1)) = if ¬ FrameOk ((at_ + k : Nat) : Int) gen s.l.length then (1, B)
            else if (B.write f ((at_ + k : Nat) : Int) (extI f (at_ + k) gen s.l)).1 = 0 then wrF (B.write f ((at_ + k : Nat) : Int) (extI f (at_ + k) gen s.l)).2 f gen (at_ + k + 1) (ps.drop (k + 1))
            else B.write f ((at_ + k : Nat) : Int) (extI f (at_ + k) gen s.l)) := ⟨rfl⟩
          rw [HB.out] at HN
          obtain ⟨j, hj⟩ : ∃ j : Nat, (at_ : Int) + k = j := ⟨at_ + k, by omega⟩
          have hj2 : at_ + k = j := by omega
          rw [hj2] at HN
          by_cases hfo : FrameOk (j : Int) gen s.l.length
          · rw [if_neg (by simpa using hfo)] at HN
            obtain ⟨_, hf2, _, _, hf5⟩ := hfo
            go_wp2_with fail
            refine (ext_frame E (HP.disk d B * q) f j gen s.A s.l s.l.length s.cap _ hf hf2 hgen rfl hf5 hso.bytes (fun w h => ⟨(HQ.out.1 _ h.right).1, (HQ.out.1 _ h.right).2.2 s hsm⟩) HT.out).mono ?_
            rintro e w3 ⟨gI, rfl, h3⟩
            have hIl : (extI f j gen s.l).length = 128 := extI_length hf5
            obtain ⟨I, hIe⟩ : ∃ I, I = extI f j gen s.l := ⟨_, rfl⟩
            rw [← hIe] at hIl h3 HN
            clear hIe
            have H3 := Aside.mk (And.intro h3 hIl)
            clear h3 hIl hcx hsm hso
            go_wp2_with fail
            refine (disk_write E (HP.pt gI (.cells (b8s I).toArray 138) * q) d B f j (some ⟨gI, 0, none⟩) I 128 128 _ hf H3.out.2 (by unfold maxLen; omega) (fun w h => Sat.ptCells (off := 0) h (by rw [List.drop_zero, List.take_length])) H3.out.1.s2).mono ?_
            rintro e w4 ⟨rfl, h4⟩
            have H4 := Aside.mk h4.drop2
            clear h4 H3
            by_cases h0 : (B.write f (j : Int) I).1 = 0
            · rw [h0]
              rw [if_pos h0] at HN
              generalize (B.write f (j : Int) I).2 = B2 at *
              have HX : Aside (wrF B2 f gen (at_ + (k + 1)) (ps.drop (k + 1)) = wrF A' f gen at_ ps) := ⟨by rw [HN.out, show at_ + (k + 1) = j + 1 by omega]⟩
              clear HN h0 HB
              go_wp2
              go_roundw
              case rel => exact ⟨k + 1, B2, by omega, by push_cast; omega, by push_cast; rfl, HX, H4⟩
              case measure => simp [intOf]; omega
            · rw [if_neg h0] at HN
              have HX : Aside (wrP A name at_ gen ps = B.write f (j : Int) I) := ⟨by rw [← HA.out, HW.out, HN.out, if_neg h0]⟩
              obtain ⟨ec, hec⟩ : ∃ ec, ec = (B.write f (j : Int) I).1 := ⟨_, rfl⟩
              rw [← hec] at h0 ⊢
              have HE := Aside.mk hec
              clear HN hec HB HA HW
              go_wp2
              go_ret
              rw [HX.out, HE.out]
              exact ⟨rfl, H4.out⟩
          · rw [if_pos hfo] at HN
            have HX : Aside (wrP A name at_ gen ps = (1, B)) := ⟨by rw [← HA.out, HW.out, HN.out]; rfl⟩
            have HFo := Aside.mk hfo
            clear HN HB HA HW hfo
            go_wp2_with fail
            refine (ext_frame_bad f j gen s.A s.l.length s.cap _ HFo.out).mono ?_
            rintro e w3 ⟨rfl, rfl⟩
            clear hcx
            go_wp2
            go_ret
            rw [HX.out]
            exact ⟨rfl, HT.out⟩
        · have hkn' : k = n := by omega
          subst hkn'
          have hpl : ps.drop k = [] := by rw [HQ.out.2.2.2.1]; exact List.drop_eq_nil_of_le (by rw [List.length_map, HQ.out.2.2.1]; exact Nat.le_refl _)
          rw [hpl] at HB
          clear hpl
          have HB2 : Aside (wrF A' f gen at_ ps = B.sync f) := ⟨by rw [← HB.out]; rfl⟩
          clear HB hix i0 i1
          rw [HB2.out] at HW
          go_wp2_with fail
          refine (disk_sync E q d B f _ hf HT.out).mono ?_
          rintro e w4 ⟨rfl, h4⟩
          have H4 := Aside.mk h4
          clear h4
          by_cases h0 : (B.sync f).1 = 0
          · rw [h0]
            rw [if_pos h0] at HW
            have HX : Aside (wrL (B.sync f).2 at_ gen ps ((halvesL name).drop (h + 1)) = wrP A name at_ gen ps) := ⟨by rw [← HW.out, HA.out]⟩
            generalize (B.sync f).2 = B2 at *
            clear HW HA HB2 h0
            go_wp2
            go_roundw
            case rel => exact ⟨h + 1, B2, by omega, by push_cast; rfl, HX, H4⟩
            case measure => simp [intOf]; omega
          · rw [if_neg h0] at HW
            have HX : Aside (wrP A name at_ gen ps = B.sync f) := ⟨by rw [← HA.out, HW.out]⟩
            obtain ⟨ec, hec⟩ : ∃ ec, ec = (B.sync f).1 := ⟨_, rfl⟩
            rw [← hec] at h0 ⊢
            have HE := Aside.mk hec
            clear hec HB2 HA HW
            go_wp2
            go_ret
            rw [HX.out, HE.out]
            exact ⟨rfl, H4.out⟩
    · have hh2 : h = 2 := by omega
      subst hh2
      rw [HF.out] at HA
      have HX : Aside (wrP A name at_ gen ps = (0, A')) := ⟨by rw [← HA.out]; rfl⟩
      clear HA i0 i1
      go_wp2
      go_ret
      rw [HX.out]
      exact ⟨rfl, HS.out⟩
end Go.Proofs.YtnllmkpbnccllaaDoor
/- pair.Put. -/
namespace Go.Proofs.YtnllmkpbnccllaaDoor
open Go.RowKit HP
set_option linter.unusedSimpArgs false
set_option linter.unusedVariables false

def putP (A : Dk) (name : ByteArray) (i gen : Int) (p : List Int) : Int × Dk := if FrameOk i gen p.length then wrP A name i.toNat gen.toNat [p] else (1, A)
set_option maxHeartbeats 2000000 in
set_option maxRecDepth 100000 in
theorem pair_put (E : Env) (q : HP) (d : Nat) (A : Dk) (name : ByteArray) (i gen : Int) (Ap : Option Addr) (p : List Int) (n c : Nat) (w : World) (hname : name.size + 2 ≤ maxLen) (hpn : p.length = n) (hnc : n ≤ c) (hp : Bytes p)
    (hq : ∀ w, Sat E w q → Quarter w ∧ Cells w Ap (b8s p)) (hw : Sat E w (HP.disk d A * q)) :
    Calls Tryd.prog 15 #[.pointer (some ⟨d, 0, none⟩), .string name, .int .i64 i, .int .i64 gen, .slice Ap n c] w fun e w' => e = .returned (.int .i64 (putP A name i gen p).1) ∧ Sat E w' (HP.disk d (putP A name i gen p).2 * q) := by
  have HP' : Aside (putP A name i gen p = if FrameOk i gen n then wrP A name i.toNat gen.toNat [p] else (1, A)) := ⟨by rw [← hpn]; rfl⟩
  have hn2 : name.size ≤ maxLen := by omega
  have HQ := Aside.mk (And.intro hq (And.intro hp (And.intro hpn hw)))
  clear hq hp hpn hw
  by_cases hfo : FrameOk i gen n
  · rw [if_pos hfo] at HP'
    obtain ⟨h1, h2, h3, h4, h5⟩ := hfo
    obtain ⟨i, rfl⟩ := Int.eq_ofNat_of_zero_le h1
    obtain ⟨gen, rfl⟩ := Int.eq_ofNat_of_zero_le h3
    rw [Int.toNat_natCast, Int.toNat_natCast] at HP'
    go_enter Tryd.func15, Tryd.ntmps15
    go_wp2_with fail
    refine (pair_none E q d A _ HQ.out.2.2.2).mono ?_
    rintro e w1 ⟨rfl, k1⟩
    have K1 := Aside.mk k1
    clear k1
    go_wp2_with fail
    refine (ext_frame E (HP.disk d A * q) name i gen Ap p n c _ hn2 h2 h4 HQ.out.2.2.1 h5 HQ.out.2.1 (fun w h => HQ.out.1 _ h.right) K1.out).mono ?_
    rintro e w2 ⟨gI, rfl, k2⟩
    have k3 := (k2.right).alloc (.cells [Value.slice Ap n c].toArray 22)
    have K3 := Aside.mk k3
    clear k2 k3 K1
    go_wp2_with fail
    refine (pair_write E (HP.pt w2.heap.size (.cells [Value.slice Ap n c].toArray 22) * q) d A name i gen (some ⟨w2.heap.size, 0, none⟩) [⟨Ap, c, p⟩] 1 1 _ hname h2 h4 rfl (by unfold maxLen; omega) (fun s hs => by
      have : s = ⟨Ap, c, p⟩ := by simpa using hs
      subst this
      exact ⟨by show p.length ≤ c; rw [HQ.out.2.2.1]; exact hnc, HQ.out.2.1⟩) (fun w h => ⟨(HQ.out.1 _ h.right).1, by
        have := Sat.ptCells (off := 0) (l := [Value.slice Ap n c]) h rfl
        rw [show List.map Sl.val8 [⟨Ap, c, p⟩] = [Value.slice Ap n c] by rw [← HQ.out.2.2.1]; rfl]
        exact this, fun s hs => by
        have : s = ⟨Ap, c, p⟩ := by simpa using hs
        subst this
        exact (HQ.out.1 _ h.right).2⟩) K3.out.s2).mono ?_
    rintro e w3 ⟨rfl, k4⟩
    have K4 := Aside.mk k4.drop2
    clear k4 K3
    have HX : Aside (wrP A name i gen (List.map (·.l) [(⟨Ap, c, p⟩ : Sl Int)]) = putP A name i gen p) := ⟨by rw [HP'.out]; rfl⟩
    rw [HX.out] at K4 ⊢
    go_wp2
    go_ret
    exact ⟨rfl, K4.out⟩
  · rw [if_neg hfo] at HP'
    have HFo := Aside.mk hfo
    clear hfo
    go_enter Tryd.func15, Tryd.ntmps15
    go_wp2_with fail
    refine (pair_none E q d A _ HQ.out.2.2.2).mono ?_
    rintro e w1 ⟨rfl, k1⟩
    have K1 := Aside.mk k1
    clear k1
    go_wp2_with fail
    refine (ext_frame_bad name i gen Ap n c _ HFo.out).mono ?_
    rintro e w2 ⟨rfl, rfl⟩
    go_wp2
    go_ret
    rw [HP'.out]
    exact ⟨rfl, K1.out⟩
end Go.Proofs.YtnllmkpbnccllaaDoor
/- pair.Get. -/
namespace Go.Proofs.YtnllmkpbnccllaaDoor
open Go.RowKit HP
set_option linter.unusedSimpArgs false
set_option linter.unusedVariables false

/-- A half read: what is best so far. -/
def getF (A : Dk) (i : Int) (st : Int × List Int) (f : ByteArray) : Int × List Int :=
  match A.cel f i with
  | none => st
  | some c => match openI c.read f i with
    | none => st
    | some x => if (x.2 : Int) ≤ st.1 then st else ((x.2 : Int), x.1)
def getP (A : Dk) (name : ByteArray) (i : Int) : Int × List Int := (halvesL name).foldl (getF A i) (-1, [])
theorem openI_gen {b : List Int} {f : ByteArray} {i : Int} {p : List Int} {g : Nat} (h : openI b f i = some (p, g)) : (g : Int) ≤ 4611686018427387904 ∧ p.length ≤ 106 := by
  unfold openI at h
  split at h
  · cases h
  · split at h
    · cases h
    · split at h
      · cases h
      · rename_i h1 h2 h3
        simp only [Option.some.injEq, Prod.mk.injEq] at h
        obtain ⟨rfl, rfl⟩ := h
        refine ⟨by omega, ?_⟩
        rw [List.length_take]
        omega
def getEnd (st : Int × List Int) (v : Value) : Ending := if st.1 < 0 then .returned (.tuple #[.slice none 0 0, .int .i64 0, .int .i64 50]) else .returned (.tuple #[v, .int .i64 st.1, .int .i64 0])
set_option maxHeartbeats 2000000 in
set_option maxRecDepth 100000 in
theorem pair_get (E : Env) (q : HP) (d : Nat) (A : Dk) (name : ByteArray) (i : Int) (w : World) (hname : name.size + 2 ≤ maxLen) (hby : ∀ f ∈ halvesL name, ∀ c, A.cel f i = some c → Bytes c.read)
    (hq : ∀ w, Sat E w q → Quarter w) (hw : Sat E w (HP.disk d A * q)) :
    Calls Tryd.prog 12 #[.pointer (some ⟨d, 0, none⟩), .string name, .int .i64 i] w fun e w' => ∃ v, e = getEnd (getP A name i) v ∧ Sat E w' (HP.row 5 1 v (getP A name i).2.length (b8s (getP A name i).2) * (HP.disk d A * q)) := by
  have hfa : (name ++ dotA).size ≤ maxLen := by rw [dotA_size]; exact hname
  have hfb : (name ++ dotB).size ≤ maxLen := by rw [dotB_size]; exact hname
  have HF : Aside (halvesL name = [name ++ dotA, name ++ dotB]) := ⟨rfl⟩
  have HQ := Aside.mk (And.intro hq (And.intro hby hw))
  clear hq hw hby
  go_enter Tryd.func12, Tryd.ntmps12
  go_wp2_with fail
  refine (pair_none E q d A _ HQ.out.2.2).mono ?_
  rintro e w1 ⟨rfl, k1⟩
  have K1 := Aside.mk k1
  clear k1
  go_wp2_with fail
  refine (pair_halves E _ name _ hname K1.out).mono ?_
  rintro e w2 ⟨rfl, k2⟩
  obtain ⟨fa, hfae⟩ : ∃ fa, fa = name ++ dotA := ⟨_, rfl⟩
  obtain ⟨fb, hfbe⟩ : ∃ fb, fb = name ++ dotB := ⟨_, rfl⟩
  rw [← hfae] at hfa HF ⊢
  rw [← hfbe] at hfb HF ⊢
  clear hfae hfbe
  have K2 := Aside.mk (k2.row_nil 5 1 none)
  clear k2 K1
  have i0 : ∀ w, (Instr.index 82 (.agg #[.string fa, .string fb]) (.int .i64 0)).run Tryd.prog w = .ok (.string fa) w := fun w => by kernel_rfl
  have i1 : ∀ w, (Instr.index 82 (.agg #[.string fa, .string fb]) (.int .i64 1)).run Tryd.prog w = .ok (.string fb) w := fun w => by kernel_rfl
  go_wp2
  go_loopw [9, 10, 21] (fun v9 v10 v21 wr => ∃ (h : Nat) (best : Int) (p : List Int), h ≤ 2 ∧ v21 = .int .i64 h ∧ v9 = .int .i64 best ∧ best ≤ 4611686018427387904 ∧ -1 ≤ best ∧ p.length ≤ 106 ∧ Aside ((((halvesL name).drop h).foldl (getF A i) (best, p)) = getP A name i) ∧ Aside (Sat E wr (HP.row 5 1 v10 p.length (b8s p) * (HP.disk d A * q)))) (fun _ _ i _ => 2 - (intOf i).toNat)
  case atStart => exact ⟨0, -1, [], by omega, rfl, rfl, by omega, by omega, by simp, ⟨rfl⟩, K2⟩
  case round =>
    obtain ⟨h, best, p, hh, rfl, rfl, hb1, hb2, hpl, HG, HS⟩ := hrel
    by_cases hlt : h < 2
    · obtain ⟨f, hf, hfm, hff, hix⟩ : ∃ f : ByteArray, f.size ≤ maxLen ∧ f ∈ halvesL name ∧ (halvesL name).drop h = f :: (halvesL name).drop (h + 1) ∧ ∀ w, (Instr.index 82 (.agg #[.string fa, .string fb]) (.int .i64 (h : Int))).run Tryd.prog w = .ok (.string f) w := by
        rw [HF.out]
        rcases Nat.lt_or_ge h 1 with h0 | h0
        · obtain rfl : h = 0 := by omega
          exact ⟨fa, hfa, by simp, rfl, i0⟩
        · obtain rfl : h = 1 := by omega
          exact ⟨fb, hfb, by simp, rfl, i1⟩
      rw [hff, List.foldl_cons] at HG
      clear hff
      have hlt2 : (h : Int) < 2 := by omega
      have hby := HQ.out.2.1 f hfm
      clear hfm
      clear i0 i1
      go_wp2_with fail
      refine (disk_read_ok E _ d A f i _ hf HS.out.s2).mono ?_
      intro e w3 h3
      unfold readEnd at h3
      cases hc : A.cel f i with
      | none =>
        rw [hc] at h3
        obtain ⟨rfl, h3⟩ := h3
        have HG2 : Aside (((halvesL name).drop (h + 1)).foldl (getF A i) (best, p) = getP A name i) := ⟨by rw [← HG.out]; simp only [getF, hc]⟩
        have H3 := Aside.mk h3.s2
        clear h3 hc HG hby HS
        go_wp2
        go_roundw
        case rel => exact ⟨h + 1, best, p, by omega, by push_cast; rfl, rfl, hb1, hb2, hpl, HG2, H3⟩
        case measure => simp [intOf]; omega
      | some cl =>
        rw [hc] at h3
        obtain ⟨vr, rfl, h3⟩ := h3
        have hbr := hby cl hc
        obtain ⟨Ar, cr, rfl, hcr, -⟩ := h3.row_slice
        have hl128 : cl.read.length = 128 := by
          have := h3.row_cases.1
          rw [b8s_length] at this
          exact this
        have HC : Aside (getF A i (best, p) f = match openI cl.read f i with
            | none => (best, p)
            | some x => if (x.2 : Int) ≤ best then (best, p) else ((x.2 : Int), x.1)) := ⟨by simp only [getF, hc]⟩
        have H3 := Aside.mk (And.intro h3 (And.intro hbr hl128))
        clear h3 hbr hl128 hc hby HS
        go_wp2_with fail
        refine (ext_open E _ f i Ar cl.read 128 cr _ hf H3.out.2.2 hcr H3.out.2.1 (fun w h => ⟨HQ.out.1 _ h.right.right.right, h.row_cells⟩) H3.out.1).mono ?_
        rintro e w4 (⟨ho, rfl, h4⟩ | ⟨p2, G, vp, ho, rfl, h4⟩)
        · rw [ho] at HC
          rw [HC.out] at HG
          have H4 := Aside.mk (h4.right.s2)
          clear h4 ho HC H3
          go_wp2
          go_roundw
          case rel => exact ⟨h + 1, best, p, by omega, by push_cast; rfl, rfl, hb1, hb2, hpl, HG, H4⟩
          case measure => simp [intOf]; omega
        · obtain ⟨hG1, hp2⟩ := openI_gen ho
          rw [ho] at HC
          dsimp only at HC
          by_cases hle : (G : Int) ≤ best
          · rw [if_pos hle] at HC
            rw [HC.out] at HG
            have H4 := Aside.mk (h4.right.right.s2)
            clear h4 ho HC H3
            go_wp2
            go_roundw
            case rel => exact ⟨h + 1, best, p, by omega, by push_cast; rfl, rfl, hb1, hb2, hpl, HG, H4⟩
            case measure => simp [intOf]; omega
          · rw [if_neg hle] at HC
            rw [HC.out] at HG
            obtain ⟨A2, c2, rfl, -, -⟩ := h4.row_slice
            have H4 := Aside.mk h4
            clear h4 ho HC H3
            obtain ⟨m, hm⟩ : ∃ m, m = p2.length := ⟨_, rfl⟩
            rw [← hm] at H4 hp2 ⊢
            have HM := Aside.mk hm
            clear hm
            have hle2 : best < (G : Int) := by omega
            clear hle
            go_wp2_with (first
              | (refine wpList_make_row (n := m) slB8 rfl rfl rfl rfl rfl H4.out (by unfold maxLen; omega) (by omega) (fun g w5 hw5 => ?_); have HW5 := Aside.mk hw5; clear hw5)
              | (at_builtin; fail)
              | (refine wpList_copy_sat Tryd.underlying22 (by kernel_rfl) rfl rfl rfl rfl HW5.out (by rw [b8s_length]; exact HM.out.symm) (HW5.out.right.row_cells) (b8s_one _) (fun w6 hw6 => ?_); have HW6 := Aside.mk hw6; clear hw6))
            have HW7 : Aside (Sat E w6 (HP.row 5 1 (.slice (some ⟨g, 0, none⟩) m m) p2.length (b8s p2) * (HP.disk d A * q))) := ⟨by
              have h7 := HW6.out.drop2.drop2
              rw [List.take_of_length_le (by rw [b8s_length, ← HM.out]; exact Nat.le_refl _), List.drop_of_length_le (by simp), List.append_nil] at h7
              have h8 : Sat E w6 (HP.row 5 1 u10 p.length (b8s p) * (HP.row 5 1 (.slice (some ⟨g, 0, none⟩) m m) m (b8s p2) * (HP.disk d A * q))) := h7.perm (by ac_rfl)
              rw [← HM.out]
              exact h8.right⟩
            clear HW5 HW6 H4
            go_wp2
            go_roundw
            case rel => exact ⟨h + 1, (G : Int), p2, by omega, by push_cast; rfl, rfl, hG1, by omega, by rw [← HM.out]; omega, HG, HW7⟩
            case measure => simp [intOf]; omega
    · have hh2 : h = 2 := by omega
      subst hh2
      rw [HF.out] at HG
      have HX : Aside (getP A name i = (best, p)) := ⟨HG.out.symm⟩
      clear HG i0 i1
      by_cases hneg : best < 0
      · go_wp2
        go_ret3
        rw [HX.out]
        exact ⟨_, by unfold getEnd; rw [if_pos hneg]; rfl, HS.out⟩
      · go_wp2
        go_ret3
        rw [HX.out]
        exact ⟨_, by unfold getEnd; rw [if_neg (by show ¬ best < 0; omega)]; rfl, HS.out⟩
end Go.Proofs.YtnllmkpbnccllaaDoor
/- anchor.Fresh, Save, Load. -/
namespace Go.Proofs.YtnllmkpbnccllaaDoor
open Go.RowKit HP
set_option linter.unusedSimpArgs false
set_option linter.unusedVariables false

def freshA : Anch := ⟨0, 1, 0, 1, 0, -9223372036854775808, -9223372036854775808, 0, 1, 0⟩
set_option maxHeartbeats 1000000 in
set_option maxRecDepth 100000 in
theorem fresh_ok (E : Env) (q : HP) (w : World) (hw : Sat E w q) :
    Calls Tryd.prog 46 #[] w fun e w' => e = .returned freshA.val ∧ Sat E w' q := by
  have H1 := Aside.mk (hw.alloc (.cells #[.int .i64 0, .int .i64 1, .int .i64 0, .int .i64 1, .int .i64 0, .int .i64 (-9223372036854775808), .int .i64 (-9223372036854775808), .int .i64 0, .int .i64 1, .int .i64 0] 71))
  clear hw
  go_enter Tryd.func46, Tryd.ntmps46
  go_wp2
  refine bodyPost_ret (results_cell (t := 0) rfl rfl (run_loadAgg agAnch (cs := i8s freshA.l) rfl (Sat.ptCells (off := 0) H1.out rfl))) rfl ?_
  exact ⟨rfl, H1.out.right⟩
def nameA : ByteArray := ⟨#[97, 110, 99, 104, 111, 114]⟩
def Anch.up (a : Anch) : Anch := { a with seq := a.seq + 1 }
def saveP (A : Dk) (a : Anch) : (Anch × Int) × Dk :=
  if btw 0 [a.seq] = true ∧ canA a.up = true then
    (if (putP A nameA 0 a.up.seq (encI a.up.l)).1 = 0 then (a.up, 0) else (zeroA, (putP A nameA 0 a.up.seq (encI a.up.l)).1), (putP A nameA 0 a.up.seq (encI a.up.l)).2)
  else ((zeroA, 1), A)
def loadA (A : Dk) : Anch × Int :=
  if 0 ≤ (getP A nameA 0).1 ∧ (decP (getP A nameA 0).2).2 = 0 ∧ (decP (getP A nameA 0).2).1.seq = (getP A nameA 0).1 then ((decP (getP A nameA 0).2).1, 0) else (zeroA, 170)
theorem openI_bytes {b : List Int} {f : ByteArray} {i : Int} {p : List Int} {g : Nat} (h : openI b f i = some (p, g)) (hb : Bytes b) : Bytes p := by
  unfold openI at h
  split at h
  · cases h
  · split at h
    · cases h
    · split at h
      · cases h
      · simp only [Option.some.injEq, Prod.mk.injEq] at h
        rw [← h.1]
        exact fun y hy => hb y (List.mem_of_mem_drop (List.mem_of_mem_take hy))
theorem getF_bytes {A : Dk} {i : Int} {st : Int × List Int} {f : ByteArray} (hs : Bytes st.2) (hb : ∀ c, A.cel f i = some c → Bytes c.read) : Bytes (getF A i st f).2 := by
  unfold getF
  cases hc : A.cel f i with
  | none => exact hs
  | some c =>
    dsimp only
    cases ho : openI c.read f i with
    | none => exact hs
    | some x =>
      dsimp only
      split
      · exact hs
      · exact openI_bytes (p := x.1) (g := x.2) ho (hb c hc)
theorem getP_bytes {A : Dk} {name : ByteArray} {i : Int} (hb : ∀ f ∈ halvesL name, ∀ c, A.cel f i = some c → Bytes c.read) : Bytes (getP A name i).2 := by
  unfold getP halvesL
  exact getF_bytes (getF_bytes (fun x hx => by cases hx) (hb _ (List.mem_cons_self ..))) (hb _ (List.mem_cons_of_mem _ (List.mem_cons_self ..)))
set_option maxHeartbeats 2000000 in
set_option maxRecDepth 100000 in
theorem anchor_load (E : Env) (q : HP) (d : Nat) (A : Dk) (w : World) (hby : ∀ f ∈ halvesL nameA, ∀ c, A.cel f 0 = some c → Bytes c.read) (hq : ∀ w, Sat E w q → Quarter w) (hw : Sat E w (HP.disk d A * q)) :
    Calls Tryd.prog 77 #[.pointer (some ⟨d, 0, none⟩)] w fun e w' => e = .returned (.tuple #[(loadA A).1.val, .int .i64 (loadA A).2]) ∧ Sat E w' (HP.disk d A * q) := by
  have h1 := hw.alloc (.cells #[.int .i64 0, .int .i64 0, .int .i64 0, .int .i64 0, .int .i64 0, .int .i64 0, .int .i64 0, .int .i64 0, .int .i64 0, .int .i64 0] 71)
  have H1 : Aside (Sat E (w.alloc (.cells #[.int .i64 0, .int .i64 0, .int .i64 0, .int .i64 0, .int .i64 0, .int .i64 0, .int .i64 0, .int .i64 0, .int .i64 0, .int .i64 0] 71)) (HP.disk d A * (HP.pt w.heap.size (.cells #[.int .i64 0, .int .i64 0, .int .i64 0, .int .i64 0, .int .i64 0, .int .i64 0, .int .i64 0, .int .i64 0, .int .i64 0, .int .i64 0] 71) * q))) := ⟨h1.perm (by ac_rfl)⟩
  have HQ := Aside.mk (And.intro hq hby)
  have hx : nameA.size + 2 ≤ maxLen := by show 8 ≤ maxLen; unfold maxLen; omega
  have HX := Aside.mk hx
  have HL : Aside (loadA A = if 0 ≤ (getP A nameA 0).1 ∧ (decP (getP A nameA 0).2).2 = 0 ∧ (decP (getP A nameA 0).2).1.seq = (getP A nameA 0).1 then ((decP (getP A nameA 0).2).1, 0) else (zeroA, 170)) := ⟨rfl⟩
  clear hq hby hw h1 hx
  go_enter Tryd.func77, Tryd.ntmps77
  go_wp2_with fail
  refine (pair_get E _ d A nameA 0 _ HX.out HQ.out.2 (fun w h => HQ.out.1 w h.right) H1.out).mono ?_
  rintro e w1 ⟨v, rfl, h2⟩
  obtain ⟨⟨best, p⟩, hst⟩ : ∃ st, st = getP A nameA 0 := ⟨_, rfl⟩
  have hpb := getP_bytes HQ.out.2
  rw [← hst] at h2 HL hpb ⊢
  clear hst
  dsimp only at h2 HL hpb
  unfold getEnd
  dsimp only
  by_cases hneg : best < 0
  · rw [if_pos hneg]
    have HX2 : Aside (loadA A = (zeroA, 170)) := ⟨by rw [HL.out, if_neg (by omega)]⟩
    have H2 := Aside.mk h2.right
    clear h2 HL
    go_wp2_with fail
    refine (decode_ok E _ none [] 0 0 _ rfl (by omega) (by unfold maxLen; omega) (fun x hx => by cases hx) (fun w h => Cells.nil _ _) H2.out).mono ?_
    rintro e w2 ⟨rfl, h3⟩
    rw [show decP [] = (zeroA, 5) from rfl]
    dsimp only
    rw [show zeroA.val = .agg #[.int .i64 0, .int .i64 0, .int .i64 0, .int .i64 0, .int .i64 0, .int .i64 0, .int .i64 0, .int .i64 0, .int .i64 0, .int .i64 0] from rfl]
    have H4 : Aside (Sat E (w2.alloc (.cells #[.int .i64 0, .int .i64 0, .int .i64 0, .int .i64 0, .int .i64 0, .int .i64 0, .int .i64 0, .int .i64 0, .int .i64 0, .int .i64 0] 71)) (HP.pt w.heap.size (.cells #[.int .i64 0, .int .i64 0, .int .i64 0, .int .i64 0, .int .i64 0, .int .i64 0, .int .i64 0, .int .i64 0, .int .i64 0, .int .i64 0] 71) * (HP.disk d A * q))) := ⟨(h3.alloc (.cells #[.int .i64 0, .int .i64 0, .int .i64 0, .int .i64 0, .int .i64 0, .int .i64 0, .int .i64 0, .int .i64 0, .int .i64 0, .int .i64 0] 71)).right.perm (by ac_rfl)⟩
    clear h3 H2
    have r2 : (storeVar 71 ⟨w.heap.size, 0, none⟩ (.agg (i8s zeroA.l).toArray)).run Tryd.prog (w2.alloc (.cells #[.int .i64 0, .int .i64 0, .int .i64 0, .int .i64 0, .int .i64 0, .int .i64 0, .int .i64 0, .int .i64 0, .int .i64 0, .int .i64 0] 71)) = .ok () ((w2.alloc (.cells #[.int .i64 0, .int .i64 0, .int .i64 0, .int .i64 0, .int .i64 0, .int .i64 0, .int .i64 0, .int .i64 0, .int .i64 0, .int .i64 0] 71)).setRow w.heap.size (i8s zeroA.l).toArray) := run_storeAgg agAnch (g := w.heap.size) (off := 0) (cs := i8s zeroA.l) H4.out.get rfl (by show 0 + 10 ≤ 10; omega) rfl
    have h5 := H4.out.splice (i8s zeroA.l)
    have H5 := Aside.mk h5
    clear h5 H4
    generalize World.setRow (w2.alloc _) _ _ = w5 at *
    go_wp2_with (refine wpList_store_run rfl rfl rfl rfl rfl r2 ?_)
    go_wp2
    refine bodyPost_ret (results_cellTmp rfl rfl (run_loadAgg agAnch (cs := i8s zeroA.l) rfl (Sat.ptCells (off := 0) H5.out rfl))) rfl ?_
    rw [HX2.out]
    exact ⟨rfl, H5.out.right⟩
  · rw [if_neg hneg]
    obtain ⟨Av, cv, rfl, hcv, hcm⟩ := h2.row_slice
    have H2 := Aside.mk h2
    have HPB := Aside.mk hpb
    clear hpb
    obtain ⟨⟨a, c⟩, hac⟩ : ∃ r, r = decP p := ⟨_, rfl⟩
    rw [← hac] at HL
    have HD := Aside.mk hac.symm
    clear h2 hac
    go_wp2_with fail
    refine (decode_ok E _ Av p p.length cv _ rfl hcv hcm HPB.out (fun w h => h.row_cells) H2.out).mono ?_
    rintro e w2 ⟨rfl, h3⟩
    rw [HD.out]
    dsimp only
    rw [show a.val = .agg #[.int .i64 a.seq, .int .i64 a.gen, .int .i64 a.lsn, .int .i64 a.seg, .int .i64 a.ext, .int .i64 a.flo, .int .i64 a.new, .int .i64 a.keep, .int .i64 a.next, .int .i64 a.cur] from rfl]
    have H4 : Aside (Sat E (w2.alloc (.cells #[.int .i64 a.seq, .int .i64 a.gen, .int .i64 a.lsn, .int .i64 a.seg, .int .i64 a.ext, .int .i64 a.flo, .int .i64 a.new, .int .i64 a.keep, .int .i64 a.next, .int .i64 a.cur] 71)) (HP.pt w.heap.size (.cells #[.int .i64 0, .int .i64 0, .int .i64 0, .int .i64 0, .int .i64 0, .int .i64 0, .int .i64 0, .int .i64 0, .int .i64 0, .int .i64 0] 71) * (HP.disk d A * q))) := ⟨(h3.alloc (.cells #[.int .i64 a.seq, .int .i64 a.gen, .int .i64 a.lsn, .int .i64 a.seg, .int .i64 a.ext, .int .i64 a.flo, .int .i64 a.new, .int .i64 a.keep, .int .i64 a.next, .int .i64 a.cur] 71)).right.right.perm (by ac_rfl)⟩
    clear h3 H2 HD HPB
    by_cases hc : c = 0
    · subst hc
      by_cases hs : a.seq = best
      · subst hs
        have HX2 : Aside (loadA A = (a, 0)) := ⟨by rw [HL.out, if_pos ⟨by omega, rfl, rfl⟩]⟩
        clear HL
        have r2 : (storeVar 71 ⟨w.heap.size, 0, none⟩ (.agg (i8s a.l).toArray)).run Tryd.prog (w2.alloc (.cells #[.int .i64 a.seq, .int .i64 a.gen, .int .i64 a.lsn, .int .i64 a.seg, .int .i64 a.ext, .int .i64 a.flo, .int .i64 a.new, .int .i64 a.keep, .int .i64 a.next, .int .i64 a.cur] 71)) = .ok () ((w2.alloc (.cells #[.int .i64 a.seq, .int .i64 a.gen, .int .i64 a.lsn, .int .i64 a.seg, .int .i64 a.ext, .int .i64 a.flo, .int .i64 a.new, .int .i64 a.keep, .int .i64 a.next, .int .i64 a.cur] 71)).setRow w.heap.size (i8s a.l).toArray) := run_storeAgg agAnch (g := w.heap.size) (off := 0) (cs := i8s a.l) H4.out.get rfl (by show 0 + 10 ≤ 10; omega) rfl
        have h5 := H4.out.splice (i8s a.l)
        have H5 := Aside.mk h5
        clear h5 H4
        generalize World.setRow (w2.alloc _) _ _ = w5 at *
        go_wp2_with (refine wpList_store_run rfl rfl rfl rfl rfl r2 ?_)
        go_wp2
        refine bodyPost_ret (results_cellTmp rfl rfl (run_loadAgg agAnch (cs := i8s a.l) rfl (Sat.ptCells (off := 0) H5.out rfl))) rfl ?_
        rw [HX2.out]
        exact ⟨rfl, H5.out.right⟩
      · have HX2 : Aside (loadA A = (zeroA, 170)) := ⟨by rw [HL.out, if_neg (fun h => hs h.2.2)]⟩
        have hsb : (a.seq == best) = false := by rw [beq_eq_false_iff_ne]; exact hs
        clear HL
        have r2 : (storeVar 71 ⟨w.heap.size, 0, none⟩ (.agg (i8s zeroA.l).toArray)).run Tryd.prog (w2.alloc (.cells #[.int .i64 a.seq, .int .i64 a.gen, .int .i64 a.lsn, .int .i64 a.seg, .int .i64 a.ext, .int .i64 a.flo, .int .i64 a.new, .int .i64 a.keep, .int .i64 a.next, .int .i64 a.cur] 71)) = .ok () ((w2.alloc (.cells #[.int .i64 a.seq, .int .i64 a.gen, .int .i64 a.lsn, .int .i64 a.seg, .int .i64 a.ext, .int .i64 a.flo, .int .i64 a.new, .int .i64 a.keep, .int .i64 a.next, .int .i64 a.cur] 71)).setRow w.heap.size (i8s zeroA.l).toArray) := run_storeAgg agAnch (g := w.heap.size) (off := 0) (cs := i8s zeroA.l) H4.out.get rfl (by show 0 + 10 ≤ 10; omega) rfl
        have h5 := H4.out.splice (i8s zeroA.l)
        have H5 := Aside.mk h5
        clear h5 H4
        generalize World.setRow (w2.alloc _) _ _ = w5 at *
        go_wp2_with (refine wpList_store_run rfl rfl rfl rfl rfl r2 ?_)
        go_wp2
        refine bodyPost_ret (results_cellTmp rfl rfl (run_loadAgg agAnch (cs := i8s zeroA.l) rfl (Sat.ptCells (off := 0) H5.out rfl))) rfl ?_
        rw [HX2.out]
        exact ⟨rfl, H5.out.right⟩
    · have HX2 : Aside (loadA A = (zeroA, 170)) := ⟨by rw [HL.out, if_neg (fun h => hc h.2.1)]⟩
      have hcb : (c == 0) = false := by rw [beq_eq_false_iff_ne]; exact hc
      clear HL
      have r2 : (storeVar 71 ⟨w.heap.size, 0, none⟩ (.agg (i8s zeroA.l).toArray)).run Tryd.prog (w2.alloc (.cells #[.int .i64 a.seq, .int .i64 a.gen, .int .i64 a.lsn, .int .i64 a.seg, .int .i64 a.ext, .int .i64 a.flo, .int .i64 a.new, .int .i64 a.keep, .int .i64 a.next, .int .i64 a.cur] 71)) = .ok () ((w2.alloc (.cells #[.int .i64 a.seq, .int .i64 a.gen, .int .i64 a.lsn, .int .i64 a.seg, .int .i64 a.ext, .int .i64 a.flo, .int .i64 a.new, .int .i64 a.keep, .int .i64 a.next, .int .i64 a.cur] 71)).setRow w.heap.size (i8s zeroA.l).toArray) := run_storeAgg agAnch (g := w.heap.size) (off := 0) (cs := i8s zeroA.l) H4.out.get rfl (by show 0 + 10 ≤ 10; omega) rfl
      have h5 := H4.out.splice (i8s zeroA.l)
      have H5 := Aside.mk h5
      clear h5 H4
      generalize World.setRow (w2.alloc _) _ _ = w5 at *
      go_wp2_with (refine wpList_store_run rfl rfl rfl rfl rfl r2 ?_)
      go_wp2
      refine bodyPost_ret (results_cellTmp rfl rfl (run_loadAgg agAnch (cs := i8s zeroA.l) rfl (Sat.ptCells (off := 0) H5.out rfl))) rfl ?_
      rw [HX2.out]
      exact ⟨rfl, H5.out.right⟩
end Go.Proofs.YtnllmkpbnccllaaDoor
/- What is framed is opened; two extents written and read. -/
namespace Go.Proofs.YtnllmkpbnccllaaDoor
open Go.RowKit HP
set_option linter.unusedSimpArgs false
set_option linter.unusedVariables false

theorem extI_parts {f : ByteArray} {i g : Nat} {p : List Int} (h : p.length ≤ 106) :
    (extI f i g p).getD 17 0 = p.length ∧ ((extI f i g p).drop 9).take 8 = putI g 8 ∧ ((extI f i g p).drop 18).take p.length = p := by
  have e : extI f i g p = ([229] ++ putI (crcSum (strB f)) 4 ++ putI i 4) ++ (putI g 8 ++ ((p.length : Int) :: (p ++ (List.replicate (106 - p.length) 0 ++ putI (crcSum (extH f i g p)) 4)))) := by
    unfold extI
    conv => lhs; arg 1; unfold extH
    simp only [List.append_assoc, List.cons_append, List.nil_append]
  have l1 : ([229] ++ putI (crcSum (strB f)) 4 ++ putI i 4 : List Int).length = 9 := by simp [putI_length]
  have d9 : (extI f i g p).drop 9 = putI g 8 ++ ((p.length : Int) :: (p ++ (List.replicate (106 - p.length) 0 ++ putI (crcSum (extH f i g p)) 4))) := by
    rw [e, ← l1, List.drop_left]
  have d17 : (extI f i g p).drop 17 = (p.length : Int) :: (p ++ (List.replicate (106 - p.length) 0 ++ putI (crcSum (extH f i g p)) 4)) := by
    rw [show 17 = 9 + 8 from rfl, ← List.drop_drop, d9, List.drop_left' (putI_length g 8)]
  refine ⟨?_, ?_, ?_⟩
  · have := congrArg (fun l => l[0]?) d17
    simp only [List.getElem?_drop, Nat.add_zero, List.getElem?_cons_zero] at this
    simp [List.getD, this]
  · rw [d9]
    have := putI_length g 8
    rw [List.take_append_of_le_length (by omega), List.take_of_length_le (by omega)]
  · rw [show 18 = 17 + 1 from rfl, ← List.drop_drop, d17, List.drop_one, List.tail_cons, List.take_left]
theorem openI_extI {f : ByteArray} {i g : Nat} {p : List Int} (hi : i ≤ 2147483647) (hg : g ≤ 4611686018427387904) (h : p.length ≤ 106) : openI (extI f i g p) f i = some (p, g) := by
  obtain ⟨h1, h2, h3⟩ := extI_parts (f := f) (i := i) (g := g) h
  unfold openI
  rw [h1, h2, Int.toNat_natCast, Int.toNat_natCast, h3, getN_putI 8 g (by omega)]
  rw [if_neg (by rw [extI_length h]; omega), if_neg (by omega), if_neg (by simp)]

def stl (I : List Int) : Cel := ⟨I, I, I, I, false⟩
theorem stl_sync (c : Cel) (I : List Int) : (c.wrote I).syncd = stl I := rfl
structure TwoNames (fa fb : ByteArray) : Prop where
  na : namedB fa = true
  nb : namedB fb = true
  ne : fa ≠ fb
  lt : ltN fa fb = true
  gt : ltN fb fa = false
def wr1 (A : Dk) (f : ByteArray) (i : Int) (I : List Int) : Int × Dk := if (A.write f i I).1 = 0 then (A.write f i I).2.sync f else A.write f i I
def put2 (A : Dk) (fa fb : ByteArray) (i : Int) (Ia Ib : List Int) : Int × Dk :=
  if (wr1 A fa i Ia).1 = 0 then (if (wr1 (wr1 A fa i Ia).2 fb i Ib).1 = 0 then (0, (wr1 (wr1 A fa i Ia).2 fb i Ib).2) else wr1 (wr1 A fa i Ia).2 fb i Ib) else wr1 A fa i Ia
theorem wrF_one {A : Dk} {f : ByteArray} {i g : Nat} {p : List Int} (hf : FrameOk i g p.length) : wrF A f g i [p] = wr1 A f i (extI f i g p) := by
  unfold wrF wr1
  rw [if_neg (by simpa using hf)]
  rfl
theorem putP_two {A : Dk} {x : ByteArray} {i g : Nat} {p : List Int} (hf : FrameOk i g p.length) : putP A x i g p = put2 A (x ++ dotA) (x ++ dotB) i (extI (x ++ dotA) i g p) (extI (x ++ dotB) i g p) := by
  unfold putP
  rw [if_pos hf, Int.toNat_natCast, Int.toNat_natCast]
  unfold wrP halvesL
  simp only [wrL, wrF_one hf]
  rfl
def two (room fuse : Int) (fa fb : ByteArray) (a b : Cel) : Dk := ⟨room, fuse, [(fa, [a]), (fb, [b])]⟩
section
variable {fa fb : ByteArray} {Ia Ib : List Int} (T : TwoNames fa fb) (la : Ia.length = 128) (lb : Ib.length = 128)
include T la lb
theorem put_first : put2 (Dk.new 4) fa fb 0 Ia Ib = (0, two 4 (-1) fa fb (stl Ia) (stl Ib)) := by
  obtain ⟨na, nb, ne, lt, gt⟩ := T
  have ne' := Ne.symm ne
  simp [put2, wr1, Dk.write, Dk.sync, Dk.new, Dk.at, Dk.free, Dk.goes, Dk.burnt, burnI, Dk.set, lk_nil, lk_cons, putF, sizeF, na, nb, ne, ne', lt, gt, la, lb, stl_sync, two]
theorem put_first2 : put2 (Dk.new 2) fa fb 0 Ia Ib = (0, two 2 (-1) fa fb (stl Ia) (stl Ib)) := by
  obtain ⟨na, nb, ne, lt, gt⟩ := T
  have ne' := Ne.symm ne
  simp [put2, wr1, Dk.write, Dk.sync, Dk.new, Dk.at, Dk.free, Dk.goes, Dk.burnt, burnI, Dk.set, lk_nil, lk_cons, putF, sizeF, na, nb, ne, ne', lt, gt, la, lb, stl_sync, two]
end
theorem cel_a {room fuse : Int} {fa fb : ByteArray} {a b : Cel} : (two room fuse fa fb a b).cel fa 0 = some a := by simp [two, Dk.cel, Dk.at, lk_cons]
theorem cel_b {room fuse : Int} {fa fb : ByteArray} {a b : Cel} (h : fa ≠ fb) : (two room fuse fa fb a b).cel fb 0 = some b := by simp [two, Dk.cel, Dk.at, lk_cons, h]
/-- Of two halves that are right the greater generation counts; of two alike the first. -/
theorem get_two {x : ByteArray} (h : x ++ dotA ≠ x ++ dotB) {room fuse : Int} {ca cb : Cel} {ga gb : Nat} (ha : ga ≤ 4611686018427387904) (hb : gb ≤ 4611686018427387904) {pa pb : List Int} (la : pa.length ≤ 106) (lb : pb.length ≤ 106)
    (ra : ca.read = extI (x ++ dotA) 0 ga pa) (rb : cb.read = extI (x ++ dotB) 0 gb pb) :
    getP (two room fuse (x ++ dotA) (x ++ dotB) ca cb) x 0 = if (gb : Int) ≤ ga then ((ga : Int), pa) else ((gb : Int), pb) := by
  have oa := openI_extI (f := x ++ dotA) (i := 0) (by omega) ha la
  have ob := openI_extI (f := x ++ dotB) (i := 0) (by omega) hb lb
  simp only [Int.ofNat_zero, Int.natCast_zero] at oa ob
  rw [← ra] at oa
  rw [← rb] at ob
  unfold getP halvesL
  simp only [List.foldl_cons, List.foldl_nil]
  rw [show getF _ 0 (-1, []) (x ++ dotA) = ((ga : Int), pa) by simp only [getF, cel_a, oa]; rw [if_neg (by show ¬ (ga : Int) ≤ -1; omega)]]
  simp only [getF, cel_b h, ob]
def exS : ByteArray := ⟨#[120]⟩
theorem twoEx : TwoNames (exS ++ dotA) (exS ++ dotB) := ⟨by kernel_rfl, by kernel_rfl, by decide, by kernel_rfl, by kernel_rfl⟩
end Go.Proofs.YtnllmkpbnccllaaDoor
