/- Texts of one claim, one behind the other: DiskZ3, DiskWr, DiskS, DiskSy, MapK, RF, Kep, BackK, CrashA. -/
import Derived.Test.YtnpinegpajbkeaaGreatDoorRi2
import Derived.DeepKeys5
import Derived.RangeFuncNested
import Derived.RangeFuncBound
import Derived.RangeFuncCalls
import Derived.RangeFuncLeaves
import Derived.RangeFuncBox
import Derived.TacticsIn
import Derived.Test.YtnpinegpajbkeaaGreatDoorProg
import Derived.Shelf.Abstract
import Derived.Shelf.RegionOpen
import Derived.OwnWalkIn
import Derived.TacticsInMore
import Derived.LoopNIn
import Derived.LoopIn
import Derived.Outline
import Derived.IntWalk
set_option linter.unusedSimpArgs false
set_option linter.unusedVariables false
namespace Go.Proofs.YtnpinegpajbkeaaGreatDoor
open Go.RowKit HP
theorem slPC : SlTy Tryz.prog 144 145 (.pointer none) 1 8 := ⟨Tryz.underlying144, by kernel_rfl, rfl, by decide⟩
theorem zero_cel : Cel.zero.vals.toArray = Tryz.zeroCells149 := by kernel_rfl
theorem wpList_value {P : Program} {ops : Array Oper} {rest : List Oper} {o : Oper} {a : Act} {w : World} {Q : Exit → Act → World → Prop} {v : Value} (hg : o.guard = none) (hr : (execOp a.eval o).run P w = .ok (.value v) w)
    (h : wpList P ops Q rest (a.put o.dst v) w) : wpList P ops Q (o :: rest) a w := by
  refine wpList_plain hg fun K' hK' => ?_
  unfold Oper.wp
  rw [hr]
  exact hK' _ _ h
theorem eval_at_len {l : List Value} {p : Value} {g o n c : Nat} {E : Env} {q : HP} {w : World} {e : TypeId} (hl : l.length = n) (h : Sat E w (HP.row e 1 (.slice (some ⟨g, o, none⟩) (n + 1) c) (n + 1) (l ++ [p]) * q)) : w.cell? ⟨g, o + n, none⟩ = some p :=
  h.row_cell n p (by rw [List.getElem?_append_right (by omega)]; simp [hl])
set_option maxHeartbeats 4000000 in
set_option maxRecDepth 100000 in
theorem disk_write_new (E : Env) (q : HP) (d : Nat) (A : Dk) (name : ByteArray) (ab : Addr) (l : List Int) (c : Nat) (w : World) (hn : name.size ≤ maxLen) (hl : l.length = 128) (hq : ∀ w, Sat E w q → Cells w (some ab) (b8s l))
    (hnm : namedB name = true) (hgo : A.goes = true) (hfr : 0 < A.free) (hw : Sat E w (HP.disk d A * q)) :
    Calls Tryz.prog 63 #[.pointer (some ⟨d, 0, none⟩), .string name, .int .i64 ((A.at name).length : Int), .slice (some ab) 128 c] w fun e w' => e = .returned (.int .i64 0) ∧ Sat E w' (HP.disk d (A.burnt.set name (A.at name ++ [Cel.zero.wrote l])) * q) := by
  obtain ⟨m, es, clock, fs, hv, hd⟩ := hw.disk_open
  have hsm := at_small hv.fine name
  have hfu := hv.fine.fuse
  have htt := hv.total
  have hszl := hv.size_le
  have hrm := hv.fine.room
  clear hw
  go_enter Tryz.func63, Tryz.ntmps63
  go_wp2_with fail
  refine (disk_none E _ d _ _ m w (dk_parts hd)).mono ?_
  rintro e w1 ⟨rfl, rfl⟩
  have c1 := (dk_parts hd).cell 1
  simp only [List.getElem?_toArray, List.getElem?_cons_zero, List.getElem?_cons_succ] at c1
  obtain ⟨v, B, cc, hvB, hlook, -, hcase⟩ := find_file hv hd name hn
  obtain ⟨ptrs, R, es', clock', hpl, hRq, hopen, hmu, hclose⟩ := new_cel (E := E) (q := q) (d := d) (m := m) hv.burnt hn hnm hfr hcase
  rw [hvB] at hlook hopen
  have HH := Aside.mk (And.intro htt (And.intro hszl (And.intro hrm (And.intro hpl (And.intro hRq (And.intro hopen (And.intro hmu hclose)))))))
  clear htt hszl hrm hpl hRq hopen hmu hclose hcase hvB
  have hnn : ∃ nn, nn = (A.at name).length := ⟨_, rfl⟩
  obtain ⟨nn, hnn⟩ := hnn
  have hat : (A.burnt.at name).length = nn := hnn.symm
  rw [hat, ← hnn] at HH
  rw [← hnn] at hlook hsm ⊢
  clear hat hnn
  go_wp2_with fail
  refine (named_ok E _ name w1 hd).mono ?_
  rintro e w2 ⟨rfl, hd2⟩
  clear hd c1 hlook
  rw [hnm]
  go_wp2_with fail
  refine (disk_burn E _ d _ _ m w2 hfu.2 (dk_parts hd2)).mono ?_
  rintro e w3 ⟨rfl, hd3⟩
  have hgo' : (burnI A.fuse).2 = true := hgo
  rw [hgo']
  clear hd2 hgo hgo' hfu
  go_wp2_with fail
  refine (disk_free E q d A.burnt.room A.burnt.fuse m es clock fs w3 hv.map HH.out.2.2.1 (by rw [HH.out.1]; have := HH.out.2.1; omega) (burnt_dsk hd3)).mono ?_
  rintro e w4 ⟨rfl, hd4⟩
  have hr : 0 < A.burnt.room - (total fs : Int) := by
    have := HH.out.1
    unfold Dk.free at hfr
    rw [this]; exact hfr
  generalize A.burnt.room - (total fs : Int) = fr at *
  clear hd3 hfr
  have h5 := ((HH.out.2.2.2.2.2.1 w4 hd4).alloc (.cells Tryz.zeroCells149 149)).s2
  have hdc := (dk_parts hd4).alloc (.cells Tryz.zeroCells149 149)
  have HQ := Aside.mk hq
  have HD4 := Aside.mk h5
  have HV := Aside.mk hv
  clear hd4 hq h5 hv hdc hnm
  have hb0 : (w4.alloc (.cells Tryz.zeroCells149 149)).heap.size = w4.heap.size + 1 := by
    show (w4.heap.push _).size = _
    exact Array.size_push _
  go_wp2_with (at_builtin; refine wpList_append_new (n := nn) (m := 1) (c := 1) slPC rfl rfl rfl (by rw [hb0]; rfl) HD4.out rfl rfl (by unfold maxLen; omega) (by omega) (fun v5 w5 hw5 => ?_); obtain ⟨B5, c5, rfl, -, -⟩ := hw5.row_slice; have g5 := (hw5.s3).cell 1; simp only [List.getElem?_toArray, List.getElem?_cons_zero, List.getElem?_cons_succ] at g5; have HW5 := Aside.mk hw5; have hmr := HH.out.2.2.2.2.2.2.1 w5 (.slice B5 (nn + 1) c5) hw5.s4.get; clear hw5)
  go_wp2_with (at_mapUpdate; refine wpList_mapUpdate_run rfl rfl rfl rfl rfl hmr ?_)
  have hd6 : Sat E (ChangeMaps.setBlock w5 m (.map (es' (.slice B5 (nn + 1) c5)) clock')) (HP.cel w4.heap.size Cel.zero * (HP.row 145 1 (.slice B5 (nn + 1) c5) (nn + 1) (ptrs ++ [.pointer (some ⟨w4.heap.size, 0, none⟩)]) * (HP.dsk d A.burnt.room A.burnt.fuse m * (HP.pt m (.map (es' (.slice B5 (nn + 1) c5)) clock') * R)))) := by
    have h1 := Sat.setBlk (HW5.out.s4) (.map (es' (.slice B5 (nn + 1) c5)) clock')
    unfold HP.cel
    rw [zero_cel]
    exact h1.perm (by ac_rfl)
  have hclose := HH.out.2.2.2.2.2.2.2
  have hpl := HH.out.2.2.2.1
  have hRq := HH.out.2.2.2.2.1
  generalize ChangeMaps.setBlock w5 m (.map (es' (.slice B5 (nn + 1) c5)) clock') = w6 at *
  generalize w4.heap.size = bk at *
  have hrow := hd6.s2
  obtain ⟨pa, hpa, -⟩ := hrow.row_cells.at_ nn (by simp [hpl])
  obtain ⟨g, o, rfl⟩ : ∃ g o, pa = ⟨g, o, none⟩ := slice_addr hrow.row_cells hpa (k := nn) (by simp [hpl])
  subst hpa
  have hcx := eval_at_len hpl hrow
  have HS : Aside (∀ w', Sat E w' (HP.cel bk (Cel.zero.wrote l) * (HP.row 145 1 (.slice (some ⟨g, o, none⟩) (nn + 1) c5) (nn + 1) (ptrs ++ [.pointer (some ⟨bk, 0, none⟩)]) * (HP.dsk d A.burnt.room A.burnt.fuse m * (HP.pt m (.map (es' (.slice (some ⟨g, o, none⟩) (nn + 1) c5)) clock') * R)))) → Sat E w' (HP.disk d (A.burnt.set name (A.at name ++ [Cel.zero.wrote l])) * q)) := ⟨fun w' h =>
    hclose w' _ bk _ (Cel.wrote_fine Cel.zero_fine hl) h⟩
  have hab : Cells w6.drew (some ab) (b8s l) := HQ.out _ (hRq _ hrow.right.right.right.right).drew
  have har := fun a w => run_arrayImg a 128 c (by omega) w
  obtain ⟨gb, ob, rfl⟩ : ∃ g o, ab = ⟨g, o, none⟩ := slice_addr hab rfl (k := 0) (by simp [b8s_length, hl])
  have hld := run_loadAgg agImg (by rw [b8s_length, hl]) hab
  have hxf : Cel.zero.Fine := Cel.zero_fine
  obtain ⟨w7, hs1, hd7⟩ := cel_store (off := 0) (l := l) (c' := { Cel.zero with read := l }) hd6.drew hxf hl (by omega) (set_read hxf hl)
  have hxf5 : ({ Cel.zero with read := l } : Cel).Fine := ⟨hl, hxf.2.1, hxf.2.2.1, hxf.2.2.2⟩
  obtain ⟨w8, hs2, hd8⟩ := cel_store (off := 384) (l := l) (c' := { Cel.zero with read := l, written := l }) hd7 hxf5 hl (by omega) (set_written hxf5 hl)
  have hxf6 : ({ Cel.zero with read := l, written := l } : Cel).Fine := ⟨hl, hxf.2.1, hxf.2.2.1, hl⟩
  have c6 := cel_waits hd8 hxf6
  have f6 := cel_thaw hd8 512
  have HD := Aside.mk (HS.out _ (cel_set_waits hd8 hxf6 true))
  obtain ⟨img, himg⟩ : ∃ img, img = (b8s l).toArray := ⟨_, rfl⟩
  rw [← himg] at hld hs1 hs2
  have hk1 : (nn : Int) < (nn : Int) + 1 := by omega
  have hk2 : (0 : Int) ≤ (nn : Int) := by omega
  clear himg hl hclose hpl hRq hrow hab HS hxf hxf5 hxf6 hd6 hd7 hd8 HW5 HD4 hmr g5 HH HQ HV hb0 hr
  refine region_R [20, 23, 26] [] (fun _ => True) #[false, false, false, false, false, false, false, false, false, false, false, false, false, false, false, false, false, false, false, false, false, false, false, false, false, false, false] (by kernel_rfl) rfl rfl ?_
  refine wpR_rd 0 #[true, false, false, false, false, false, false, false, false, false, false, false, false, false, false, false, false, false, false, false, false, false, false, false, false, false, false] rfl onlyN_noPanic (by kernel_rfl) (fun K hK => ?_); (go_simp; try go_bits); refine hK _ ?_; clear hK K
  refine wpR_rd 1 #[true, true, false, false, false, false, false, false, false, false, false, false, false, false, false, false, false, false, false, false, false, false, false, false, false, false, false] rfl onlyN_noPanic (by kernel_rfl) (fun K hK => ?_); (go_simp; try go_bits); refine hK _ ?_; clear hK K
  refine wpR_rd 2 #[true, true, true, false, false, false, false, false, false, false, false, false, false, false, false, false, false, false, false, false, false, false, false, false, false, false, false] rfl onlyN_noPanic (by kernel_rfl) (fun K hK => ?_); (go_simp; try go_bits); refine hK _ ?_; clear hK K
  refine wpR_rd 3 #[true, true, true, true, false, false, false, false, false, false, false, false, false, false, false, false, false, false, false, false, false, false, false, false, false, false, false] rfl onlyN_noPanic (by kernel_rfl) (fun K hK => ?_); (go_simp; try go_bits); refine hK _ ?_; clear hK K
  refine wpR_rd 4 #[true, true, true, true, true, false, false, false, false, false, false, false, false, false, false, false, false, false, false, false, false, false, false, false, false, false, false] rfl onlyN_noPanic (by kernel_rfl) (fun K hK => ?_); (go_simp; try go_bits); refine hK _ ?_; clear hK K
  refine wpR_rd 5 #[true, true, true, true, true, true, false, false, false, false, false, false, false, false, false, false, false, false, false, false, false, false, false, false, false, false, false] rfl onlyN_noPanic (by kernel_rfl) (fun K hK => ?_); (go_simp; try go_bits); refine hK _ ?_; clear hK K
  refine wpR_rd 6 #[true, true, true, true, true, true, true, false, false, false, false, false, false, false, false, false, false, false, false, false, false, false, false, false, false, false, false] rfl onlyN_noPanic (by kernel_rfl) (fun K hK => ?_); (go_simp; try go_bits); refine hK _ ?_; clear hK K
  refine wpR_rd 7 #[true, true, true, true, true, true, true, true, false, false, false, false, false, false, false, false, false, false, false, false, false, false, false, false, false, false, false] rfl onlyN_noPanic (by kernel_rfl) (fun K hK => ?_); (go_simp; try go_bits); refine hK _ ?_; clear hK K
  refine wpR_rd 8 #[true, true, true, true, true, true, true, true, true, false, false, false, false, false, false, false, false, false, false, false, false, false, false, false, false, false, false] rfl onlyN_noPanic (by kernel_rfl) (fun K hK => ?_); (go_simp; try go_bits); refine hK _ ?_; clear hK K
  refine wpR_rd 9 #[true, true, true, true, true, true, true, true, true, true, false, false, false, false, false, false, false, false, false, false, false, false, false, false, false, false, false] rfl onlyN_noPanic (by kernel_rfl) (fun K hK => ?_); (go_simp; try go_bits); refine hK _ ?_; clear hK K
  refine wpR_rd 10 #[true, true, true, true, true, true, true, true, true, true, true, false, false, false, false, false, false, false, false, false, false, false, false, false, false, false, false] rfl onlyN_noPanic (by kernel_rfl) (fun K hK => ?_); (go_simp; try go_bits); refine hK _ ?_; clear hK K
  refine wpR_rd 11 #[true, true, true, true, true, true, true, true, true, true, true, true, false, false, false, false, false, false, false, false, false, false, false, false, false, false, false] rfl onlyN_noPanic (by kernel_rfl) (fun K hK => ?_); (go_simp; try go_bits); refine hK _ ?_; clear hK K
  refine wpR_rd 12 #[true, true, true, true, true, true, true, true, true, true, true, true, true, false, false, false, false, false, false, false, false, false, false, false, false, false, false] rfl onlyN_noPanic (by kernel_rfl) (fun K hK => ?_); (go_simp; try go_bits); refine hK _ ?_; clear hK K
  refine wpR_rd 13 #[true, true, true, true, true, true, true, true, true, true, true, true, true, true, false, false, false, false, false, false, false, false, false, false, false, false, false] rfl onlyN_noPanic (by kernel_rfl) (fun K hK => ?_); (go_simp; try go_bits); refine hK _ ?_; clear hK K
  refine wpR_read (i := 14) #[true, true, true, true, true, true, true, true, true, true, true, true, true, true, true, false, false, false, false, false, false, false, false, false, false, false, false] rfl onlyN_noPanic (by kernel_rfl) (.inl ⟨rfl, exec_load rfl rfl hld⟩) ?_
  simp only [Act.put, List.setIfInBounds_toArray, List.set_cons_zero, List.set_cons_succ]
  refine wpR_rd 15 #[true, true, true, true, true, true, true, true, true, true, true, true, true, true, true, true, false, false, false, false, false, false, false, false, false, false, false] rfl onlyN_noPanic (by kernel_rfl) (fun K hK => ?_); (go_simp; try go_bits); refine hK _ ?_; clear hK K
  refine wpR_rd 16 #[true, true, true, true, true, true, true, true, true, true, true, true, true, true, true, true, true, false, false, false, false, false, false, false, false, false, false] rfl onlyN_noPanic (by kernel_rfl) (fun K hK => ?_); (go_simp; try go_bits); refine hK _ ?_; clear hK K
  refine wpR_read (i := 17) #[true, true, true, true, true, true, true, true, true, true, true, true, true, true, true, true, true, true, false, false, false, false, false, false, false, false, false] rfl onlyN_noPanic (by kernel_rfl) (.inl ⟨rfl, exec_load rfl rfl hld⟩) ?_
  simp only [Act.put, List.setIfInBounds_toArray, List.set_cons_zero, List.set_cons_succ]
  refine wpR_rd 18 #[true, true, true, true, true, true, true, true, true, true, true, true, true, true, true, true, true, true, true, false, false, false, false, false, false, false, false] rfl onlyN_noPanic (by kernel_rfl) (fun K hK => ?_); (go_simp; try go_bits); refine hK _ ?_; clear hK K
  refine wpR_rd 19 #[true, true, true, true, true, true, true, true, true, true, true, true, true, true, true, true, true, true, true, true, false, false, false, false, false, false, false] rfl onlyN_noPanic (by kernel_rfl) (fun K hK => ?_); (go_simp; try go_bits); refine hK _ ?_; clear hK K
  refine wpR_eff #[true, true, true, true, true, true, true, true, true, true, true, true, true, true, true, true, true, true, true, true, true, false, false, false, false, false, false] (i := 20) rfl (by kernel_rfl) (fun K hK => ?_)
  refine Eq.mpr (if_pos (by rfl)) ?_; refine wp_store_run rfl rfl rfl rfl hs1 ?_; refine hK _ _ ?_; clear hK K
  refine wpR_rd 21 #[true, true, true, true, true, true, true, true, true, true, true, true, true, true, true, true, true, true, true, true, true, true, false, false, false, false, false] rfl onlyN_noPanic (by kernel_rfl) (fun K hK => ?_); (go_simp; try go_bits); refine hK _ ?_; clear hK K
  refine wpR_rd 22 #[true, true, true, true, true, true, true, true, true, true, true, true, true, true, true, true, true, true, true, true, true, true, true, false, false, false, false] rfl onlyN_noPanic (by kernel_rfl) (fun K hK => ?_); (go_simp; try go_bits); refine hK _ ?_; clear hK K
  refine wpR_eff #[true, true, true, true, true, true, true, true, true, true, true, true, true, true, true, true, true, true, true, true, true, true, true, true, false, false, false] (i := 23) rfl (by kernel_rfl) (fun K hK => ?_)
  refine Eq.mpr (if_pos (by rfl)) ?_; refine wp_store_run rfl rfl rfl rfl hs2 ?_; refine hK _ _ ?_; clear hK K
  refine wpR_rd 24 #[true, true, true, true, true, true, true, true, true, true, true, true, true, true, true, true, true, true, true, true, true, true, true, true, true, false, false] rfl onlyN_noPanic (by kernel_rfl) (fun K hK => ?_); (go_simp; try go_bits); refine hK _ ?_; clear hK K
  refine wpR_rd 25 #[true, true, true, true, true, true, true, true, true, true, true, true, true, true, true, true, true, true, true, true, true, true, true, true, true, true, false] rfl onlyN_noPanic (by kernel_rfl) (fun K hK => ?_); (go_simp; try go_bits); refine hK _ ?_; clear hK K
  refine wpR_eff #[true, true, true, true, true, true, true, true, true, true, true, true, true, true, true, true, true, true, true, true, true, true, true, true, true, true, true] (i := 26) rfl (by kernel_rfl) (fun K hK => ?_)
  go_simp; refine hK _ _ ?_; clear hK K
  refine wpR_done (by kernel_rfl) ?_ _
  simp only [OnlyN]
  go_wp2
  go_ret
  exact ⟨rfl, HD.out⟩
theorem some_of_cells {w : World} {A : Option Addr} {cs : List Value} (h : Cells w A cs) (hl : 0 < cs.length) : ∃ a, A = some a := by
  obtain ⟨a, ha, _⟩ := h.at_ 0 hl
  exact ⟨a, ha⟩
theorem disk_write (E : Env) (q : HP) (d : Nat) (A : Dk) (name : ByteArray) (i : Int) (Ab : Option Addr) (l : List Int) (n c : Nat) (w : World) (hn : name.size ≤ maxLen) (hl : l.length = n) (hs : n ≤ maxLen) (hq : ∀ w, Sat E w q → Cells w Ab (b8s l)) (hw : Sat E w (HP.disk d A * q)) :
    Calls Tryz.prog 63 #[.pointer (some ⟨d, 0, none⟩), .string name, .int .i64 i, .slice Ab n c] w fun e w' => e = .returned (.int .i64 (A.write name i l).1) ∧ Sat E w' (HP.disk d (A.write name i l).2 * q) := by
  by_cases hbad : namedB name = false ∨ l.length ≠ 128 ∨ i < 0 ∨ (A.at name).length < i
  · have e : A.write name i l = (1, A) := by unfold Dk.write; rw [if_pos hbad]
    rw [e]
    exact disk_write_arg E q d A name i Ab l n c w hn hl hs hbad hw
  · have hnm : namedB name = true := by
      cases h : namedB name with
      | true => rfl
      | false => exact absurd (.inl h) hbad
    have hl8 : l.length = 128 := Decidable.byContradiction fun h => hbad (.inr (.inl h))
    have hi0 : 0 ≤ i := Int.not_lt.1 fun h => hbad (.inr (.inr (.inl h)))
    have hi1 : i ≤ (A.at name).length := Int.not_lt.1 fun h => hbad (.inr (.inr (.inr h)))
    obtain rfl : n = 128 := by omega
    cases hgo : A.goes with
    | false =>
      have e : A.write name i l = (31, A.burnt) := by unfold Dk.write; rw [if_neg hbad, if_pos hgo]
      rw [e]
      exact disk_write_dead E q d A name i Ab c w hn hnm hi0 hi1 hgo hw
    | true =>
      have hgo' : ¬ A.goes = false := by rw [hgo]; simp
      obtain ⟨ab, rfl⟩ := some_of_cells (hq w hw.right) (by rw [b8s_length]; omega)
      by_cases hie : i = (A.at name).length
      · by_cases hfr : A.free ≤ 0
        · have e : A.write name i l = (4, A.burnt) := by unfold Dk.write; rw [if_neg hbad, if_neg hgo', if_pos ⟨hie, hfr⟩]
          rw [e, hie]
          exact disk_write_full E q d A name _ c w hn hnm hgo hfr hw
        · have e : A.write name i l = (0, A.burnt.set name (A.at name ++ [Cel.zero.wrote l])) := by unfold Dk.write; rw [if_neg hbad, if_neg hgo', if_neg (fun h => hfr h.2), if_pos hie]
          rw [e, hie]
          exact disk_write_new E q d A name ab l c w hn hl8 hq hnm hgo (by omega) hw
      · obtain ⟨k, rfl⟩ := Int.eq_ofNat_of_zero_le hi0
        have e : A.write name k l = (0, A.burnt.set name ((A.at name).modify k fun c => c.wrote l)) := by
          unfold Dk.write; rw [if_neg hbad, if_neg hgo', if_neg (fun h => hie h.1), if_neg hie, Int.toNat_natCast]
        rw [e]
        exact disk_write_old E q d A name k ab l c w hn hl8 hq hnm (by omega) hgo hw
theorem foldl_splice (off : Nat) : ∀ (xs : List Value) (i : Nat) (cur : Array Value), off + i + xs.length ≤ cur.size →
    ((xs.zipIdx i).foldl (fun cs (p : Value × Nat) => cs.setIfInBounds (off + p.2) p.1) cur).toList = cur.toList.take (off + i) ++ xs ++ cur.toList.drop (off + i + xs.length)
  | [], i, cur, _ => by simp
  | x :: xs, i, cur, h => by
    have hl : off + i + (xs.length + 1) ≤ cur.toList.length := by simpa [Nat.add_assoc] using h
    rw [List.zipIdx_cons, List.foldl_cons, foldl_splice off xs (i + 1) _ (by simp at h ⊢; omega)]
    have e := list_seg_step cur.toList (off + i) x xs hl
    simpa [Array.toList_setIfInBounds, Nat.add_assoc] using e
theorem fill_one {place : Nat → Option (Nat × Nat)} {cur : Array Value} {i off size : Nat} {v : Value} {rest : List (Nat × Value)} (hp : place i = some (off, size)) (hs : v.cells.size = size) (hf : off + size ≤ cur.size) :
    Instr.fill place cur ((i, v) :: rest) = Instr.fill place (splice cur.toList off v.cells.toList).toArray rest := by
  subst hs
  have h1 : ¬ (v.cells.size ≠ v.cells.size || decide (off + v.cells.size > cur.size)) = true := by simp; omega
  simp only [Instr.fill, hp]
  rw [if_neg h1]
  congr 1
  apply Array.toList_inj.1
  have h2 := foldl_splice off v.cells.toList 0 cur (by simpa using hf)
  simp only [Nat.add_zero] at h2
  rw [← Array.toList_zipIdx, Array.foldl_toList] at h2
  exact h2
def places : Array (Nat × Nat) := #[(0, 128), (128, 128), (256, 128), (384, 128), (512, 1)]
theorem build_places (w : World) (qs : Array (Nat × Value)) : (Instr.build 149 qs).run Tryz.prog w = (match Instr.fill (places[·]?) Tryz.zeroCells149 qs.toList with
    | some cells => Result.ok (Value.agg cells) w
    | x => (stuck "build: no such field, or a part of the wrong size" : Sem Value).run Tryz.prog w) := by
  have hz : (zeroValue 149).run Tryz.prog w = .ok (.agg Tryz.zeroCells149) w := by kernel_rfl
  have hu := Tryz.underlying149
  unfold Instr.build
  rw [Sem.run_bind, hz, Result.andThen_ok]
  simp only [Sem.run_bind, run_underlying hu, Result.andThen_ok]
  refine Eq.trans (congrArg (fun r => Result.andThen r _) (a₂ := .ok places w) (by kernel_rfl)) ?_
  rw [Result.andThen_ok]
  show Sem.run Tryz.prog (match Instr.fill (fun x => places[x]?) Tryz.zeroCells149 qs.toList with
        | some cells => pure (Value.agg cells)
        | x => stuck "build: no such field, or a part of the wrong size") w = _
  cases Instr.fill (fun x => places[x]?) Tryz.zeroCells149 qs.toList <;> rfl
theorem build_all {a b c e : List Int} {x : Bool} (ha : a.length = 128) (hb : b.length = 128) (hc : c.length = 128) (he : e.length = 128) (w : World) :
    (Instr.build 149 #[(0, .agg (b8s a).toArray), (1, .agg (b8s b).toArray), (2, .agg (b8s c).toArray), (3, .agg (b8s e).toArray), (4, .bool x)]).run Tryz.prog w = .ok (.agg (⟨a, b, c, e, x⟩ : Cel).vals.toArray) w := by
  rw [build_places]
  have hz : z128.length = 128 := rfl
  have L : ∀ (c : Cel), c.Fine → c.vals.toArray.size = 513 := fun c h => by rw [List.size_toArray, Cel.vals_length h]
  have S : ∀ (l : List Int), l.length = 128 → (Value.agg (b8s l).toArray).cells.size = 128 := fun l h => by
    show (b8s l).toArray.size = 128
    rw [List.size_toArray, b8s_length, h]
  have f0 : (Cel.zero).Fine := Cel.zero_fine
  have f1 : (⟨a, z128, z128, z128, false⟩ : Cel).Fine := ⟨ha, rfl, rfl, rfl⟩
  have f2 : (⟨a, b, z128, z128, false⟩ : Cel).Fine := ⟨ha, hb, rfl, rfl⟩
  have f3 : (⟨a, b, c, z128, false⟩ : Cel).Fine := ⟨ha, hb, hc, rfl⟩
  have f4 : (⟨a, b, c, e, false⟩ : Cel).Fine := ⟨ha, hb, hc, he⟩
  have e0 : Tryz.zeroCells149 = Cel.zero.vals.toArray := zero_cel.symm
  have s3 : splice (⟨a, b, z128, z128, false⟩ : Cel).vals 256 (b8s c) = (⟨a, b, c, z128, false⟩ : Cel).vals := by
    have := splice_mid (b8s a ++ b8s b) (b8s z128) (b8s z128 ++ [.bool false]) (b8s c) (off := 256) (by simp [b8s_length, ha, hb]) (by simp [b8s_length, hc, hz])
    simpa [Cel.vals] using this
  have s5 : splice (⟨a, b, c, e, false⟩ : Cel).vals 512 [.bool x] = (⟨a, b, c, e, x⟩ : Cel).vals := by
    have := splice_mid (b8s a ++ (b8s b ++ (b8s c ++ b8s e))) [.bool false] [] [.bool x] (off := 512) (by simp [b8s_length, ha, hb, hc, he]) rfl
    simpa [Cel.vals] using this
  rw [e0]
  rw [fill_one (off := 0) (size := 128) rfl (S a ha) (by rw [L _ f0]; omega)]
  rw [show splice (Cel.zero.vals.toArray).toList 0 (Value.agg (b8s a).toArray).cells.toList = (⟨a, z128, z128, z128, false⟩ : Cel).vals from set_read (c := Cel.zero) f0 ha]
  rw [fill_one (off := 128) (size := 128) rfl (S b hb) (by rw [L _ f1]; omega)]
  rw [show splice ((⟨a, z128, z128, z128, false⟩ : Cel).vals.toArray).toList 128 (Value.agg (b8s b).toArray).cells.toList = (⟨a, b, z128, z128, false⟩ : Cel).vals from set_durable (c := ⟨a, z128, z128, z128, false⟩) f1 hb]
  rw [fill_one (off := 256) (size := 128) rfl (S c hc) (by rw [L _ f2]; omega)]
  rw [show splice ((⟨a, b, z128, z128, false⟩ : Cel).vals.toArray).toList 256 (Value.agg (b8s c).toArray).cells.toList = (⟨a, b, c, z128, false⟩ : Cel).vals from s3]
  rw [fill_one (off := 384) (size := 128) rfl (S e he) (by rw [L _ f3]; omega)]
  rw [show splice ((⟨a, b, c, z128, false⟩ : Cel).vals.toArray).toList 384 (Value.agg (b8s e).toArray).cells.toList = (⟨a, b, c, e, false⟩ : Cel).vals from set_written (c := ⟨a, b, c, z128, false⟩) f3 he]
  rw [fill_one (off := 512) (size := 1) rfl (show (Value.bool x).cells.size = 1 from rfl) (by rw [L _ f4]; omega)]
  rw [show splice ((⟨a, b, c, e, false⟩ : Cel).vals.toArray).toList 512 (Value.bool x).cells.toList = (⟨a, b, c, e, x⟩ : Cel).vals from s5]
  rfl
theorem cel_store_all {E : Env} {q : HP} {w : World} {b : Nat} {c : Cel} (h : Sat E w (HP.cel b c * q)) (hf : c.Fine) {c' : Cel} (hf' : c'.Fine) :
    ∃ w', (storeVar 149 ⟨b, 0, none⟩ (.agg c'.vals.toArray)).run Tryz.prog w = .ok () w' ∧ Sat E w' (HP.cel b c' * q) := by
  have h1 : Sat E w (HP.pt b (.cells c.vals.toArray 149) * q) := h
  have hr := run_storeAgg agCel (g := b) (off := 0) (cs := c'.vals) h1.get (Cel.vals_length hf') (by simp [Cel.vals_length hf]) (Cel.vals_one c')
  refine ⟨_, hr, ?_⟩
  have h2 := h1.splice (splice c.vals 0 c'.vals)
  have e : splice c.vals 0 c'.vals = c'.vals := by
    unfold splice
    rw [List.drop_eq_nil_of_le (by rw [Cel.vals_length hf, Cel.vals_length hf']; omega)]
    simp
  rw [show splice c.vals.toArray.toList 0 c'.vals = c'.vals from e]
  rw [e] at h2
  exact h2
def HP.cels (l : List (Nat × Cel)) : HP := HP.all (l.map fun x => HP.cel x.1 x.2)
def celPtrs (l : List (Nat × Cel)) : List Value := l.map fun x => .pointer (some ⟨x.1, 0, none⟩)
theorem take_file {E : Env} {q : HP} {w : World} {d m : Nat} {A : Dk} {es : Array MapEntry} {clock : Nat} {fs : List Fil} (hv : View A es clock fs) (hw : Sat E w (HP.dk d A.room A.fuse m es clock fs * q)) {j : Nat} {f : Fil} (hj : fs[j]? = some f) :
    ∃ R : HP, Sat E w (HP.row 145 1 f.val f.cels.length (celPtrs f.cels) * (HP.cels f.cels * R)) ∧
      ∀ (w' : World) (cels' : List (Nat × Cel)), cels'.map (·.1) = f.cels.map (·.1) → (∀ x ∈ cels', x.2.Fine) → Sat E w' (HP.row 145 1 f.val f.cels.length (celPtrs f.cels) * (HP.cels cels' * R)) →
        View (A.set f.name (cels'.map (·.2))) es clock (fs.set j ⟨f.name, f.val, cels'⟩) ∧ Sat E w' (HP.dk d A.room A.fuse m es clock (fs.set j ⟨f.name, f.val, cels'⟩) * q) := by
  have h1 := dk_parts hw
  have h2 : Sat E w (HP.all (fs.map HP.fil) * (HP.dsk d A.room A.fuse m * (HP.pt m (.map es clock) * q))) := h1.perm (by ac_rfl)
  rw [all_take (l := fs.map HP.fil) (j := j) (p := HP.fil f) (by rw [List.getElem?_map, hj]; rfl)] at h2
  refine ⟨HP.all ((fs.map HP.fil).eraseIdx j) * (HP.dsk d A.room A.fuse m * (HP.pt m (.map es clock) * q)), h2.perm (by unfold HP.fil HP.cels Fil.ptrs celPtrs; ac_rfl), fun w' cels' hfst hfine h => ?_⟩
  have hjl : j < fs.length := (List.getElem?_eq_some_iff.1 hj).1
  have hlen : cels'.length = f.cels.length := by simpa using congrArg List.length hfst
  have hne : cels' ≠ [] := by
    intro h0
    have := (hv.fine.named _ (hv.mem (List.mem_of_getElem? hj))).2
    rw [h0] at hlen
    simp only [List.length_nil] at hlen
    have h9 : f.cels = [] := List.eq_nil_of_length_eq_zero hlen.symm
    exact this (by simp [Fil.cs, h9])
  have hv' := hv.set hj (v := f.val) (cels := cels') hne hfine (by have := hv.fine.fits; rw [hlen]; omega)
  have hkv := hv.map.2.1
  have hes : (es.modify j fun e => { e with key := Value.string f.name, val := f.val }) = es := by
    apply Array.toList_inj.1
    rw [Array.toList_modify]
    apply List.ext_getElem?
    intro i
    rw [List.getElem?_modify]
    by_cases hi : j = i
    · subst hi
      have h6 := congrArg (fun l => l[j]?) hkv
      simp only [List.getElem?_map, hj, Option.map_some] at h6
      cases h7 : es.toList[j]? with
      | none => rw [h7] at h6; cases h6
      | some e =>
        rw [h7] at h6
        simp only [Option.map_some, Option.some.injEq, Prod.mk.injEq] at h6
        simp only [if_true, Option.map_some, Option.map_eq_map, ← h6.1, ← h6.2]
    · simp [hi]
  rw [hes] at hv'
  refine ⟨hv', ?_⟩
  unfold HP.dk
  rw [all_take (l := (fs.set j (⟨f.name, f.val, cels'⟩ : Fil)).map HP.fil) (j := j) (p := HP.fil ⟨f.name, f.val, cels'⟩) (by rw [List.getElem?_map, List.getElem?_set]; simp [hjl])]
  rw [List.map_set, List.eraseIdx_set_eq]
  have hp : (⟨f.name, f.val, cels'⟩ : Fil).ptrs = celPtrs f.cels := by
    show cels'.map (fun x => Value.pointer (some ⟨x.1, 0, none⟩)) = _
    unfold celPtrs
    have := congrArg (List.map fun b : Nat => Value.pointer (some ⟨b, 0, none⟩)) hfst
    simpa [List.map_map, Function.comp_def] using this
  have e1 : HP.fil ⟨f.name, f.val, cels'⟩ = HP.row 145 1 f.val f.cels.length (celPtrs f.cels) * HP.cels cels' := by
    unfold HP.fil HP.cels
    rw [hp]
    show HP.row 145 1 f.val cels'.length _ * _ = _
    rw [hlen]
  rw [e1]
  exact h.perm (by ac_rfl)
theorem cels_take {E : Env} {q : HP} {w : World} {l : List (Nat × Cel)} (hw : Sat E w (HP.cels l * q)) {k : Nat} {x : Nat × Cel} (hk : l[k]? = some x) :
    ∃ R : HP, Sat E w (HP.cel x.1 x.2 * R) ∧ (∀ w, Sat E w R → Sat E w q) ∧ ∀ (w' : World) (c' : Cel), Sat E w' (HP.cel x.1 c' * R) → Sat E w' (HP.cels (l.set k (x.1, c')) * q) := by
  unfold HP.cels at hw ⊢
  have hkl : k < l.length := (List.getElem?_eq_some_iff.1 hk).1
  rw [all_take (l := l.map fun x => HP.cel x.1 x.2) (j := k) (p := HP.cel x.1 x.2) (by rw [List.getElem?_map, hk]; rfl)] at hw
  refine ⟨_, hw.perm (HP.mul_assoc _ _ _), fun w h => h.right, fun w' c' h => ?_⟩
  rw [all_map_set (fun x : Nat × Cel => HP.cel x.1 x.2) l k (x.1, c') hkl]
  exact h.perm (by ac_rfl)
theorem Cel.syncd_fine {c : Cel} (h : c.Fine) : c.syncd.Fine := by
  unfold Cel.syncd
  split
  · exact ⟨h.2.2.2, h.2.2.2, h.2.2.2, h.2.2.2⟩
  · exact h
def syncPre (l : List (Nat × Cel)) (k : Nat) : List (Nat × Cel) := (l.take k).map (fun x => (x.1, x.2.syncd)) ++ l.drop k
theorem syncPre_at {l : List (Nat × Cel)} {k : Nat} (h : k < l.length) : (syncPre l k)[k]? = some l[k] := by
  unfold syncPre
  rw [List.getElem?_append_right (by simp; omega)]
  simp [List.length_take, Nat.min_eq_left (Nat.le_of_lt h), List.getElem?_drop, h]
theorem syncPre_next {l : List (Nat × Cel)} {k : Nat} (h : k < l.length) : (syncPre l k).set k ((l[k]).1, (l[k]).2.syncd) = syncPre l (k + 1) := by
  unfold syncPre
  rw [List.set_append_right _ _ (by simp; omega)]
  have e : ((l.take k).map fun x => (x.1, x.2.syncd)).length = k := by simp; omega
  rw [e, Nat.sub_self, List.drop_eq_getElem_cons h, List.set_cons_zero, List.take_succ_eq_append_getElem h, List.map_append]
  simp
theorem syncPre_all (l : List (Nat × Cel)) : syncPre l l.length = l.map (fun x => (x.1, x.2.syncd)) := by simp [syncPre]
theorem syncPre_zero (l : List (Nat × Cel)) : syncPre l 0 = l := by simp [syncPre]
set_option maxHeartbeats 2000000 in
set_option maxRecDepth 100000 in
theorem disk_sync (E : Env) (q : HP) (d : Nat) (A : Dk) (name : ByteArray) (w : World) (hn : name.size ≤ maxLen) (hw : Sat E w (HP.disk d A * q)) :
    Calls Tryz.prog 64 #[.pointer (some ⟨d, 0, none⟩), .string name] w fun e w' => e = .returned (.int .i64 (A.sync name).1) ∧ Sat E w' (HP.disk d (A.sync name).2 * q) := by
  obtain ⟨m, es, clock, fs, hv, hd⟩ := hw.disk_open
  have hsm := at_small hv.fine name
  have hfu := hv.fine.fuse
  have HF : Aside (A.sync name = match lk A.files name with
    | none => (30, A)
    | some l => if A.goes = false then (31, A.burnt) else (0, A.burnt.set name (l.map Cel.syncd))) := ⟨rfl⟩
  clear hw
  go_enter Tryz.func64, Tryz.ntmps64
  go_wp2_with fail
  refine (disk_none E _ d _ _ m w (dk_parts hd)).mono ?_
  rintro e w1 ⟨rfl, rfl⟩
  have c1 := (dk_parts hd).cell 1
  simp only [List.getElem?_toArray, List.getElem?_cons_zero, List.getElem?_cons_succ] at c1
  obtain ⟨v, B, cc, hvB, -, hlook, hcase⟩ := find_file hv hd name hn
  rcases hcase with ⟨hlk, -⟩ | ⟨j, f, hj, hname, hfv, hlk⟩
  · rw [hlk] at HF hlook
    have HT : Aside (A.sync name = (30, A) ∧ Sat E w1 (HP.disk d A * q)) := ⟨HF.out, Sat.disk_close hv hd⟩
    clear HF hd hv hlk hvB hfu hsm
    go_wp2
    go_ret
    rw [HT.out.1]
    exact ⟨rfl, HT.out.2⟩
  · rw [hlk] at HF hlook
    subst hname
    have hat : A.at f.name = f.cs := by simp [Dk.at, hlk]
    rw [hat, Fil.cs, List.length_map] at hvB hsm
    have HV := Aside.mk (And.intro hv (And.intro hj (And.intro hfv hvB)))
    rw [hvB] at hlook
    clear hlk hat hv hj hfv hvB
    go_wp2_with fail
    refine (disk_burn E _ d _ _ m w1 hfu.2 (dk_parts hd)).mono ?_
    rintro e w3 ⟨rfl, hd3⟩
    cases hgo : A.goes with
    | false =>
      have hgo' : (burnI A.fuse).2 = false := hgo
      rw [hgo']
      have HT : Aside (A.sync f.name = (31, A.burnt) ∧ Sat E w3 (HP.disk d A.burnt * q)) := ⟨by rw [HF.out]; simp [hgo], Sat.disk_close HV.out.1.burnt (burnt_dsk hd3)⟩
      clear HF hd hd3 HV hgo hgo' hfu hsm hlook c1
      go_wp2
      go_ret
      rw [HT.out.1]
      exact ⟨rfl, HT.out.2⟩
    | true =>
      have hgo' : (burnI A.fuse).2 = true := hgo
      rw [hgo']
      have HS : Aside (A.sync f.name = (0, A.burnt.set f.name (f.cs.map Cel.syncd))) := ⟨by rw [HF.out]; simp [hgo]⟩
      obtain ⟨hv, hj, hfv, hvB⟩ := HV.out
      obtain ⟨R, h4, hclose⟩ := take_file hv.burnt (burnt_dsk hd3) hj
      rw [hfv, hvB] at h4 hclose
      have HFine : Aside (∀ x ∈ f.cels, x.2.Fine) := ⟨fun x hx => hv.cel_fine (List.mem_of_getElem? hj) hx⟩
      have HC := Aside.mk hclose
      have H4 := Aside.mk h4
      clear hclose h4 HF hd hd3 HV hgo hgo' hfu hlook c1 hv hj hfv hvB
      obtain ⟨n, hnn⟩ : ∃ n, n = f.cels.length := ⟨_, rfl⟩
      rw [← hnn] at H4 HC hsm ⊢
      have HN := Aside.mk hnn
      clear hnn
      go_wp2
      go_loopw [29] (fun x wr => ∃ k : Nat, x = .int .i64 k ∧ k ≤ n ∧ Aside (Sat E wr (HP.row 145 1 (.slice B n cc) n (celPtrs f.cels) * (HP.cels (syncPre f.cels k) * R)))) (fun x _ => n - (intOf x).toNat)
      case atStart => exact ⟨0, rfl, Nat.zero_le _, ⟨by rw [syncPre_zero]; exact H4.out⟩⟩
      case round =>
        clear H4
        obtain ⟨k, rfl, hk, HR⟩ := hrel
        by_cases hlt : k < n
        · have hkf : k < f.cels.length := by have := HN.out; omega
          have hrow := HR.out
          obtain ⟨pa, hpa, hcx⟩ := hrow.row_cells.at_ k (by simp [celPtrs, hkf])
          obtain ⟨g, o, rfl⟩ : ∃ g o, pa = ⟨g, o, none⟩ := slice_addr hrow.row_cells hpa (k := k) (by simp [celPtrs, hkf])
          subst hpa
          rw [addr_add] at hcx
          simp only [celPtrs, List.getElem_map] at hcx
          obtain ⟨Rk, h5, -, hback⟩ := cels_take (hrow.s2) (syncPre_at hkf)
          have hxf : (f.cels[k]).2.Fine := HFine.out _ (List.getElem_mem hkf)
          have hnext : Aside (∀ w', Sat E w' (HP.cel (f.cels[k]).1 (f.cels[k]).2.syncd * Rk) → Sat E w' (HP.row 145 1 (.slice (some ⟨g, o, none⟩) n cc) n (celPtrs f.cels) * (HP.cels (syncPre f.cels (k + 1)) * R))) := ⟨fun w' h => by
            have := hback w' _ h
            rw [syncPre_next hkf] at this
            exact this.s2⟩
          generalize f.cels[k] = x at *
          obtain ⟨bk, c⟩ := x
          dsimp only at *
          have cw := cel_waits h5 hxf
          have hk0 : (0 : Int) ≤ (k : Int) := by omega
          have hk1 : (k : Int) < (n : Int) := by omega
          clear HR hrow hback
          cases hcw : c.waits with
          | true =>
            rw [hcw] at cw
            have hld := run_loadAgg agImg (by rw [b8s_length, hxf.2.2.2]) (cel_written h5.drew hxf)
            have hsy : c.syncd = ⟨c.written, c.written, c.written, c.written, false⟩ := by simp [Cel.syncd, hcw]
            have hbd := build_all (x := false) hxf.2.2.2 hxf.2.2.2 hxf.2.2.2 hxf.2.2.2 wr.drew
            obtain ⟨w6, hst, h6⟩ := cel_store_all h5.drew hxf (Cel.syncd_fine hxf)
            rw [hsy] at hst
            have HH := Aside.mk (hnext.out _ h6)
            generalize (b8s c.written).toArray = img at *
            generalize (⟨c.written, c.written, c.written, c.written, false⟩ : Cel).vals.toArray = cv at *
            clear hnext h5 h6 hxf hcw hsy
            go_wp2
            refine region_R [19] [] (fun _ => True) #[false, false, false, false, false, false, false, false, false, false, false, false, false, false, false, false, false, false, false, false] (by kernel_rfl) rfl rfl ?_
            refine wpR_rd 0 #[true, false, false, false, false, false, false, false, false, false, false, false, false, false, false, false, false, false, false, false] rfl onlyN_noPanic (by kernel_rfl) (fun K hK => ?_); (go_simp; try go_bits); refine hK _ ?_; clear hK K
            refine wpR_rd 1 #[true, true, false, false, false, false, false, false, false, false, false, false, false, false, false, false, false, false, false, false] rfl onlyN_noPanic (by kernel_rfl) (fun K hK => ?_); (go_simp; try go_bits); refine hK _ ?_; clear hK K
            refine wpR_rd 2 #[true, true, true, false, false, false, false, false, false, false, false, false, false, false, false, false, false, false, false, false] rfl onlyN_noPanic (by kernel_rfl) (fun K hK => ?_); (go_simp; try go_bits); refine hK _ ?_; clear hK K
            refine wpR_rd 3 #[true, true, true, true, false, false, false, false, false, false, false, false, false, false, false, false, false, false, false, false] rfl onlyN_noPanic (by kernel_rfl) (fun K hK => ?_); (go_simp; try go_bits); refine hK _ ?_; clear hK K
            refine wpR_read (i := 4) #[true, true, true, true, true, false, false, false, false, false, false, false, false, false, false, false, false, false, false, false] rfl onlyN_noPanic (by kernel_rfl) (.inl ⟨rfl, exec_load rfl rfl hld⟩) ?_
            simp only [Act.put, List.setIfInBounds_toArray, List.set_cons_zero, List.set_cons_succ]
            refine wpR_rd 5 #[true, true, true, true, true, true, false, false, false, false, false, false, false, false, false, false, false, false, false, false] rfl onlyN_noPanic (by kernel_rfl) (fun K hK => ?_); (go_simp; try go_bits); refine hK _ ?_; clear hK K
            refine wpR_rd 6 #[true, true, true, true, true, true, true, false, false, false, false, false, false, false, false, false, false, false, false, false] rfl onlyN_noPanic (by kernel_rfl) (fun K hK => ?_); (go_simp; try go_bits); refine hK _ ?_; clear hK K
            refine wpR_rd 7 #[true, true, true, true, true, true, true, true, false, false, false, false, false, false, false, false, false, false, false, false] rfl onlyN_noPanic (by kernel_rfl) (fun K hK => ?_); (go_simp; try go_bits); refine hK _ ?_; clear hK K
            refine wpR_read (i := 8) #[true, true, true, true, true, true, true, true, true, false, false, false, false, false, false, false, false, false, false, false] rfl onlyN_noPanic (by kernel_rfl) (.inl ⟨rfl, exec_load rfl rfl hld⟩) ?_
            simp only [Act.put, List.setIfInBounds_toArray, List.set_cons_zero, List.set_cons_succ]
            refine wpR_rd 9 #[true, true, true, true, true, true, true, true, true, true, false, false, false, false, false, false, false, false, false, false] rfl onlyN_noPanic (by kernel_rfl) (fun K hK => ?_); (go_simp; try go_bits); refine hK _ ?_; clear hK K
            refine wpR_rd 10 #[true, true, true, true, true, true, true, true, true, true, true, false, false, false, false, false, false, false, false, false] rfl onlyN_noPanic (by kernel_rfl) (fun K hK => ?_); (go_simp; try go_bits); refine hK _ ?_; clear hK K
            refine wpR_rd 11 #[true, true, true, true, true, true, true, true, true, true, true, true, false, false, false, false, false, false, false, false] rfl onlyN_noPanic (by kernel_rfl) (fun K hK => ?_); (go_simp; try go_bits); refine hK _ ?_; clear hK K
            refine wpR_read (i := 12) #[true, true, true, true, true, true, true, true, true, true, true, true, true, false, false, false, false, false, false, false] rfl onlyN_noPanic (by kernel_rfl) (.inl ⟨rfl, exec_load rfl rfl hld⟩) ?_
            simp only [Act.put, List.setIfInBounds_toArray, List.set_cons_zero, List.set_cons_succ]
            refine wpR_rd 13 #[true, true, true, true, true, true, true, true, true, true, true, true, true, true, false, false, false, false, false, false] rfl onlyN_noPanic (by kernel_rfl) (fun K hK => ?_); (go_simp; try go_bits); refine hK _ ?_; clear hK K
            refine wpR_rd 14 #[true, true, true, true, true, true, true, true, true, true, true, true, true, true, true, false, false, false, false, false] rfl onlyN_noPanic (by kernel_rfl) (fun K hK => ?_); (go_simp; try go_bits); refine hK _ ?_; clear hK K
            refine wpR_rd 15 #[true, true, true, true, true, true, true, true, true, true, true, true, true, true, true, true, false, false, false, false] rfl onlyN_noPanic (by kernel_rfl) (fun K hK => ?_); (go_simp; try go_bits); refine hK _ ?_; clear hK K
            refine wpR_read (i := 16) #[true, true, true, true, true, true, true, true, true, true, true, true, true, true, true, true, true, false, false, false] rfl onlyN_noPanic (by kernel_rfl) (.inl ⟨rfl, exec_load rfl rfl hld⟩) ?_
            simp only [Act.put, List.setIfInBounds_toArray, List.set_cons_zero, List.set_cons_succ]
            refine wpR_read (i := 17) #[true, true, true, true, true, true, true, true, true, true, true, true, true, true, true, true, true, true, false, false] rfl onlyN_noPanic (by kernel_rfl) (.inl ⟨rfl, exec_build rfl (by simp only [List.map_toArray, List.map_cons, List.map_nil]; exact hbd)⟩) ?_
            simp only [Act.put, List.setIfInBounds_toArray, List.set_cons_zero, List.set_cons_succ]
            refine wpR_rd 18 #[true, true, true, true, true, true, true, true, true, true, true, true, true, true, true, true, true, true, true, false] rfl onlyN_noPanic (by kernel_rfl) (fun K hK => ?_); (go_simp; try go_bits); refine hK _ ?_; clear hK K
            refine wpR_eff #[true, true, true, true, true, true, true, true, true, true, true, true, true, true, true, true, true, true, true, true] (i := 19) rfl (by kernel_rfl) (fun K hK => ?_)
            refine Eq.mpr (if_pos (by rfl)) ?_; refine wp_store_run rfl rfl rfl rfl hst ?_; refine hK _ _ ?_; clear hK K
            refine wpR_done (by kernel_rfl) ?_ _
            simp only [OnlyN]
            go_wp2
            go_roundw
            case rel => exact ⟨k + 1, by go_num, by omega, HH⟩
            case measure => simp [intOf]; omega
          | false =>
            rw [hcw] at cw
            have hsy : c.syncd = c := by simp [Cel.syncd, hcw]
            rw [hsy] at hnext
            have HH := Aside.mk (hnext.out _ h5)
            clear hnext h5 hxf hcw hsy
            go_wp2
            go_roundw
            case rel => exact ⟨k + 1, by go_num, by omega, HH⟩
            case measure => simp [intOf]; omega
        · have hkn : k = f.cels.length := by have := HN.out; omega
          have HT : Aside (A.sync f.name = (0, A.burnt.set f.name (f.cs.map Cel.syncd)) ∧ Sat E wr (HP.disk d (A.burnt.set f.name (f.cs.map Cel.syncd)) * q)) := ⟨HS.out, by
            have h7 := HR.out
            rw [hkn, syncPre_all] at h7
            have h8 := HC.out wr _ (by simp) (fun x hx => by
              obtain ⟨y, hy, rfl⟩ := List.mem_map.1 hx
              exact Cel.syncd_fine (HFine.out y hy)) h7
            have e : (f.cels.map fun x => (x.1, x.2.syncd)).map (·.2) = f.cs.map Cel.syncd := by simp [Fil.cs]
            rw [e] at h8
            exact Sat.disk_close h8.1 h8.2⟩
          clear HR HC HN HS HFine
          go_wp2
          go_ret
          rw [HT.out.1]
          exact ⟨rfl, HT.out.2⟩
end Go.Proofs.YtnpinegpajbkeaaGreatDoor
namespace Go.Proofs.YtnpinegpajbkeaaGreatDoor
open Go.RowKit HP
section
variable {P : Program} {t k e : TypeId} {w : World} {b : Nat} {es : Array MapEntry} {clock : Nat}
def KeysOk (P : Program) (k : TypeId) (es : Array MapEntry) : Prop := ∀ x ∈ es.toList, ∃ l, keyOf P k x.key = some l
theorem lookup_law (K : WideMaps.KeyLaw P k) (ht : P.underlying t = some (.map k e)) {z : Value} (hz : (zeroValue e).run P w = .ok z w)
    (hb : w.heap[b]? = some (.map es clock)) (hes : KeysOk P k es) {key : Value} {kl : Lit} (hkey : keyOf P k key = some kl) :
    ((Instr.lookup t (.map (some b)) key false).run P w = .ok z w ∧ (Instr.lookup t (.map (some b)) key true).run P w = .ok (.tuple #[z, .bool false]) w ∧ ∀ x ∈ es.toList, x.key ≠ key) ∨
    ∃ (j : Nat) (x : MapEntry), es.toList[j]? = some x ∧ x.key = key ∧ (Instr.lookup t (.map (some b)) key false).run P w = .ok x.val w ∧ (Instr.lookup t (.map (some b)) key true).run P w = .ok (.tuple #[x.val, .bool true]) w := by
  rcases K.find w hkey es.toList hes with ⟨h1, h2⟩ | ⟨j, x, h1, h2, h3⟩
  · refine .inl ⟨?_, ?_, h2⟩
    · simp [Instr.lookup, run_underlying ht, MapKept.run_getObj_map hb, K.check w _ hkey, h1, hz, Result.andThen]
    · simp [Instr.lookup, run_underlying ht, MapKept.run_getObj_map hb, K.check w _ hkey, h1, hz, Result.andThen]
  · refine .inr ⟨j, x, h2, h3, ?_, ?_⟩
    · simp [Instr.lookup, run_underlying ht, MapKept.run_getObj_map hb, K.check w _ hkey, h1, Result.andThen]
    · simp [Instr.lookup, run_underlying ht, MapKept.run_getObj_map hb, K.check w _ hkey, h1, Result.andThen]
theorem update_law (K : WideMaps.KeyLaw P k) (ht : P.underlying t = some (.map k e)) (hb : w.heap[b]? = some (.map es clock)) (hes : KeysOk P k es) {key : Value} {kl : Lit} (hkey : keyOf P k key = some kl) (v : Value) :
    ((∀ x ∈ es.toList, x.key ≠ key) ∧ (Instr.mapUpdate t (.map (some b)) key v).run P w = .ok () (ChangeMaps.setBlock w b (.map (es.push ⟨key, v, clock⟩) (clock + 1)))) ∨
    ∃ (j : Nat) (x : MapEntry), es.toList[j]? = some x ∧ x.key = key ∧ (Instr.mapUpdate t (.map (some b)) key v).run P w = .ok () (ChangeMaps.setBlock w b (.map (es.modify j fun e => { e with key := key, val := v }) clock)) := by
  rcases K.find w hkey es.toList hes with ⟨h1, h2⟩ | ⟨j, x, h1, h2, h3⟩
  · exact .inl ⟨h2, by simp [Instr.mapUpdate, run_underlying ht, MapKept.run_getObj_map hb, K.check w _ hkey, h1, MapKept.run_setObj_map _ hb, Result.andThen, ChangeMaps.setBlock]⟩
  · have hj : es[j]? = some x := by simpa using h2
    exact .inr ⟨j, x, h2, h3, by simp [Instr.mapUpdate, run_underlying ht, MapKept.run_getObj_map hb, K.check w _ hkey, h1, hj, h3, K.stays w hkey, MapKept.run_setObj_map _ hb, Result.andThen, ChangeMaps.setBlock]⟩
end
def spotV (s : ByteArray) (i : Int) : Value := .agg #[.string s, .int .i64 i]
def wf64 (i : Int) : Prop := -9223372036854775808 ≤ i ∧ i ≤ 9223372036854775807
theorem wf64_lit {i : Int} (h : wf64 i) : (Lit.int .i64 i).wf = true := by
  obtain ⟨h1, h2⟩ := h
  simp [Lit.wf, IntKind.min, IntKind.max, IntKind.signed, IntKind.bits]
  omega
theorem spot_keyType : Tryz.prog.keyType 68 = true := by kernel_rfl
theorem laid_prog : laidOutB Tryz.prog = true := by kernel_rfl
theorem spot_law : WideMaps.KeyLaw Tryz.prog 68 := deep_law_gate laid_prog (of_decide_eq_true (by kernel_rfl)) (of_decide_eq_true (by kernel_rfl)) spot_keyType (by kernel_rfl)
theorem spot_key {s : ByteArray} {i : Int} (hs : s.size ≤ maxLen) (hi : wf64 i) : ∃ l, keyOf Tryz.prog 68 (spotV s i) = some l := by
  have hu := Tryz.underlying68
  have hw := wf64_lit hi
  have c1 : Tryz.prog.cellsOf 68 = 2 := by kernel_rfl
  have c2 : Tryz.prog.cellsOf 9 = 1 := by kernel_rfl
  have c3 : Tryz.prog.cellsOf 3 = 1 := by kernel_rfl
  obtain ⟨m, hm⟩ : ∃ m, Tryz.prog.types.size = m + 1 := ⟨Tryz.prog.types.size - 1, by kernel_rfl⟩
  unfold keyOf spotV
  simp only [hu]
  rw [if_pos (by simp [spot_keyType, Value.formed, hu, c1])]
  unfold Program.keyLits
  simp only [hu, Value.cells]
  rw [if_pos ⟨by rw [c1]; rfl, by kernel_rfl⟩, hm]
  simp only [List.mapM_cons, List.mapM_nil]
  simp [Program.keyLits, Tryz.underlying9, Tryz.underlying3, c2, c3, hs, hw]
theorem spotV_inj {s t : ByteArray} {i j : Int} (h : spotV s i = spotV t j) : s = t ∧ i = j := by
  unfold spotV at h
  simp only [Value.agg.injEq, Array.mk.injEq, List.cons.injEq, Value.string.injEq, Value.int.injEq, and_true, true_and] at h
  first
    | exact h
    | simpa using h
structure SpotMap (es : Array MapEntry) (f : ByteArray → Int → Int) : Prop where
  keys : ∀ x ∈ es.toList, ∃ s i, x.key = spotV s i ∧ s.size ≤ maxLen ∧ wf64 i ∧ x.val = .int .i64 (f s i)
  none : ∀ s i, (∀ x ∈ es.toList, x.key ≠ spotV s i) → f s i = 0
  apart : ∀ (i j : Nat) (x y : MapEntry), es.toList[i]? = some x → es.toList[j]? = some y → x.key = y.key → i = j
theorem SpotMap.empty : SpotMap #[] (fun _ _ => 0) := ⟨fun x hx => by simp at hx, fun _ _ _ => rfl, fun i j x y h => by simp at h⟩
theorem SpotMap.ok {es : Array MapEntry} {f : ByteArray → Int → Int} (h : SpotMap es f) : KeysOk Tryz.prog 68 es := fun x hx => by
  obtain ⟨s, i, hk, hs, hi, _⟩ := h.keys x hx
  rw [hk]; exact spot_key hs hi
open Classical in
noncomputable def spotPut (f : ByteArray → Int → Int) (s : ByteArray) (i v : Int) : ByteArray → Int → Int := fun t j => if t = s ∧ j = i then v else f t j
theorem SpotMap.push {es : Array MapEntry} {f : ByteArray → Int → Int} (h : SpotMap es f) {s : ByteArray} {i v : Int} {clock : Nat} (hs : s.size ≤ maxLen) (hi : wf64 i) (hn : ∀ x ∈ es.toList, x.key ≠ spotV s i) : SpotMap (es.push ⟨spotV s i, .int .i64 v, clock⟩) (spotPut f s i v) := by
  refine ⟨fun x hx => ?_, fun t j hno => ?_, fun a b x y hx hy he => ?_⟩
  · simp only [Array.toList_push, List.mem_append, List.mem_singleton] at hx
    rcases hx with hx | rfl
    · obtain ⟨t, j, hk, ht, hj, hv⟩ := h.keys x hx
      refine ⟨t, j, hk, ht, hj, ?_⟩
      have hne : ¬ (t = s ∧ j = i) := fun ⟨h1, h2⟩ => hn x hx (by rw [hk, h1, h2])
      simp only [spotPut, if_neg hne, hv]
    · exact ⟨s, i, rfl, hs, hi, by simp [spotPut]⟩
  · have h1 : ∀ x ∈ es.toList, x.key ≠ spotV t j := fun x hx => hno x (by simp [Array.toList_push, hx])
    have h2 : spotV s i ≠ spotV t j := hno ⟨spotV s i, .int .i64 v, clock⟩ (by simp [Array.toList_push])
    have hne : ¬ (t = s ∧ j = i) := fun ⟨h3, h4⟩ => h2 (by rw [h3, h4])
    simp only [spotPut, if_neg hne]
    exact h.none t j h1
  · rw [Array.toList_push, List.getElem?_append] at hx hy
    split at hx <;> split at hy
    · exact h.apart a b x y hx hy he
    · rename_i h1 h2
      have : y = ⟨spotV s i, .int .i64 v, clock⟩ := by
        rcases Nat.eq_or_lt_of_le (Nat.le_of_not_lt h2) with h3 | h3
        · rw [← h3, Nat.sub_self] at hy; simpa using hy.symm
        · rw [List.getElem?_eq_none (by simp only [List.length_cons, List.length_nil]; omega)] at hy; cases hy
      subst this
      exact absurd he (hn x (List.mem_of_getElem? hx))
    · rename_i h1 h2
      have : x = ⟨spotV s i, .int .i64 v, clock⟩ := by
        rcases Nat.eq_or_lt_of_le (Nat.le_of_not_lt h1) with h3 | h3
        · rw [← h3, Nat.sub_self] at hx; simpa using hx.symm
        · rw [List.getElem?_eq_none (by simp only [List.length_cons, List.length_nil]; omega)] at hx; cases hx
      subst this
      exact absurd he.symm (hn y (List.mem_of_getElem? hy))
    · rename_i h1 h2
      have e1 : a = es.toList.length := by
        rcases Nat.eq_or_lt_of_le (Nat.le_of_not_lt h1) with h3 | h3
        · exact h3.symm
        · rw [List.getElem?_eq_none (by simp only [List.length_cons, List.length_nil]; omega)] at hx; cases hx
      have e2 : b = es.toList.length := by
        rcases Nat.eq_or_lt_of_le (Nat.le_of_not_lt h2) with h3 | h3
        · exact h3.symm
        · rw [List.getElem?_eq_none (by simp only [List.length_cons, List.length_nil]; omega)] at hy; cases hy
      omega
theorem SpotMap.set {es : Array MapEntry} {f : ByteArray → Int → Int} (h : SpotMap es f) {s : ByteArray} {i v : Int} {j : Nat} {x0 : MapEntry} (hj : es.toList[j]? = some x0) (hx0 : x0.key = spotV s i) : SpotMap (es.modify j fun e => { e with key := spotV s i, val := .int .i64 v }) (spotPut f s i v) := by
  obtain ⟨s', i', hk, hs, hi, -⟩ := h.keys x0 (List.mem_of_getElem? hj)
  obtain ⟨rfl, rfl⟩ := spotV_inj (hk.symm.trans hx0)
  have hat : ∀ a, (es.modify j fun e => { e with key := spotV s' i', val := .int .i64 v }).toList[a]? = if j = a then (es.toList[a]?).map (fun e => { e with key := spotV s' i', val := .int .i64 v }) else es.toList[a]? := by
    intro a
    rw [Array.toList_modify, List.getElem?_modify]
    split <;> simp
  refine ⟨fun x hx => ?_, fun t m hno => ?_, fun a b x y hx hy he => ?_⟩
  · obtain ⟨a, ha⟩ := List.getElem?_of_mem hx
    rw [hat] at ha
    split at ha
    · rename_i he
      subst he
      rw [hj] at ha
      simp only [Option.map_some, Option.some.injEq] at ha
      subst ha
      exact ⟨s', i', rfl, hs, hi, by simp [spotPut]⟩
    · rename_i hne
      obtain ⟨t, m, hk', ht, hm, hv⟩ := h.keys x (List.mem_of_getElem? ha)
      refine ⟨t, m, hk', ht, hm, ?_⟩
      have hne' : ¬ (t = s' ∧ m = i') := fun ⟨h1, h2⟩ => hne (h.apart j a x0 x hj ha (by rw [hx0, hk', h1, h2]))
      simp only [spotPut, if_neg hne', hv]
  · have hne' : ¬ (t = s' ∧ m = i') := fun ⟨h1, h2⟩ => by
      have := hat j
      rw [if_pos rfl, hj] at this
      exact hno _ (List.mem_of_getElem? this) (by rw [h1, h2])
    simp only [spotPut, if_neg hne']
    refine h.none t m fun x hx hke => ?_
    obtain ⟨a, ha⟩ := List.getElem?_of_mem hx
    by_cases hja : j = a
    · subst hja
      rw [hj] at ha; cases ha
      obtain ⟨h1, h2⟩ := spotV_inj (hx0.symm.trans hke)
      exact hne' ⟨h1.symm, h2.symm⟩
    · have := hat a
      rw [if_neg hja, ha] at this
      exact hno x (List.mem_of_getElem? this) hke
  · have key : ∀ (c : Nat) (z : MapEntry), (es.modify j fun e => { e with key := spotV s' i', val := .int .i64 v }).toList[c]? = some z → ∃ z' : MapEntry, es.toList[c]? = some z' ∧ z'.key = z.key := by
      intro c z hz
      rw [hat] at hz
      split at hz
      · rename_i he
        subst he
        rw [hj] at hz
        simp only [Option.map_some, Option.some.injEq] at hz
        subst hz
        exact ⟨x0, hj, hx0⟩
      · exact ⟨z, hz, rfl⟩
    obtain ⟨x', hx', ex⟩ := key a x hx
    obtain ⟨y', hy', ey⟩ := key b y hy
    exact h.apart a b x' y' hx' hy' (by rw [ex, ey, he])
theorem SpotMap.update {es : Array MapEntry} {clock : Nat} {f : ByteArray → Int → Int} (h : SpotMap es f) {w : World} {b : Nat} (hb : w.heap[b]? = some (.map es clock)) {s : ByteArray} {i v : Int} (hs : s.size ≤ maxLen) (hi : wf64 i) :
    ∃ es' clock', (Instr.mapUpdate 181 (.map (some b)) (spotV s i) (.int .i64 v)).run Tryz.prog w = .ok () (ChangeMaps.setBlock w b (.map es' clock')) ∧ SpotMap es' (spotPut f s i v) := by
  obtain ⟨l, hl⟩ := spot_key hs hi
  rcases update_law spot_law Tryz.underlying181 hb h.ok hl (.int .i64 v) with ⟨h1, h2⟩ | ⟨j, x, h1, h2, h3⟩
  · exact ⟨_, _, h2, h.push hs hi h1⟩
  · exact ⟨_, _, h3, h.set h1 h2⟩
theorem SpotMap.lookup {es : Array MapEntry} {clock : Nat} {f : ByteArray → Int → Int} (h : SpotMap es f) {w : World} {b : Nat} (hb : w.heap[b]? = some (.map es clock)) {s : ByteArray} {i : Int} (hs : s.size ≤ maxLen) (hi : wf64 i) :
    (Instr.lookup 181 (.map (some b)) (spotV s i) false).run Tryz.prog w = .ok (.int .i64 (f s i)) w := by
  obtain ⟨l, hl⟩ := spot_key hs hi
  rcases lookup_law spot_law Tryz.underlying181 (z := .int .i64 0) (by kernel_rfl) hb h.ok hl with ⟨h1, -, h2⟩ | ⟨j, x, h1, h2, h3, -⟩
  · rw [h.none s i h2]; exact h1
  · obtain ⟨s', i', hk, -, -, hv⟩ := h.keys x (List.mem_of_getElem? h1)
    obtain ⟨rfl, rfl⟩ := spotV_inj (hk.symm.trans h2)
    rw [h3, hv]
end Go.Proofs.YtnpinegpajbkeaaGreatDoor
namespace Go.Proofs.YtnpinegpajbkeaaGreatDoor
open Go.RowKit HP
section
variable {E : Env} {w w' : World} {p q r : HP}
theorem Sat.exactB {B : Nat} (h : Sat E w (p * q)) (hc : Solid B p) : ∃ k, (∀ b o, k b = some o → w.heap[b]? = some o) ∧ Sat E w (p * HP.is k) ∧
    (∀ (E' : Env) w' p', Sat E' w' (p' * HP.is k) → Sat E' w' (p' * q)) ∧ (∀ b o, B ≤ b → w.heap[b]? = some o → o.isCells = false → k b = some o) := by
  obtain ⟨he, m, hm, h1, h2, hd, hu, hp, hq⟩ := h
  refine ⟨fun b => if h1 b = none then w.heap[b]? else none, fun b o hb => ?_, ?_, ?_, fun b o hB hb ho => ?_⟩
  · dsimp only at hb
    split at hb
    · exact hb
    · cases hb
  · refine ⟨he, fun b => w.heap[b]?, fun _ _ h => h, h1, _, fun b => ?_, fun b => ?_, hp, fun _ => rfl⟩
    · cases e : h1 b with
      | none => exact .inl rfl
      | some o => right; simp
    · cases e : h1 b with
      | none => simp
      | some o => simpa using hm b o (by rw [hu b, e]; rfl)
  · rintro E' w' p' ⟨he', m', hm', k1, k2, hd', hu', hp', hk2⟩
    refine ⟨he', fun b => (k1 b).or (h2 b), fun b o hb => ?_, k1, h2, fun b => ?_, fun _ => rfl, hp', hq⟩
    · rcases Option.or_eq_some_iff.1 hb with e | ⟨e0, e⟩
      · exact hm' b o (by rw [hu' b, e]; rfl)
      · refine hm' b o ?_
        have e1 : h1 b = none := by
          rcases hd b with e2 | e2
          · exact e2
          · rw [e] at e2; cases e2
        have e3 : k2 b = some o := by
          rw [hk2 b]; simp only [e1, if_true]
          exact hm b o (by rw [hu b, e1, e]; rfl)
        rw [hu' b, e0, e3]; rfl
    · cases e : h2 b with
      | none => exact .inr rfl
      | some o =>
        left
        have e1 : h1 b = none := by
          rcases hd b with e2 | e2
          · exact e2
          · rw [e] at e2; cases e2
        have e3 : k2 b = some o := by
          rw [hk2 b]; simp only [e1, if_true]
          exact hm b o (by rw [hu b, e1, e]; rfl)
        rcases hd' b with e2 | e2
        · exact e2
        · rw [e3] at e2; cases e2
  · cases e : h1 b with
    | none => simp [e, hb]
    | some u =>
      have h3 := hm b u (by rw [hu b, e]; rfl)
      rw [hb] at h3; cases h3
      rcases hc h1 hp b o e with h4 | h4
      · rw [ho] at h4; cases h4
      · omega
theorem Sat.keepsB {B : Nat} {k : Nat → Option Obj} (h : Sat E w' (r * HP.is k)) (hk : ∀ b o, B ≤ b → w.heap[b]? = some o → o.isCells = false → k b = some o) (hs : w.heap.size ≤ w'.heap.size) : KeepsFrom B w w' := by
  refine ⟨hs, fun b o hB hb ho => ?_⟩
  obtain ⟨he, m, hm, h1, h2, hd, hu, hp, hq⟩ := h
  have e : h2 b = some o := by rw [hq b]; exact hk b o hB hb ho
  refine hm b o ?_
  rw [hu b]
  rcases hd b with e1 | e1
  · rw [e1, e]; rfl
  · rw [e1] at e; cases e
theorem Sat.grab {B D : Nat} {k : Nat → Option Obj} {o : Obj} (h : Sat E w (p * HP.is k)) (hp : Solid B p) (hk : ∀ b o, k b = some o → b < B) (hB : B ≤ D) (hD : w.heap[D]? = some o) (ho : o.isCells = false) : Sat E w (HP.pt D o * (p * HP.is k)) := by
  obtain ⟨he, m, hm, h1, h2, hd, hu, hp1, hq⟩ := h
  have e1 : h1 D = none := by
    cases e : h1 D with
    | none => rfl
    | some u =>
      have h3 := hm D u (by rw [hu D, e]; rfl)
      rw [hD] at h3; cases h3
      rcases hp h1 hp1 D _ e with h4 | h4
      · rw [ho] at h4; cases h4
      · omega
  have e2 : h2 D = none := by
    cases e : h2 D with
    | none => rfl
    | some u =>
      rw [hq D] at e
      have := hk D u e
      omega
  have eD : m D = none := by rw [hu D, e1, e2]; rfl
  refine ⟨he, fun b => if b = D then some o else m b, fun b u hb => ?_, fun b => if b = D then some o else none, m, fun b => ?_, fun b => ?_, fun b => rfl, h1, h2, hd, hu, hp1, hq⟩
  · by_cases hbD : b = D
    · subst hbD; simp at hb; subst hb; exact hD
    · simp [hbD] at hb; exact hm b u hb
  · by_cases hbD : b = D
    · subst hbD; exact .inr eD
    · simp [hbD]
  · by_cases hbD : b = D
    · subst hbD; simp
    · simp [hbD]
theorem HP.Solid.pt_below {B b : Nat} (h : b < B) (o : Obj) : Solid B (HP.pt b o) := by
  intro k hk c u hc
  rw [hk c] at hc
  split at hc
  · rename_i e; subst e; exact .inr h
  · cases hc
theorem HP.Solid.emp (B : Nat) : Solid B HP.emp := Celled.emp.solid B
def KeepSl (Bs : Nat) (A : Option Addr) (cs : List Value) (W W' : World) : Prop := W'.heap[Bs]? = W.heap[Bs]? ∧ (Cells W A cs → Cells W' A cs)
theorem KeepSl.refl {Bs : Nat} {A : Option Addr} {cs : List Value} (W : World) : KeepSl Bs A cs W W := ⟨rfl, id⟩
theorem KeepSl.trans {Bs : Nat} {A : Option Addr} {cs : List Value} {W X Y : World} (h : KeepSl Bs A cs W X) (k : KeepSl Bs A cs X Y) : KeepSl Bs A cs W Y := ⟨k.1.trans h.1, fun c => k.2 (h.2 c)⟩
theorem Cells.putObj {W : World} {A : Option Addr} {cs : List Value} (h : Cells W A cs) {l : Nat} {o : Obj} (hl : W.heap[l]? = some o) (ho : o.isCells = false) (o' : Obj) : Cells (W.putObj l o') A cs := fun j u hj => by
  obtain ⟨a, ha, hc⟩ := h j u hj
  refine ⟨a, ha, ?_⟩
  obtain ⟨g, i, e⟩ := addr_of_cell hc
  rw [e] at hc ⊢
  have hne : g ≠ l := by
    intro hgl
    subst hgl
    simp only [World.cell?, hl] at hc
    cases o <;> simp_all [Obj.isCells]
  rw [World.cell?_of_block (w := W) (putObj_heap_ne W l o' g hne)]
  exact hc
theorem KeepSl.put {Bs : Nat} {A : Option Addr} {cs : List Value} {W : World} {l : Nat} {o : Obj} (hb : Bs < l) (hl : W.heap[l]? = some o) (ho : o.isCells = false) (o' : Obj) : KeepSl Bs A cs W (W.putObj l o') :=
  ⟨putObj_heap_ne W l o' Bs (by omega), fun h => h.putObj hl ho o'⟩
def RoundPost (E : Env) (p : HP) : Exit → Act → World → Prop
  | .normal, _, W' => Sat E W' p
  | _, _, _ => False
theorem wp_range_sat {α : Type} {P : Program} {g : Operand} {ps : Array Tmp} {assign body : Code} {Q : Exit → Act → World → Prop} {a : Act} {q : HP}
    {gf : Nat} {lb : Array Value} (hg : a.eval g = .func (.func gf) #[] lb) (eg : ∀ args w, (callFunc gf args).run P w = .ok (.enter gf args) w)
    {encs : α → Array Value} {S : List α → Prop} {N : Nat} {Kp : World → World → Prop} (hseq : SeqStopsK Fence.wide 19 P gf lb encs Kp S (fun _ => True) N w)
    (hKt : ∀ {A B C : World}, Kp A B → Kp B C → Kp A C) (hKb : ∀ (W : World) (l : Nat) (o o' : Obj), w.heap.size ≤ l → W.heap[l]? = some o → o.isCells = false → o.isWalk = false → Kp W (W.putObj l o')) (hKq : ∀ (E1 E2 : Env) W W' p p', Sat E1 W (p * q) → Sat E2 W' (p' * q) → Kp W W') (hps : ∀ x, (encs x).size = ps.size)
    (Pp : List α → HP) (hsol : ∀ pre, Solid w.heap.size (Pp pre)) (h0 : Sat E w (Pp [] * q))
    (Ax : α → Act → World → Prop) (hAx : ∀ x a', OwnFrom w.heap.size (fun (_ : Unit) W => Ax x a' W))
    (hassign : ∀ (l : Nat) (x : α) (W : World) (K : Act → World → Prop), w.heap.size ≤ W.heap.size → (∀ a' W', Below W.heap.size W W' → Ax x a' W' → K a' W') →
      assign.wpIn (Fence.wide.inRound l) 18 P (Exit.then K (fun _ _ _ => False)) { tmps := (ps.zip (encs x)).foldl (fun t (p, v) => t.setIfInBounds p v) a.tmps, defers := [] } W)
    (hbody : ∀ (E' : Env) (q' : HP) (l : Nat) (pre : List α) (x : α) (a' : Act) (W : World), (∀ W p, Sat E' W (p * q') → Sat E' W (p * q)) → Sat E' W (Pp pre * q') → Ax x a' W → pre.length < N →
      body.wpIn (Fence.wide.inRound l) 18 P (RoundPost E' (Pp (pre ++ [x]) * q')) a' W)
    (hdone : ∀ (D : Nat) (xs : List α) (W : World), S xs → Sat E W (HP.pt D (.deferred (some [])) * (Pp xs * q)) → Q .normal { a with defers := { target := .collected D, args := #[] } :: a.defers } W) :
    (Code.rangeFunc g ps assign body).wp P Q a w := by
  refine (wpIn_wide (n := 20)).1 ?_
  obtain ⟨k, hk, hS, hback, -⟩ := h0.own_env.exactB (hsol [])
  have hklt : ∀ b o, k b = some o → b < w.heap.size := fun b o ho => (Array.getElem?_eq_some_iff.1 (hk b o ho)).1
  have hsolid : ∀ pre, Solid w.heap.size (Pp pre * HP.is k) := fun pre => (hsol pre).mul (Solid.is hklt)
  have hbox : ∀ {E1 E2 : Env} {W W' : World} {p p' : HP}, Sat E1 W (p * HP.is k) → Sat E2 W' (p' * HP.is k) → Kp W W' := fun h1 h2 => hKq _ _ _ _ _ _ (hback _ _ _ h1) (hback _ _ _ h2)
  refine wpIn_rangeFunc_ownH rfl (by omega) hg trivial eg hseq (fun h k => hKt h k) hKb (Below.refl _ _) hps
    (fun pre W => Sat (envOf w) W (Pp pre * HP.is k)) (fun _ _ _ => False) (fun pre W W' row hs hg hr => hs.own (hsolid pre) hg hr) (fun _ _ _ _ _ hs _ _ => hs) hS Ax hAx ?assign ?body ?done ?stop
  case assign =>
    intro l pre x W K hI hK
    refine hassign l x W K hI.size_le ?_
    · intro a' W' hb hx
      have hI' := hI.below hb
      exact hK a' W' ⟨hb.size, fun b o _ ho _ => (hb.block b (Array.getElem?_eq_some_iff.1 ho).1).trans ho⟩ (hbox hI hI') hI' hx
  case stop =>
    rintro D cc pre W _ _ h0 _
    exact h0.elim
  case done =>
    intro D xs W hD hxs hI hK
    have h1 := hI.grab (hsol xs) hklt hD hK rfl
    refine hdone D xs W hxs ?_
    exact h0.back ((hback _ _ _ (h1.perm (HP.mul_assoc _ _ _).symm)).perm (HP.mul_assoc _ _ _))
  case body =>
    intro l pre x a' W hl _ hI hAx1 hlen
    obtain ⟨k2, hk2, hS2, hback2, hkeep⟩ := (hI.own_env).exactB (hsol pre)
    refine Code.wpIn_mono ?_ (hbody (envOf W) (HP.is k2) l pre x a' W (fun W1 p h => ?_) hS2 hAx1 hlen)
    · intro e a1 W1 h
      cases e with
      | normal =>
        have h : Sat (envOf W) W1 (Pp (pre ++ [x]) * HP.is k2) := h
        have h2 := hI.back (hback2 _ _ _ h)
        exact ⟨h.keepsB hkeep h.size_le, hbox hI h2, h2⟩
      | _ => exact h.elim
    · exact hback _ _ _ (hback2 _ _ _ h)
theorem calls_of_wp_marks {P : Program} {f : FuncId} {fn : Func} {c : Code} {args : Array Value} {w : World} {R : Ending → World → Prop} (hf : P.funcs[f]? = some fn) (hb : fn.body = some c)
    (h : c.wp P (bodyPostM Fence.wide 20 P fn R) { tmps := args ++ Array.replicate (fn.ntmps - args.size) undef, defers := [] } w) : Calls P f args w R :=
  callsIn_wide.1 (callsIn_of_wp_marks hf hb trivial (wpIn_wide.2 h))
theorem marks_ret {P : Program} {fn : Func} {R : Ending → World → Prop} {a : Act} {w : World} {v : Value} {D : Nat} (hd : a.defers = [{ target := .collected D, args := #[] }]) (hD : w.heap[D]? = some (.deferred (some []))) (hres : ∀ w, (results fn a.tmps).run P w = .ok v w)
    (hR : R (.returned v) (w.putObj D (.deferred none))) : bodyPostM Fence.wide 20 P fn R .ret a w := by
  show LeavesInM _ _ _ _ _ _ a.defers .returning w
  rw [hd]
  exact ⟨by simp, .inl ⟨_, _, rfl, run_takeDeferred hD, ⟨v, hres _, hR⟩⟩⟩
theorem Sat.putDef {E : Env} {w : World} {D : Nat} {o : Obj} {p : HP} (h : Sat E w (HP.pt D o * p)) (o' : Obj) : Sat E (w.putObj D o') (HP.pt D o' * p) := by
  have hlt := h.lt
  refine h.turn ⟨rfl, rfl, rfl, by simp⟩ ?_ fun k hk _ => putObj_heap_ne w D o' k hk
  simp [World.putObj, hlt]
end
end Go.Proofs.YtnpinegpajbkeaaGreatDoor
namespace Go.Proofs.YtnpinegpajbkeaaGreatDoor
open Go.RowKit HP
structure Kep where
  name : ByteArray
  index : Int
  bytes : Int
def Kep.vals (k : Kep) : List Value := [.string k.name, .int .i64 k.index, .int .i64 k.bytes]
def kepCells (l : List Kep) : List Value := l.flatMap Kep.vals
end Go.Proofs.YtnpinegpajbkeaaGreatDoor
namespace Go.Proofs.YtnpinegpajbkeaaGreatDoor
open Go.RowKit Go.Shelf HP
attribute [local go_sem] Oper.semAt_some
theorem kepCells_at (l : List Kep) (i : Nat) (k : Kep) (h : l[i]? = some k) : (kepCells l)[3 * i]? = some (.string k.name) ∧ (kepCells l)[3 * i + 1]? = some (.int .i64 k.index) ∧ (kepCells l)[3 * i + 2]? = some (.int .i64 k.bytes) := by
  induction l generalizing i with
  | nil => simp at h
  | cons x l ih =>
    have e : kepCells (x :: l) = [.string x.name, .int .i64 x.index, .int .i64 x.bytes] ++ kepCells l := rfl
    rw [e]
    cases i with
    | zero =>
      simp only [List.getElem?_cons_zero, Option.some.injEq] at h
      subst h
      simp
    | succ i =>
      simp only [List.getElem?_cons_succ] at h
      obtain ⟨h1, h2, h3⟩ := ih i h
      rw [List.getElem?_append_right (by simp; omega), List.getElem?_append_right (by simp; omega), List.getElem?_append_right (by simp; omega)]
      simp only [List.length_cons, List.length_nil, Nat.zero_add, Nat.reduceAdd]
      rw [show 3 * (i + 1) - 3 = 3 * i by omega, show 3 * (i + 1) + 1 - 3 = 3 * i + 1 by omega, show 3 * (i + 1) + 2 - 3 = 3 * i + 2 by omega]
      exact ⟨h1, h2, h3⟩
def downs (n k : Nat) : List Nat := ((List.range n).reverse).take (n - k)
theorem downs_all (n : Nat) : downs n 0 = (List.range n).reverse := by
  unfold downs
  rw [List.take_of_length_le (by simp)]
theorem downs_none (n : Nat) : downs n n = [] := by simp [downs]
theorem downs_next {n k : Nat} (h : k < n) : downs n k = downs n (k + 1) ++ [k] := by
  unfold downs
  rw [show n - k = (n - (k + 1)) + 1 by omega, List.take_succ_eq_append_getElem (by simp; omega)]
  congr 1
  simp
  omega
theorem downs_length {n k : Nat} (h : k ≤ n) : (downs n k).length = n - k := by simp [downs]
def kepArgs (L : List Kep) (x : Nat) : Array Value := #[.int .i64 x, .agg (match L[x]? with | some k => k.vals.toArray | none => #[])]
set_option maxRecDepth 100000 in
set_option maxHeartbeats 2000000 in
theorem back1_in (n : Nat) (hn : 1 ≤ n) (l Bs : Nat) (A : Option Addr) (L : List Kep) (cap : Nat) (hreach : L.length ≤ 9223372036854775807) (J Jx : List Nat → World → Prop)
    (hY : ∀ pre x W, J pre W → pre.length < L.length → x < L.length → YieldAt Fence.wide (n - 1) Tryz.prog l (kepArgs L x) W fun e W' =>
      (e = .returned (.bool true) ∧ J (pre ++ [x]) W' ∧ KeepSl Bs A (kepCells L) W W') ∨ (e = .returned (.bool false) ∧ Jx (pre ++ [x]) W'))
    (W : World) (hBs : W.cell? ⟨Bs, 0, none⟩ = some (.slice A L.length cap)) (hc : Cells W A (kepCells L)) (h0 : J [] W) (hJ : AbidesFrom W.heap.size J) :
    CallsIn Fence.wide n Tryz.prog 152 #[.func (.yield l) #[] #[], .pointer (some ⟨Bs, 0, none⟩)] W fun e W' => (∃ v, e = .returned v) ∧
      ((∃ ys, ys = (List.range L.length).reverse ∧ J ys W') ∨ (∃ pre, Jx pre W')) := by
  refine callsIn_of_wp Tryz.func152 rfl trivial ?_ rfl
  simp only [Tryz.ntmps152, List.size_toArray, List.length_cons, List.length_nil, Nat.reduceAdd, Nat.reduceSub, Array.replicate_succ, Array.replicate_zero, List.push_toArray, List.append_toArray, List.nil_append, List.cons_append]
  have hw0 : IntKind.i64.wrap ((L.length : Int) - 1) = (L.length : Int) - 1 := IntWalk.i64_in _ (by omega)
  gi_wp2
  gi_loopw [3] (fun i wr => ∃ k : Nat, k ≤ L.length ∧ i = .int .i64 ((k : Int) - 1) ∧ J (downs L.length k) wr ∧ KeepSl Bs A (kepCells L) W wr)
    (fun i _ => (intOf i + 1).toNat)
  case atStart => exact ⟨L.length, Nat.le_refl _, rfl, by rw [downs_none]; exact h0, KeepSl.refl _⟩
  case round =>
    clear hw0
    obtain ⟨k, hk, rfl, hJs, hnx⟩ := hrel
    have hc1 : wr.cell? ⟨Bs, 0, none⟩ = some (.slice A L.length cap) := (World.cell?_of_block (w := W) hnx.1).trans hBs
    have hcr := hnx.2 hc
    cases k with
    | succ k =>
      obtain ⟨fn, tmps, assign, body, hy, hR⟩ := hY (downs L.length (k + 1)) k wr hJs (by rw [downs_length hk]; omega) (by omega)
      clear hJs
      obtain ⟨kp, hkp⟩ : ∃ kp, L[k]? = some kp := ⟨_, List.getElem?_eq_getElem (by omega)⟩
      obtain ⟨hg0, g1, g2⟩ := kepCells_at L k kp hkp
      obtain ⟨pa, hpa, -⟩ := hcr _ _ hg0
      subst hpa
      have g0 := hcr.some_ _ _ hg0
      have g1 := hcr.some_ _ _ g1
      have g2 := hcr.some_ _ _ g2
      obtain ⟨g, o, rfl⟩ : ∃ g o, pa = ⟨g, o, none⟩ := slice_addr hcr rfl (k := 3 * k) (List.getElem?_eq_some_iff.1 hg0).1
      rw [addr_add] at g0 g1 g2
      simp only [kepArgs, hkp, Kep.vals] at hy
      have e1 : ((k + 1 : Nat) : Int) - 1 = (k : Int) := by omega
      rw [e1]
      have hk0 : (0 : Int) ≤ (k : Int) := by omega
      have hk1 : (k : Int) < (L.length : Int) := by omega
      have hw1 : IntKind.i64.wrap ((k : Int) - 1) = (k : Int) - 1 := IntWalk.i64_in _ (by omega)
      rw [Nat.mul_comm] at g0 g1 g2
      rw [← Nat.add_assoc] at g1 g2
      clear hcr hkp e1 hg0
      gi_wp2
      refine hR.mono ?_
      rintro ee W3 (⟨rfl, hJ3, hk3⟩ | ⟨rfl, hJx3⟩)
      · have hn1 := hnx.trans hk3
        clear hc1 g0 g1 g2
        gi_wp2
        go_roundw
        case rel => exact ⟨k, by omega, rfl, by rw [downs_next (by omega)]; exact hJ3, hn1⟩
        case measure => simp [intOf]
      · gi_wp2
        refine bodyPost_ret (results_none rfl _ _ _) rfl ?_
        exact ⟨⟨_, rfl⟩, .inr ⟨_, hJx3⟩⟩
    | zero =>
      rw [downs_all] at hJs
      gi_wp2
      go_end0
      exact ⟨⟨_, rfl⟩, .inl ⟨_, rfl, hJs⟩⟩
theorem back_stops (n : Nat) (hn : 1 ≤ n) (Bs : Nat) (A : Option Addr) (L : List Kep) (cap : Nat) (hreach : L.length ≤ 9223372036854775807) (w : World) (hBs : Bs < w.heap.size)
    (hcs : w.cell? ⟨Bs, 0, none⟩ = some (.slice A L.length cap)) (hc : Cells w A (kepCells L)) :
    SeqStopsK Fence.wide n Tryz.prog 152 #[.pointer (some ⟨Bs, 0, none⟩)] (fun x : { x : Nat // x < L.length } => kepArgs L x.1) (KeepSl Bs A (kepCells L))
      (fun ys => ys.map (·.1) = (List.range L.length).reverse) (fun _ => True) L.length w := fun l J Jx W hW hJ hJx hY h0 => by
  have hcs' := (hW.cell (p := ⟨Bs, 0, none⟩) hBs).trans hcs
  have hc' : Cells W A (kepCells L) := hc.carry hW.block
  refine (back1_in n hn l Bs A L cap hreach (fun ys W => ∃ zs : List { x : Nat // x < L.length }, zs.map (·.1) = ys ∧ J zs W) (fun ys W => ∃ zs : List { x : Nat // x < L.length }, zs.map (·.1) = ys ∧ Jx zs W) ?_ W hcs' hc' ⟨[], rfl, h0⟩ ?_).mono ?_
  · rintro pre x W1 ⟨zs, rfl, hj⟩ hl hx
    obtain ⟨fn, tmps, assign, body, hy, hR⟩ := hY zs ⟨x, hx⟩ W1 hj (by simpa using hl)
    refine ⟨fn, tmps, assign, body, hy, hR.mono ?_⟩
    rintro e W' (⟨rfl, h1, h2⟩ | ⟨rfl, h1⟩)
    · exact .inl ⟨rfl, ⟨_, by simp, h1⟩, h2⟩
    · exact .inr ⟨rfl, ⟨_, by simp, h1⟩⟩
  · rintro s W1 W2 row ⟨zs, hz, hj⟩ hg hr
    exact ⟨zs, hz, hJ _ _ _ _ hj hg hr⟩
  · rintro e W' ⟨he, ⟨ys, rfl, zs, hz, hj⟩ | ⟨pre, zs, hz, hj⟩⟩
    · exact ⟨he, .inl ⟨zs, hz, hj⟩⟩
    · exact ⟨he, .inr ⟨zs, trivial, hj⟩⟩
end Go.Proofs.YtnpinegpajbkeaaGreatDoor
namespace Go.Proofs.YtnpinegpajbkeaaGreatDoor
open Go.RowKit HP
def clampK (n : Int) : Int := min (max n 0) 128
def keepOf (K : List Kep) (s : ByteArray) (i : Int) : Int :=
  match K.find? (fun k => decide (k.name = s) && decide (k.index = i)) with
  | some k => clampK k.bytes
  | none => 0
theorem clampK_range (n : Int) : 0 ≤ clampK n ∧ clampK n ≤ 128 := by unfold clampK; omega
theorem keepOf_range (K : List Kep) (s : ByteArray) (i : Int) : 0 ≤ keepOf K s i ∧ keepOf K s i ≤ 128 := by
  unfold keepOf
  split
  · exact clampK_range _
  · omega
theorem keepOf_cons (x : Kep) (K : List Kep) : keepOf (x :: K) = spotPut (keepOf K) x.name x.index (clampK x.bytes) := by
  funext s i
  unfold keepOf spotPut
  rw [List.find?_cons]
  by_cases h : s = x.name ∧ i = x.index
  · rw [if_pos h, h.1, h.2]; simp
  · rw [if_neg h]
    have : (decide (x.name = s) && decide (x.index = i)) = false := by
      simp only [Bool.and_eq_false_iff, decide_eq_false_iff_not]
      by_cases h1 : x.name = s
      · exact .inr fun h2 => h ⟨h1.symm, h2.symm⟩
      · exact .inl h1
    rw [this]
noncomputable def keepFold (K : List Kep) (pre : List Nat) : ByteArray → Int → Int :=
  pre.foldl (fun f x => match K[x]? with | some k => spotPut f k.name k.index (clampK k.bytes) | none => f) (fun _ _ => 0)
theorem keepFold_snoc (K : List Kep) (pre : List Nat) (x : Nat) (k : Kep) (h : K[x]? = some k) : keepFold K (pre ++ [x]) = spotPut (keepFold K pre) k.name k.index (clampK k.bytes) := by
  unfold keepFold
  rw [List.foldl_append, List.foldl_cons, List.foldl_nil, h]
theorem keepFold_downs (K : List Kep) : ∀ (n k : Nat), n = K.length → k ≤ n → keepFold K (downs n k) = keepOf (K.drop k) := by
  intro n k hn hk
  obtain ⟨d, hd⟩ : ∃ d, d = n - k := ⟨_, rfl⟩
  induction d generalizing k with
  | zero =>
    have : k = n := by omega
    subst this
    rw [downs_none, List.drop_eq_nil_of_le (by omega)]
    rfl
  | succ d ih =>
    have hlt : k < K.length := by omega
    rw [downs_next (by omega), keepFold_snoc K _ k K[k] (List.getElem?_eq_getElem hlt), ih (k + 1) (by omega) (by omega), List.drop_eq_getElem_cons hlt, keepOf_cons]
theorem keepFold_all (K : List Kep) : keepFold K (List.range K.length).reverse = keepOf K := by
  rw [← downs_all, keepFold_downs K K.length 0 rfl (Nat.zero_le _), List.drop_zero]
def Cel.crashd (c : Cel) (n : Int) : Cel :=
  if c.waits then { c with read := c.written.take n.toNat ++ c.durable.drop n.toNat, durable := c.written.take n.toNat ++ c.durable.drop n.toNat, waits := false } else c
theorem Cel.crashd_fine {c : Cel} (h : c.Fine) {n : Int} (hn : 0 ≤ n ∧ n ≤ 128) : (c.crashd n).Fine := by
  unfold Cel.crashd
  split
  · have e : (c.written.take n.toNat ++ c.durable.drop n.toNat).length = 128 := by
      rw [List.length_append, List.length_take, List.length_drop, h.2.2.2, h.2.1]; omega
    exact ⟨e, e, h.2.2.1, h.2.2.2⟩
  · exact h
def crashL (K : List Kep) (s : ByteArray) (l : List Cel) : List Cel := l.mapIdx fun i c => c.crashd (keepOf K s i)
def Dk.crash (A : Dk) (K : List Kep) : Dk := { A with fuse := -1, files := A.files.map fun x => (x.1, crashL K x.1 x.2) }
set_option maxHeartbeats 1000000 in
set_option maxRecDepth 100000 in
theorem backward_ok (A : Option Addr) (n c : Nat) (w : World) :
    Calls Tryz.prog 122 #[.slice A n c] w fun e w' =>
      e = .returned (.func (.func 152) #[] #[.pointer (some ⟨w.heap.size, 0, none⟩)]) ∧ w' = w.alloc (.cells #[.slice A n c] 44) := by
  go_enter Tryz.func122, Tryz.ntmps122
  go_wp2
  go_ret
  exact ⟨rfl, rfl⟩
theorem wpListIn_mapUpdate_run {F : Fence} {N : Nat} {P : Program} {ops : Array Oper} {rest : List Oper} {o : Oper} {a : Act} {w w' : World} {Q : Exit → Act → World → Prop} (hg : o.guard = none) {m x v : Operand} {t : TypeId} (hop : o.op = Op.mapUpdate t m x v)
    {M K V : Value} (hm : a.eval m = M) (hx : a.eval x = K) (hv : a.eval v = V) (hr : (Instr.mapUpdate t M K V).run P w = .ok () w')
    (h : wpListIn F N P ops Q rest (a.put o.dst undef) w') : wpListIn F N P ops Q (o :: rest) a w := by
  refine wpListIn_plain hg fun K' hK' => ?_
  unfold Oper.wpIn
  refine ⟨?_, ?_⟩
  · simp [Oper.about, hop, resolve, Target.leads, Sem.run_pure]
  · rw [Oper.semAt_plain F _ _ (by rw [hop]; intro c hc'; cases hc')]
    simp [execOp, hop, hm, hx, hv, hr, Result.andThen]
    exact hK' _ _ h
def sub1 {n : Nat} (l : List { x : Nat // x < n }) : List Nat := l.map (·.1)
theorem sub1_snoc {n : Nat} (l : List { x : Nat // x < n }) (x : { x : Nat // x < n }) : sub1 (l ++ [x]) = sub1 l ++ [x.1] := by simp [sub1]
def kepA (K : List Kep) (x : Nat) : Array Value := match K[x]? with | some k => k.vals.toArray | none => #[]
def HP.keeps (mf : Nat) (f : ByteArray → Int → Int) : HP := HP.ex fun x : Array MapEntry × Nat => HP.fact (SpotMap x.1 f) * HP.pt mf (.map x.1 x.2)
theorem HP.keeps_solid {B mf : Nat} (h : mf < B) (f : ByteArray → Int → Int) : Solid B (HP.keeps mf f) := by
  rintro k ⟨x, h1, h2, hd, hu, ⟨_, hf⟩, hp⟩ b o hb
  rw [hu b, hf b] at hb
  exact Solid.pt_below h (.map x.1 x.2) h2 hp b o (by simpa using hb)
theorem Sat.keeps_open {E : Env} {q : HP} {w : World} {mf : Nat} {f : ByteArray → Int → Int} (h : Sat E w (HP.keeps mf f * q)) : ∃ es clock, SpotMap es f ∧ Sat E w (HP.pt mf (.map es clock) * q) := by
  obtain ⟨x, h⟩ := h.ex_elim
  obtain ⟨h1, h2⟩ := (h.perm (HP.mul_assoc _ _ _)).fact_elim
  exact ⟨x.1, x.2, h1, h2⟩
theorem Sat.keeps_close {E : Env} {q : HP} {w : World} {mf : Nat} {f : ByteArray → Int → Int} {es : Array MapEntry} {clock : Nat} (hf : SpotMap es f) (h : Sat E w (HP.pt mf (.map es clock) * q)) : Sat E w (HP.keeps mf f * q) :=
  Sat.ex_intro (es, clock) ((Sat.fact_intro hf h).perm (HP.mul_assoc _ _ _).symm)
end Go.Proofs.YtnpinegpajbkeaaGreatDoor
