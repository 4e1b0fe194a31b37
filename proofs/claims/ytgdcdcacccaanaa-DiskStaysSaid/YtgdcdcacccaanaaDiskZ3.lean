/- (*Disk).Write: a file grows by an extent. -/
import Derived.Test.YtgdcdcacccaanaaDiskZ1
import Derived.Test.YtgdcdcacccaanaaDiskZ2
namespace Go.Proofs.Ytgdcdcacccaanaa
open Go.RowKit HP
set_option linter.unusedSimpArgs false
set_option linter.unusedVariables false

theorem slPC : SlTy Try.prog 75 77 (.pointer none) 1 8 := ⟨Try.underlying75, by kernel_rfl, rfl, by decide⟩
theorem zero_cel : Cel.zero.vals.toArray = Try.zeroCells81 := by kernel_rfl
theorem wpList_value {P : Program} {ops : Array Oper} {rest : List Oper} {o : Oper} {a : Act} {w : World} {Q : Exit → Act → World → Prop} {v : Value} (hg : o.guard = none) (hr : (execOp a.eval o).run P w = .ok (.value v) w)
    (h : wpList P ops Q rest (a.put o.dst v) w) : wpList P ops Q (o :: rest) a w := by
  refine wpList_plain hg fun K' hK' => ?_
  unfold Oper.wp
  rw [hr]
  exact hK' _ _ h
theorem eval_at_len {l : List Value} {p : Value} {g o n c : Nat} {E : Env} {q : HP} {w : World} {e : TypeId} (hl : l.length = n) (h : Sat E w (HP.row e 1 (.slice (some ⟨g, o, none⟩) (n + 1) c) (n + 1) (l ++ [p]) * q)) : w.cell? ⟨g, o + n, none⟩ = some p :=
  h.row_cell n p (by rw [List.getElem?_append_right (by omega)]; simp [hl])
set_option maxHeartbeats 4000000 in
set_option maxRecDepth 100000 in
theorem disk_write_new (E : Env) (q : HP) (d : Nat) (A : Dk) (name : ByteArray) (ab : Addr) (l : List Int) (c : Nat) (w : World) (hn : name.size ≤ maxLen) (hl : l.length = 128) (hq : ∀ w, Sat E w q → Cells w (some ab) (b8s l))
    (hnm : namedB name = true) (hgo : A.goes = true) (hfr : 0 < A.free) (hw : Sat E w (HP.disk d A * q)) :
    Calls Try.prog 12 #[.pointer (some ⟨d, 0, none⟩), .string name, .int .i64 ((A.at name).length : Int), .slice (some ab) 128 c] w fun e w' => e = .returned (.int .i64 0) ∧ Sat E w' (HP.disk d (A.burnt.set name (A.at name ++ [Cel.zero.wrote l])) * q) := by
  obtain ⟨m, es, clock, fs, hv, hd⟩ := hw.disk_open
  have hsm := at_small hv.fine name
  have hfu := hv.fine.fuse
  have htt := hv.total
  have hszl := hv.size_le
  have hrm := hv.fine.room
  clear hw
  go_enter Try.func12, Try.ntmps12
  go_wp2_with fail
  refine (disk_none E _ d _ _ m w (dk_parts hd)).mono ?_
  rintro e w1 ⟨rfl, rfl⟩
  have c1 := (dk_parts hd).cell 1
  simp only [List.getElem?_toArray, List.getElem?_cons_zero, List.getElem?_cons_succ] at c1
  obtain ⟨v, B, cc, hvB, hlook, -, hcase⟩ := find_file hv hd name hn
  obtain ⟨ptrs, R, es', clock', hpl, hRq, hopen, hmu, hclose⟩ := new_cel (E := E) (q := q) (d := d) (m := m) hv.burnt hn hnm hfr hcase
  rw [hvB] at hlook hopen
  have HH := Aside.mk (And.intro htt (And.intro hszl (And.intro hrm (And.intro hpl (And.intro hRq (And.intro hopen (And.intro hmu hclose)))))))
  clear htt hszl hrm hpl hRq hopen hmu hclose hcase hvB
  have hnn : ∃ nn, nn = (A.at name).length := ⟨_, rfl⟩
  obtain ⟨nn, hnn⟩ := hnn
  have hat : (A.burnt.at name).length = nn := hnn.symm
  rw [hat, ← hnn] at HH
  rw [← hnn] at hlook hsm ⊢
  clear hat hnn
  go_wp2_with fail
  refine (named_ok E _ name w1 hd).mono ?_
  rintro e w2 ⟨rfl, hd2⟩
  clear hd c1 hlook
  rw [hnm]
  go_wp2_with fail
  refine (disk_burn E _ d _ _ m w2 hfu.2 (dk_parts hd2)).mono ?_
  rintro e w3 ⟨rfl, hd3⟩
  have hgo' : (burnI A.fuse).2 = true := hgo
  rw [hgo']
  clear hd2 hgo hgo' hfu
  go_wp2_with fail
  refine (disk_free E q d A.burnt.room A.burnt.fuse m es clock fs w3 hv.map HH.out.2.2.1 (by rw [HH.out.1]; have := HH.out.2.1; omega) (burnt_dsk hd3)).mono ?_
  rintro e w4 ⟨rfl, hd4⟩
  have hr : 0 < A.burnt.room - (total fs : Int) := by
    have := HH.out.1
    unfold Dk.free at hfr
    rw [this]; exact hfr
  generalize A.burnt.room - (total fs : Int) = fr at *
  clear hd3 hfr
  have h5 := ((HH.out.2.2.2.2.2.1 w4 hd4).alloc (.cells Try.zeroCells81 81)).s2
  have hdc := (dk_parts hd4).alloc (.cells Try.zeroCells81 81)
  have HQ := Aside.mk hq
  have HD4 := Aside.mk h5
  have HV := Aside.mk hv
  clear hd4 hq h5 hv hdc hnm
  have hb0 : (w4.alloc (.cells Try.zeroCells81 81)).heap.size = w4.heap.size + 1 := by
    show (w4.heap.push _).size = _
    exact Array.size_push _
  go_wp2_with (at_builtin; refine wpList_append_new (n := nn) (m := 1) (c := 1) slPC rfl rfl rfl (by rw [hb0]; rfl) HD4.out rfl rfl (by unfold maxLen; omega) (by omega) (fun v5 w5 hw5 => ?_); obtain ⟨B5, c5, rfl, -, -⟩ := hw5.row_slice; have g5 := (hw5.s3).cell 1; simp only [List.getElem?_toArray, List.getElem?_cons_zero, List.getElem?_cons_succ] at g5; have HW5 := Aside.mk hw5; have hmr := HH.out.2.2.2.2.2.2.1 w5 (.slice B5 (nn + 1) c5) hw5.s4.get; clear hw5)
  go_wp2_with (at_mapUpdate; refine wpList_mapUpdate_run rfl rfl rfl rfl rfl hmr ?_)
  have hd6 : Sat E (ChangeMaps.setBlock w5 m (.map (es' (.slice B5 (nn + 1) c5)) clock')) (HP.cel w4.heap.size Cel.zero * (HP.row 77 1 (.slice B5 (nn + 1) c5) (nn + 1) (ptrs ++ [.pointer (some ⟨w4.heap.size, 0, none⟩)]) * (HP.dsk d A.burnt.room A.burnt.fuse m * (HP.pt m (.map (es' (.slice B5 (nn + 1) c5)) clock') * R)))) := by
    have h1 := Sat.setBlk (HW5.out.s4) (.map (es' (.slice B5 (nn + 1) c5)) clock')
    unfold HP.cel
    rw [zero_cel]
    exact h1.perm (by ac_rfl)
  have hclose := HH.out.2.2.2.2.2.2.2
  have hpl := HH.out.2.2.2.1
  have hRq := HH.out.2.2.2.2.1
  generalize ChangeMaps.setBlock w5 m (.map (es' (.slice B5 (nn + 1) c5)) clock') = w6 at *
  generalize w4.heap.size = bk at *
  have hrow := hd6.s2
  obtain ⟨pa, hpa, -⟩ := hrow.row_cells.at_ nn (by simp [hpl])
  obtain ⟨g, o, rfl⟩ : ∃ g o, pa = ⟨g, o, none⟩ := slice_addr hrow.row_cells hpa (k := nn) (by simp [hpl])
  subst hpa
  have hcx := eval_at_len hpl hrow
  have HS : Aside (∀ w', Sat E w' (HP.cel bk (Cel.zero.wrote l) * (HP.row 77 1 (.slice (some ⟨g, o, none⟩) (nn + 1) c5) (nn + 1) (ptrs ++ [.pointer (some ⟨bk, 0, none⟩)]) * (HP.dsk d A.burnt.room A.burnt.fuse m * (HP.pt m (.map (es' (.slice (some ⟨g, o, none⟩) (nn + 1) c5)) clock') * R)))) → Sat E w' (HP.disk d (A.burnt.set name (A.at name ++ [Cel.zero.wrote l])) * q)) := ⟨fun w' h =>
    hclose w' _ bk _ (Cel.wrote_fine Cel.zero_fine hl) h⟩
  have hab : Cells w6.drew (some ab) (b8s l) := HQ.out _ (hRq _ hrow.right.right.right.right).drew
  have har := fun a w => run_arrayImg a 128 c (by omega) w
  obtain ⟨gb, ob, rfl⟩ : ∃ g o, ab = ⟨g, o, none⟩ := slice_addr hab rfl (k := 0) (by simp [b8s_length, hl])
  have hld := run_loadAgg agImg (by rw [b8s_length, hl]) hab
  have hxf : Cel.zero.Fine := Cel.zero_fine
  obtain ⟨w7, hs1, hd7⟩ := cel_store (off := 0) (l := l) (c' := { Cel.zero with read := l }) hd6.drew hxf hl (by omega) (set_read hxf hl)
  have hxf5 : ({ Cel.zero with read := l } : Cel).Fine := ⟨hl, hxf.2.1, hxf.2.2.1, hxf.2.2.2⟩
  obtain ⟨w8, hs2, hd8⟩ := cel_store (off := 384) (l := l) (c' := { Cel.zero with read := l, written := l }) hd7 hxf5 hl (by omega) (set_written hxf5 hl)
  have hxf6 : ({ Cel.zero with read := l, written := l } : Cel).Fine := ⟨hl, hxf.2.1, hxf.2.2.1, hl⟩
  have c6 := cel_waits hd8 hxf6
  have f6 := cel_thaw hd8 512
  have HD := Aside.mk (HS.out _ (cel_set_waits hd8 hxf6 true))
  obtain ⟨img, himg⟩ : ∃ img, img = (b8s l).toArray := ⟨_, rfl⟩
  rw [← himg] at hld hs1 hs2
  have hk1 : (nn : Int) < (nn : Int) + 1 := by omega
  have hk2 : (0 : Int) ≤ (nn : Int) := by omega
  clear himg hl hclose hpl hRq hrow hab HS hxf hxf5 hxf6 hd6 hd7 hd8 HW5 HD4 hmr g5 HH HQ HV hb0 hr
  refine region_R [20, 23, 26] [] (fun _ => True) #[false, false, false, false, false, false, false, false, false, false, false, false, false, false, false, false, false, false, false, false, false, false, false, false, false, false, false] (by kernel_rfl) rfl rfl ?_
  refine wpR_rd 0 #[true, false, false, false, false, false, false, false, false, false, false, false, false, false, false, false, false, false, false, false, false, false, false, false, false, false, false] rfl onlyN_noPanic (by kernel_rfl) (fun K hK => ?_); (go_simp; try go_bits); refine hK _ ?_; clear hK K
  refine wpR_rd 1 #[true, true, false, false, false, false, false, false, false, false, false, false, false, false, false, false, false, false, false, false, false, false, false, false, false, false, false] rfl onlyN_noPanic (by kernel_rfl) (fun K hK => ?_); (go_simp; try go_bits); refine hK _ ?_; clear hK K
  refine wpR_rd 2 #[true, true, true, false, false, false, false, false, false, false, false, false, false, false, false, false, false, false, false, false, false, false, false, false, false, false, false] rfl onlyN_noPanic (by kernel_rfl) (fun K hK => ?_); (go_simp; try go_bits); refine hK _ ?_; clear hK K
  refine wpR_rd 3 #[true, true, true, true, false, false, false, false, false, false, false, false, false, false, false, false, false, false, false, false, false, false, false, false, false, false, false] rfl onlyN_noPanic (by kernel_rfl) (fun K hK => ?_); (go_simp; try go_bits); refine hK _ ?_; clear hK K
  refine wpR_rd 4 #[true, true, true, true, true, false, false, false, false, false, false, false, false, false, false, false, false, false, false, false, false, false, false, false, false, false, false] rfl onlyN_noPanic (by kernel_rfl) (fun K hK => ?_); (go_simp; try go_bits); refine hK _ ?_; clear hK K
  refine wpR_rd 5 #[true, true, true, true, true, true, false, false, false, false, false, false, false, false, false, false, false, false, false, false, false, false, false, false, false, false, false] rfl onlyN_noPanic (by kernel_rfl) (fun K hK => ?_); (go_simp; try go_bits); refine hK _ ?_; clear hK K
  refine wpR_rd 6 #[true, true, true, true, true, true, true, false, false, false, false, false, false, false, false, false, false, false, false, false, false, false, false, false, false, false, false] rfl onlyN_noPanic (by kernel_rfl) (fun K hK => ?_); (go_simp; try go_bits); refine hK _ ?_; clear hK K
  refine wpR_rd 7 #[true, true, true, true, true, true, true, true, false, false, false, false, false, false, false, false, false, false, false, false, false, false, false, false, false, false, false] rfl onlyN_noPanic (by kernel_rfl) (fun K hK => ?_); (go_simp; try go_bits); refine hK _ ?_; clear hK K
  refine wpR_rd 8 #[true, true, true, true, true, true, true, true, true, false, false, false, false, false, false, false, false, false, false, false, false, false, false, false, false, false, false] rfl onlyN_noPanic (by kernel_rfl) (fun K hK => ?_); (go_simp; try go_bits); refine hK _ ?_; clear hK K
  refine wpR_rd 9 #[true, true, true, true, true, true, true, true, true, true, false, false, false, false, false, false, false, false, false, false, false, false, false, false, false, false, false] rfl onlyN_noPanic (by kernel_rfl) (fun K hK => ?_); (go_simp; try go_bits); refine hK _ ?_; clear hK K
  refine wpR_rd 10 #[true, true, true, true, true, true, true, true, true, true, true, false, false, false, false, false, false, false, false, false, false, false, false, false, false, false, false] rfl onlyN_noPanic (by kernel_rfl) (fun K hK => ?_); (go_simp; try go_bits); refine hK _ ?_; clear hK K
  refine wpR_rd 11 #[true, true, true, true, true, true, true, true, true, true, true, true, false, false, false, false, false, false, false, false, false, false, false, false, false, false, false] rfl onlyN_noPanic (by kernel_rfl) (fun K hK => ?_); (go_simp; try go_bits); refine hK _ ?_; clear hK K
  refine wpR_rd 12 #[true, true, true, true, true, true, true, true, true, true, true, true, true, false, false, false, false, false, false, false, false, false, false, false, false, false, false] rfl onlyN_noPanic (by kernel_rfl) (fun K hK => ?_); (go_simp; try go_bits); refine hK _ ?_; clear hK K
  refine wpR_rd 13 #[true, true, true, true, true, true, true, true, true, true, true, true, true, true, false, false, false, false, false, false, false, false, false, false, false, false, false] rfl onlyN_noPanic (by kernel_rfl) (fun K hK => ?_); (go_simp; try go_bits); refine hK _ ?_; clear hK K
  refine wpR_read (i := 14) #[true, true, true, true, true, true, true, true, true, true, true, true, true, true, true, false, false, false, false, false, false, false, false, false, false, false, false] rfl onlyN_noPanic (by kernel_rfl) (.inl ⟨rfl, exec_load rfl rfl hld⟩) ?_
  simp only [Act.put, List.setIfInBounds_toArray, List.set_cons_zero, List.set_cons_succ]
  refine wpR_rd 15 #[true, true, true, true, true, true, true, true, true, true, true, true, true, true, true, true, false, false, false, false, false, false, false, false, false, false, false] rfl onlyN_noPanic (by kernel_rfl) (fun K hK => ?_); (go_simp; try go_bits); refine hK _ ?_; clear hK K
  refine wpR_rd 16 #[true, true, true, true, true, true, true, true, true, true, true, true, true, true, true, true, true, false, false, false, false, false, false, false, false, false, false] rfl onlyN_noPanic (by kernel_rfl) (fun K hK => ?_); (go_simp; try go_bits); refine hK _ ?_; clear hK K
  refine wpR_read (i := 17) #[true, true, true, true, true, true, true, true, true, true, true, true, true, true, true, true, true, true, false, false, false, false, false, false, false, false, false] rfl onlyN_noPanic (by kernel_rfl) (.inl ⟨rfl, exec_load rfl rfl hld⟩) ?_
  simp only [Act.put, List.setIfInBounds_toArray, List.set_cons_zero, List.set_cons_succ]
  refine wpR_rd 18 #[true, true, true, true, true, true, true, true, true, true, true, true, true, true, true, true, true, true, true, false, false, false, false, false, false, false, false] rfl onlyN_noPanic (by kernel_rfl) (fun K hK => ?_); (go_simp; try go_bits); refine hK _ ?_; clear hK K
  refine wpR_rd 19 #[true, true, true, true, true, true, true, true, true, true, true, true, true, true, true, true, true, true, true, true, false, false, false, false, false, false, false] rfl onlyN_noPanic (by kernel_rfl) (fun K hK => ?_); (go_simp; try go_bits); refine hK _ ?_; clear hK K
  refine wpR_eff #[true, true, true, true, true, true, true, true, true, true, true, true, true, true, true, true, true, true, true, true, true, false, false, false, false, false, false] (i := 20) rfl (by kernel_rfl) (fun K hK => ?_)
  refine Eq.mpr (if_pos (by rfl)) ?_; refine wp_store_run rfl rfl rfl rfl hs1 ?_; refine hK _ _ ?_; clear hK K
  refine wpR_rd 21 #[true, true, true, true, true, true, true, true, true, true, true, true, true, true, true, true, true, true, true, true, true, true, false, false, false, false, false] rfl onlyN_noPanic (by kernel_rfl) (fun K hK => ?_); (go_simp; try go_bits); refine hK _ ?_; clear hK K
  refine wpR_rd 22 #[true, true, true, true, true, true, true, true, true, true, true, true, true, true, true, true, true, true, true, true, true, true, true, false, false, false, false] rfl onlyN_noPanic (by kernel_rfl) (fun K hK => ?_); (go_simp; try go_bits); refine hK _ ?_; clear hK K
  refine wpR_eff #[true, true, true, true, true, true, true, true, true, true, true, true, true, true, true, true, true, true, true, true, true, true, true, true, false, false, false] (i := 23) rfl (by kernel_rfl) (fun K hK => ?_)
  refine Eq.mpr (if_pos (by rfl)) ?_; refine wp_store_run rfl rfl rfl rfl hs2 ?_; refine hK _ _ ?_; clear hK K
  refine wpR_rd 24 #[true, true, true, true, true, true, true, true, true, true, true, true, true, true, true, true, true, true, true, true, true, true, true, true, true, false, false] rfl onlyN_noPanic (by kernel_rfl) (fun K hK => ?_); (go_simp; try go_bits); refine hK _ ?_; clear hK K
  refine wpR_rd 25 #[true, true, true, true, true, true, true, true, true, true, true, true, true, true, true, true, true, true, true, true, true, true, true, true, true, true, false] rfl onlyN_noPanic (by kernel_rfl) (fun K hK => ?_); (go_simp; try go_bits); refine hK _ ?_; clear hK K
  refine wpR_eff #[true, true, true, true, true, true, true, true, true, true, true, true, true, true, true, true, true, true, true, true, true, true, true, true, true, true, true] (i := 26) rfl (by kernel_rfl) (fun K hK => ?_)
  go_simp; refine hK _ _ ?_; clear hK K
  refine wpR_done (by kernel_rfl) ?_ _
  simp only [OnlyN]
  go_wp2
  go_ret
  exact ⟨rfl, HD.out⟩
end Go.Proofs.Ytgdcdcacccaanaa
