/- (*Disk).Write: an extent written anew. -/
import Derived.Test.YtgdcdcacccaanaaDiskZ
namespace Go.Proofs.Ytgdcdcacccaanaa
open Go.RowKit HP
set_option linter.unusedSimpArgs false
set_option linter.unusedVariables false

set_option maxHeartbeats 4000000 in
set_option maxRecDepth 100000 in
theorem disk_write_old (E : Env) (q : HP) (d : Nat) (A : Dk) (name : ByteArray) (k : Nat) (ab : Addr) (l : List Int) (c : Nat) (w : World) (hn : name.size ≤ maxLen) (hl : l.length = 128) (hq : ∀ w, Sat E w q → Cells w (some ab) (b8s l))
    (hnm : namedB name = true) (hk : k < (A.at name).length) (hgo : A.goes = true) (hw : Sat E w (HP.disk d A * q)) :
    Calls Try.prog 12 #[.pointer (some ⟨d, 0, none⟩), .string name, .int .i64 (k : Int), .slice (some ab) 128 c] w fun e w' => e = .returned (.int .i64 0) ∧ Sat E w' (HP.disk d (A.burnt.set name ((A.at name).modify k fun c => c.wrote l)) * q) := by
  obtain ⟨m, es, clock, fs, hv, hd⟩ := hw.disk_open
  have hsm := at_small hv.fine name
  have hfu := hv.fine.fuse
  clear hw
  go_enter Try.func12, Try.ntmps12
  go_wp2_with fail
  refine (disk_none E _ d _ _ m w (dk_parts hd)).mono ?_
  rintro e w1 ⟨rfl, rfl⟩
  have c1 := (dk_parts hd).cell 1
  simp only [List.getElem?_toArray, List.getElem?_cons_zero, List.getElem?_cons_succ] at c1
  obtain ⟨v, B, cc, hvB, hlook, -, hcase⟩ := find_file hv hd name hn
  rcases hcase with ⟨hlk, -⟩ | ⟨j, f, hj, hname, hfv, hlk⟩
  · simp [Dk.at, hlk] at hk
  have hat : A.at name = f.cs := by simp [Dk.at, hlk]
  obtain ⟨x, hx⟩ : ∃ x, f.cels[k]? = some x := by
    rw [hat, Fil.cs, List.length_map] at hk
    exact ⟨_, List.getElem?_eq_getElem hk⟩
  have hxf : x.2.Fine := hv.cel_fine (List.mem_of_getElem? hj) (List.mem_of_getElem? hx)
  have hkl : k < f.cels.length := by
    have := hk
    rwa [hat, Fil.cs, List.length_map] at this
  rw [hat, Fil.cs, List.length_map] at hvB hsm
  rw [hvB] at hlook
  have HH := Aside.mk (And.intro hat (And.intro hvB (And.intro hkl (And.intro hx (And.intro hj (And.intro hname hfv))))))
  clear hat hvB hlk hx hj hname hfv hk
  have hk1 : (k : Int) < (f.cels.length : Int) := by omega
  have hk2 : (0 : Int) ≤ (k : Int) := by omega
  have hk3 : ¬ ((k : Int) = (f.cels.length : Int)) := by omega
  obtain ⟨nn, hnn⟩ : ∃ nn, nn = f.cels.length := ⟨_, rfl⟩
  rw [← hnn] at hlook hk1 hk3 hkl hsm
  have HN := Aside.mk hnn
  clear hnn
  go_wp2_with fail
  refine (named_ok E _ name w1 hd).mono ?_
  rintro e w2 ⟨rfl, hd2⟩
  clear hd c1 hlook
  rw [hnm]
  go_wp2_with fail
  refine (disk_burn E _ d _ _ m w2 hfu.2 (dk_parts hd2)).mono ?_
  rintro e w3 ⟨rfl, hd3⟩
  have hgo' : (burnI A.fuse).2 = true := hgo
  rw [hgo']
  have hd4 := burnt_dsk hd3
  obtain ⟨hat, hvB, hkl', hx, hj, hname, hfv⟩ := HH.out
  obtain ⟨r, hr1, hr2, hr3⟩ := take_cel hv.burnt hd4 hj hx
  have hrow := hr2 _ hr1.right
  rw [hfv, hvB] at hrow
  obtain ⟨pa, hpa, hcx⟩ := hrow.row_cells.at_ k (by simp [Fil.ptrs, hkl'])
  obtain ⟨g, o, rfl⟩ : ∃ g o, pa = ⟨g, o, none⟩ := slice_addr hrow.row_cells hpa (k := k) (by simp [Fil.ptrs, hkl'])
  subst hpa
  rw [addr_add] at hcx
  have hxk : f.cels[k] = x := by
    have := List.getElem?_eq_getElem hkl'
    rw [hx] at this
    exact (Option.some.inj this).symm
  simp only [Fil.ptrs, List.getElem_map, hxk] at hcx
  have HS : Aside (∀ w', Sat E w' (HP.cel x.1 (x.2.wrote l) * r) → Sat E w' (HP.disk d (A.burnt.set name ((A.at name).modify k fun c => c.wrote l)) * q)) := ⟨fun w' h => by
    have h5 := hr3 w' _ (Cel.wrote_fine hxf hl) h
    rw [hname] at h5
    have e1 : (A.at name).modify k (fun c => c.wrote l) = f.cs.set k (x.2.wrote l) := by
      rw [hat]
      apply List.ext_getElem?
      intro i
      simp only [Fil.cs, List.getElem?_map, List.getElem?_modify, List.getElem?_set, List.length_map]
      by_cases hi : k = i
      · subst hi; simp only [hx, if_true, Option.map_some, hkl', Option.map_eq_map]
      · simp [hi]
    rw [e1]
    exact h5⟩
  have hab : Cells w3.drew (some ab) (b8s l) := hq _ hrow.right.drew
  have har := fun a w => run_arrayImg a 128 c (by omega) w
  obtain ⟨gb, ob, rfl⟩ : ∃ g o, ab = ⟨g, o, none⟩ := slice_addr hab rfl (k := 0) (by simp [b8s_length, hl])
  have hld := run_loadAgg agImg (by rw [b8s_length, hl]) hab
  obtain ⟨w4, hs1, hd5⟩ := cel_store (off := 0) (l := l) (c' := { x.2 with read := l }) hr1.drew hxf hl (by omega) (set_read hxf hl)
  have hxf5 : ({ x.2 with read := l } : Cel).Fine := ⟨hl, hxf.2.1, hxf.2.2.1, hxf.2.2.2⟩
  obtain ⟨w5, hs2, hd6⟩ := cel_store (off := 384) (l := l) (c' := { x.2 with read := l, written := l }) hd5 hxf5 hl (by omega) (set_written hxf5 hl)
  have hxf6 : ({ x.2 with read := l, written := l } : Cel).Fine := ⟨hl, hxf.2.1, hxf.2.2.1, hl⟩
  have c6 := cel_waits hd6 hxf6
  have f6 := cel_thaw hd6 512
  have HD := Aside.mk (HS.out _ (cel_set_waits hd6 hxf6 true))
  clear hd2 hd3 hd4 hv hgo hgo' hfu hr1 hr2 hr3 hrow hab hxf hxf5 hxf6 hd5 hd6 hq hnm hj hname hfv hvB hx hxk hat HS HH hkl'
  clear HN
  obtain ⟨img, himg⟩ : ∃ img, img = (b8s l).toArray := ⟨_, rfl⟩
  rw [← himg] at hld hs1 hs2
  clear himg hl
  go_wp2
  clear hk3
  refine region_R [20, 23, 26] [] (fun _ => True) #[false, false, false, false, false, false, false, false, false, false, false, false, false, false, false, false, false, false, false, false, false, false, false, false, false, false, false] (by kernel_rfl) rfl rfl ?_
  refine wpR_rd 0 #[true, false, false, false, false, false, false, false, false, false, false, false, false, false, false, false, false, false, false, false, false, false, false, false, false, false, false] rfl onlyN_noPanic (by kernel_rfl) (fun K hK => ?_); (go_simp; try go_bits); refine hK _ ?_; clear hK K
  refine wpR_rd 1 #[true, true, false, false, false, false, false, false, false, false, false, false, false, false, false, false, false, false, false, false, false, false, false, false, false, false, false] rfl onlyN_noPanic (by kernel_rfl) (fun K hK => ?_); (go_simp; try go_bits); refine hK _ ?_; clear hK K
  refine wpR_rd 2 #[true, true, true, false, false, false, false, false, false, false, false, false, false, false, false, false, false, false, false, false, false, false, false, false, false, false, false] rfl onlyN_noPanic (by kernel_rfl) (fun K hK => ?_); (go_simp; try go_bits); refine hK _ ?_; clear hK K
  refine wpR_rd 3 #[true, true, true, true, false, false, false, false, false, false, false, false, false, false, false, false, false, false, false, false, false, false, false, false, false, false, false] rfl onlyN_noPanic (by kernel_rfl) (fun K hK => ?_); (go_simp; try go_bits); refine hK _ ?_; clear hK K
  refine wpR_rd 4 #[true, true, true, true, true, false, false, false, false, false, false, false, false, false, false, false, false, false, false, false, false, false, false, false, false, false, false] rfl onlyN_noPanic (by kernel_rfl) (fun K hK => ?_); (go_simp; try go_bits); refine hK _ ?_; clear hK K
  refine wpR_rd 5 #[true, true, true, true, true, true, false, false, false, false, false, false, false, false, false, false, false, false, false, false, false, false, false, false, false, false, false] rfl onlyN_noPanic (by kernel_rfl) (fun K hK => ?_); (go_simp; try go_bits); refine hK _ ?_; clear hK K
  refine wpR_rd 6 #[true, true, true, true, true, true, true, false, false, false, false, false, false, false, false, false, false, false, false, false, false, false, false, false, false, false, false] rfl onlyN_noPanic (by kernel_rfl) (fun K hK => ?_); (go_simp; try go_bits); refine hK _ ?_; clear hK K
  refine wpR_rd 7 #[true, true, true, true, true, true, true, true, false, false, false, false, false, false, false, false, false, false, false, false, false, false, false, false, false, false, false] rfl onlyN_noPanic (by kernel_rfl) (fun K hK => ?_); (go_simp; try go_bits); refine hK _ ?_; clear hK K
  refine wpR_rd 8 #[true, true, true, true, true, true, true, true, true, false, false, false, false, false, false, false, false, false, false, false, false, false, false, false, false, false, false] rfl onlyN_noPanic (by kernel_rfl) (fun K hK => ?_); (go_simp; try go_bits); refine hK _ ?_; clear hK K
  refine wpR_rd 9 #[true, true, true, true, true, true, true, true, true, true, false, false, false, false, false, false, false, false, false, false, false, false, false, false, false, false, false] rfl onlyN_noPanic (by kernel_rfl) (fun K hK => ?_); (go_simp; try go_bits); refine hK _ ?_; clear hK K
  refine wpR_rd 10 #[true, true, true, true, true, true, true, true, true, true, true, false, false, false, false, false, false, false, false, false, false, false, false, false, false, false, false] rfl onlyN_noPanic (by kernel_rfl) (fun K hK => ?_); (go_simp; try go_bits); refine hK _ ?_; clear hK K
  refine wpR_rd 11 #[true, true, true, true, true, true, true, true, true, true, true, true, false, false, false, false, false, false, false, false, false, false, false, false, false, false, false] rfl onlyN_noPanic (by kernel_rfl) (fun K hK => ?_); (go_simp; try go_bits); refine hK _ ?_; clear hK K
  refine wpR_rd 12 #[true, true, true, true, true, true, true, true, true, true, true, true, true, false, false, false, false, false, false, false, false, false, false, false, false, false, false] rfl onlyN_noPanic (by kernel_rfl) (fun K hK => ?_); (go_simp; try go_bits); refine hK _ ?_; clear hK K
  refine wpR_rd 13 #[true, true, true, true, true, true, true, true, true, true, true, true, true, true, false, false, false, false, false, false, false, false, false, false, false, false, false] rfl onlyN_noPanic (by kernel_rfl) (fun K hK => ?_); (go_simp; try go_bits); refine hK _ ?_; clear hK K
  refine wpR_read (i := 14) #[true, true, true, true, true, true, true, true, true, true, true, true, true, true, true, false, false, false, false, false, false, false, false, false, false, false, false] rfl onlyN_noPanic (by kernel_rfl) (.inl ⟨rfl, exec_load rfl rfl hld⟩) ?_
  simp only [Act.put, List.setIfInBounds_toArray, List.set_cons_zero, List.set_cons_succ]
  refine wpR_rd 15 #[true, true, true, true, true, true, true, true, true, true, true, true, true, true, true, true, false, false, false, false, false, false, false, false, false, false, false] rfl onlyN_noPanic (by kernel_rfl) (fun K hK => ?_); (go_simp; try go_bits); refine hK _ ?_; clear hK K
  refine wpR_rd 16 #[true, true, true, true, true, true, true, true, true, true, true, true, true, true, true, true, true, false, false, false, false, false, false, false, false, false, false] rfl onlyN_noPanic (by kernel_rfl) (fun K hK => ?_); (go_simp; try go_bits); refine hK _ ?_; clear hK K
  refine wpR_read (i := 17) #[true, true, true, true, true, true, true, true, true, true, true, true, true, true, true, true, true, true, false, false, false, false, false, false, false, false, false] rfl onlyN_noPanic (by kernel_rfl) (.inl ⟨rfl, exec_load rfl rfl hld⟩) ?_
  simp only [Act.put, List.setIfInBounds_toArray, List.set_cons_zero, List.set_cons_succ]
  refine wpR_rd 18 #[true, true, true, true, true, true, true, true, true, true, true, true, true, true, true, true, true, true, true, false, false, false, false, false, false, false, false] rfl onlyN_noPanic (by kernel_rfl) (fun K hK => ?_); (go_simp; try go_bits); refine hK _ ?_; clear hK K
  refine wpR_rd 19 #[true, true, true, true, true, true, true, true, true, true, true, true, true, true, true, true, true, true, true, true, false, false, false, false, false, false, false] rfl onlyN_noPanic (by kernel_rfl) (fun K hK => ?_); (go_simp; try go_bits); refine hK _ ?_; clear hK K
  refine wpR_eff #[true, true, true, true, true, true, true, true, true, true, true, true, true, true, true, true, true, true, true, true, true, false, false, false, false, false, false] (i := 20) rfl (by kernel_rfl) (fun K hK => ?_)
  refine Eq.mpr (if_pos (by rfl)) ?_; refine wp_store_run rfl rfl rfl rfl hs1 ?_; refine hK _ _ ?_; clear hK K
  refine wpR_rd 21 #[true, true, true, true, true, true, true, true, true, true, true, true, true, true, true, true, true, true, true, true, true, true, false, false, false, false, false] rfl onlyN_noPanic (by kernel_rfl) (fun K hK => ?_); (go_simp; try go_bits); refine hK _ ?_; clear hK K
  refine wpR_rd 22 #[true, true, true, true, true, true, true, true, true, true, true, true, true, true, true, true, true, true, true, true, true, true, true, false, false, false, false] rfl onlyN_noPanic (by kernel_rfl) (fun K hK => ?_); (go_simp; try go_bits); refine hK _ ?_; clear hK K
  refine wpR_eff #[true, true, true, true, true, true, true, true, true, true, true, true, true, true, true, true, true, true, true, true, true, true, true, true, false, false, false] (i := 23) rfl (by kernel_rfl) (fun K hK => ?_)
  refine Eq.mpr (if_pos (by rfl)) ?_; refine wp_store_run rfl rfl rfl rfl hs2 ?_; refine hK _ _ ?_; clear hK K
  refine wpR_rd 24 #[true, true, true, true, true, true, true, true, true, true, true, true, true, true, true, true, true, true, true, true, true, true, true, true, true, false, false] rfl onlyN_noPanic (by kernel_rfl) (fun K hK => ?_); (go_simp; try go_bits); refine hK _ ?_; clear hK K
  refine wpR_rd 25 #[true, true, true, true, true, true, true, true, true, true, true, true, true, true, true, true, true, true, true, true, true, true, true, true, true, true, false] rfl onlyN_noPanic (by kernel_rfl) (fun K hK => ?_); (go_simp; try go_bits); refine hK _ ?_; clear hK K
  refine wpR_eff #[true, true, true, true, true, true, true, true, true, true, true, true, true, true, true, true, true, true, true, true, true, true, true, true, true, true, true] (i := 26) rfl (by kernel_rfl) (fun K hK => ?_)
  go_simp; refine hK _ _ ?_; clear hK K
  refine wpR_done (by kernel_rfl) ?_ _
  simp only [OnlyN]
  go_wp2
  go_ret
  exact ⟨rfl, HD.out⟩
end Go.Proofs.Ytgdcdcacccaanaa
