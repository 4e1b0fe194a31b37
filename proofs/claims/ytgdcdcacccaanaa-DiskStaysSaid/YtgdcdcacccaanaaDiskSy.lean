/- (*Disk).Sync. -/
import Derived.Test.YtgdcdcacccaanaaDiskS
namespace Go.Proofs.Ytgdcdcacccaanaa
open Go.RowKit HP
set_option linter.unusedSimpArgs false
set_option linter.unusedVariables false

theorem Cel.syncd_fine {c : Cel} (h : c.Fine) : c.syncd.Fine := by
  unfold Cel.syncd
  split
  · exact ⟨h.2.2.2, h.2.2.2, h.2.2.2, h.2.2.2⟩
  · exact h
def syncPre (l : List (Nat × Cel)) (k : Nat) : List (Nat × Cel) := (l.take k).map (fun x => (x.1, x.2.syncd)) ++ l.drop k
theorem syncPre_at {l : List (Nat × Cel)} {k : Nat} (h : k < l.length) : (syncPre l k)[k]? = some l[k] := by
  unfold syncPre
  rw [List.getElem?_append_right (by simp; omega)]
  simp [List.length_take, Nat.min_eq_left (Nat.le_of_lt h), List.getElem?_drop, h]
theorem syncPre_next {l : List (Nat × Cel)} {k : Nat} (h : k < l.length) : (syncPre l k).set k ((l[k]).1, (l[k]).2.syncd) = syncPre l (k + 1) := by
  unfold syncPre
  rw [List.set_append_right _ _ (by simp; omega)]
  have e : ((l.take k).map fun x => (x.1, x.2.syncd)).length = k := by simp; omega
  rw [e, Nat.sub_self, List.drop_eq_getElem_cons h, List.set_cons_zero, List.take_succ_eq_append_getElem h, List.map_append]
  simp
theorem syncPre_fst (l : List (Nat × Cel)) (k : Nat) : (syncPre l k).map (·.1) = l.map (·.1) := by
  unfold syncPre
  rw [List.map_append, List.map_map]
  show (l.take k).map (fun x => x.1) ++ (l.drop k).map (fun x => x.1) = _
  rw [← List.map_append, List.take_append_drop]
theorem syncPre_all (l : List (Nat × Cel)) : syncPre l l.length = l.map (fun x => (x.1, x.2.syncd)) := by simp [syncPre]
theorem syncPre_zero (l : List (Nat × Cel)) : syncPre l 0 = l := by simp [syncPre]
set_option maxHeartbeats 2000000 in
set_option maxRecDepth 100000 in
theorem disk_sync (E : Env) (q : HP) (d : Nat) (A : Dk) (name : ByteArray) (w : World) (hn : name.size ≤ maxLen) (hw : Sat E w (HP.disk d A * q)) :
    Calls Try.prog 13 #[.pointer (some ⟨d, 0, none⟩), .string name] w fun e w' => e = .returned (.int .i64 (A.sync name).1) ∧ Sat E w' (HP.disk d (A.sync name).2 * q) := by
  obtain ⟨m, es, clock, fs, hv, hd⟩ := hw.disk_open
  have hsm := at_small hv.fine name
  have hfu := hv.fine.fuse
  have HF : Aside (A.sync name = match lk A.files name with
    | none => (30, A)
    | some l => if A.goes = false then (31, A.burnt) else (0, A.burnt.set name (l.map Cel.syncd))) := ⟨rfl⟩
  clear hw
  go_enter Try.func13, Try.ntmps13
  go_wp2_with fail
  refine (disk_none E _ d _ _ m w (dk_parts hd)).mono ?_
  rintro e w1 ⟨rfl, rfl⟩
  have c1 := (dk_parts hd).cell 1
  simp only [List.getElem?_toArray, List.getElem?_cons_zero, List.getElem?_cons_succ] at c1
  obtain ⟨v, B, cc, hvB, -, hlook, hcase⟩ := find_file hv hd name hn
  rcases hcase with ⟨hlk, -⟩ | ⟨j, f, hj, hname, hfv, hlk⟩
  · rw [hlk] at HF hlook
    have HT : Aside (A.sync name = (30, A) ∧ Sat E w1 (HP.disk d A * q)) := ⟨HF.out, Sat.disk_close hv hd⟩
    clear HF hd hv hlk hvB hfu hsm
    go_wp2
    go_ret
    rw [HT.out.1]
    exact ⟨rfl, HT.out.2⟩
  · rw [hlk] at HF hlook
    subst hname
    have hat : A.at f.name = f.cs := by simp [Dk.at, hlk]
    rw [hat, Fil.cs, List.length_map] at hvB hsm
    have HV := Aside.mk (And.intro hv (And.intro hj (And.intro hfv hvB)))
    rw [hvB] at hlook
    clear hlk hat hv hj hfv hvB
    go_wp2_with fail
    refine (disk_burn E _ d _ _ m w1 hfu.2 (dk_parts hd)).mono ?_
    rintro e w3 ⟨rfl, hd3⟩
    cases hgo : A.goes with
    | false =>
      have hgo' : (burnI A.fuse).2 = false := hgo
      rw [hgo']
      have HT : Aside (A.sync f.name = (31, A.burnt) ∧ Sat E w3 (HP.disk d A.burnt * q)) := ⟨by rw [HF.out]; simp [hgo], Sat.disk_close HV.out.1.burnt (burnt_dsk hd3)⟩
      clear HF hd hd3 HV hgo hgo' hfu hsm hlook c1
      go_wp2
      go_ret
      rw [HT.out.1]
      exact ⟨rfl, HT.out.2⟩
    | true =>
      have hgo' : (burnI A.fuse).2 = true := hgo
      rw [hgo']
      have HS : Aside (A.sync f.name = (0, A.burnt.set f.name (f.cs.map Cel.syncd))) := ⟨by rw [HF.out]; simp [hgo]⟩
      obtain ⟨hv, hj, hfv, hvB⟩ := HV.out
      obtain ⟨R, h4, hclose⟩ := take_file hv.burnt (burnt_dsk hd3) hj
      rw [hfv, hvB] at h4 hclose
      have HFine : Aside (∀ x ∈ f.cels, x.2.Fine) := ⟨fun x hx => hv.cel_fine (List.mem_of_getElem? hj) hx⟩
      have HC := Aside.mk hclose
      have H4 := Aside.mk h4
      clear hclose h4 HF hd hd3 HV hgo hgo' hfu hlook c1 hv hj hfv hvB
      obtain ⟨n, hnn⟩ : ∃ n, n = f.cels.length := ⟨_, rfl⟩
      rw [← hnn] at H4 HC hsm ⊢
      have HN := Aside.mk hnn
      clear hnn
      go_wp2
      go_loopw [29] (fun x wr => ∃ k : Nat, x = .int .i64 k ∧ k ≤ n ∧ Aside (Sat E wr (HP.row 77 1 (.slice B n cc) n (celPtrs f.cels) * (HP.cels (syncPre f.cels k) * R)))) (fun x _ => n - (intOf x).toNat)
      case atStart => exact ⟨0, rfl, Nat.zero_le _, ⟨by rw [syncPre_zero]; exact H4.out⟩⟩
      case round =>
        clear H4
        obtain ⟨k, rfl, hk, HR⟩ := hrel
        by_cases hlt : k < n
        · have hkf : k < f.cels.length := by have := HN.out; omega
          have hrow := HR.out
          obtain ⟨pa, hpa, hcx⟩ := hrow.row_cells.at_ k (by simp [celPtrs, hkf])
          obtain ⟨g, o, rfl⟩ : ∃ g o, pa = ⟨g, o, none⟩ := slice_addr hrow.row_cells hpa (k := k) (by simp [celPtrs, hkf])
          subst hpa
          rw [addr_add] at hcx
          simp only [celPtrs, List.getElem_map] at hcx
          obtain ⟨Rk, h5, -, hback⟩ := cels_take (hrow.s2) (syncPre_at hkf)
          have hxf : (f.cels[k]).2.Fine := HFine.out _ (List.getElem_mem hkf)
          have hnext : Aside (∀ w', Sat E w' (HP.cel (f.cels[k]).1 (f.cels[k]).2.syncd * Rk) → Sat E w' (HP.row 77 1 (.slice (some ⟨g, o, none⟩) n cc) n (celPtrs f.cels) * (HP.cels (syncPre f.cels (k + 1)) * R))) := ⟨fun w' h => by
            have := hback w' _ h
            rw [syncPre_next hkf] at this
            exact this.s2⟩
          generalize f.cels[k] = x at *
          obtain ⟨bk, c⟩ := x
          dsimp only at *
          have cw := cel_waits h5 hxf
          have hk0 : (0 : Int) ≤ (k : Int) := by omega
          have hk1 : (k : Int) < (n : Int) := by omega
          clear HR hrow hback
          cases hcw : c.waits with
          | true =>
            rw [hcw] at cw
            have hld := run_loadAgg agImg (by rw [b8s_length, hxf.2.2.2]) (cel_written h5.drew hxf)
            have hsy : c.syncd = ⟨c.written, c.written, c.written, c.written, false⟩ := by simp [Cel.syncd, hcw]
            have hbd := build_all (x := false) hxf.2.2.2 hxf.2.2.2 hxf.2.2.2 hxf.2.2.2 wr.drew
            obtain ⟨w6, hst, h6⟩ := cel_store_all h5.drew hxf (Cel.syncd_fine hxf)
            rw [hsy] at hst
            have HH := Aside.mk (hnext.out _ h6)
            generalize (b8s c.written).toArray = img at *
            generalize (⟨c.written, c.written, c.written, c.written, false⟩ : Cel).vals.toArray = cv at *
            clear hnext h5 h6 hxf hcw hsy
            go_wp2
            refine region_R [19] [] (fun _ => True) #[false, false, false, false, false, false, false, false, false, false, false, false, false, false, false, false, false, false, false, false] (by kernel_rfl) rfl rfl ?_
            refine wpR_rd 0 #[true, false, false, false, false, false, false, false, false, false, false, false, false, false, false, false, false, false, false, false] rfl onlyN_noPanic (by kernel_rfl) (fun K hK => ?_); (go_simp; try go_bits); refine hK _ ?_; clear hK K
            refine wpR_rd 1 #[true, true, false, false, false, false, false, false, false, false, false, false, false, false, false, false, false, false, false, false] rfl onlyN_noPanic (by kernel_rfl) (fun K hK => ?_); (go_simp; try go_bits); refine hK _ ?_; clear hK K
            refine wpR_rd 2 #[true, true, true, false, false, false, false, false, false, false, false, false, false, false, false, false, false, false, false, false] rfl onlyN_noPanic (by kernel_rfl) (fun K hK => ?_); (go_simp; try go_bits); refine hK _ ?_; clear hK K
            refine wpR_rd 3 #[true, true, true, true, false, false, false, false, false, false, false, false, false, false, false, false, false, false, false, false] rfl onlyN_noPanic (by kernel_rfl) (fun K hK => ?_); (go_simp; try go_bits); refine hK _ ?_; clear hK K
            refine wpR_read (i := 4) #[true, true, true, true, true, false, false, false, false, false, false, false, false, false, false, false, false, false, false, false] rfl onlyN_noPanic (by kernel_rfl) (.inl ⟨rfl, exec_load rfl rfl hld⟩) ?_
            simp only [Act.put, List.setIfInBounds_toArray, List.set_cons_zero, List.set_cons_succ]
            refine wpR_rd 5 #[true, true, true, true, true, true, false, false, false, false, false, false, false, false, false, false, false, false, false, false] rfl onlyN_noPanic (by kernel_rfl) (fun K hK => ?_); (go_simp; try go_bits); refine hK _ ?_; clear hK K
            refine wpR_rd 6 #[true, true, true, true, true, true, true, false, false, false, false, false, false, false, false, false, false, false, false, false] rfl onlyN_noPanic (by kernel_rfl) (fun K hK => ?_); (go_simp; try go_bits); refine hK _ ?_; clear hK K
            refine wpR_rd 7 #[true, true, true, true, true, true, true, true, false, false, false, false, false, false, false, false, false, false, false, false] rfl onlyN_noPanic (by kernel_rfl) (fun K hK => ?_); (go_simp; try go_bits); refine hK _ ?_; clear hK K
            refine wpR_read (i := 8) #[true, true, true, true, true, true, true, true, true, false, false, false, false, false, false, false, false, false, false, false] rfl onlyN_noPanic (by kernel_rfl) (.inl ⟨rfl, exec_load rfl rfl hld⟩) ?_
            simp only [Act.put, List.setIfInBounds_toArray, List.set_cons_zero, List.set_cons_succ]
            refine wpR_rd 9 #[true, true, true, true, true, true, true, true, true, true, false, false, false, false, false, false, false, false, false, false] rfl onlyN_noPanic (by kernel_rfl) (fun K hK => ?_); (go_simp; try go_bits); refine hK _ ?_; clear hK K
            refine wpR_rd 10 #[true, true, true, true, true, true, true, true, true, true, true, false, false, false, false, false, false, false, false, false] rfl onlyN_noPanic (by kernel_rfl) (fun K hK => ?_); (go_simp; try go_bits); refine hK _ ?_; clear hK K
            refine wpR_rd 11 #[true, true, true, true, true, true, true, true, true, true, true, true, false, false, false, false, false, false, false, false] rfl onlyN_noPanic (by kernel_rfl) (fun K hK => ?_); (go_simp; try go_bits); refine hK _ ?_; clear hK K
            refine wpR_read (i := 12) #[true, true, true, true, true, true, true, true, true, true, true, true, true, false, false, false, false, false, false, false] rfl onlyN_noPanic (by kernel_rfl) (.inl ⟨rfl, exec_load rfl rfl hld⟩) ?_
            simp only [Act.put, List.setIfInBounds_toArray, List.set_cons_zero, List.set_cons_succ]
            refine wpR_rd 13 #[true, true, true, true, true, true, true, true, true, true, true, true, true, true, false, false, false, false, false, false] rfl onlyN_noPanic (by kernel_rfl) (fun K hK => ?_); (go_simp; try go_bits); refine hK _ ?_; clear hK K
            refine wpR_rd 14 #[true, true, true, true, true, true, true, true, true, true, true, true, true, true, true, false, false, false, false, false] rfl onlyN_noPanic (by kernel_rfl) (fun K hK => ?_); (go_simp; try go_bits); refine hK _ ?_; clear hK K
            refine wpR_rd 15 #[true, true, true, true, true, true, true, true, true, true, true, true, true, true, true, true, false, false, false, false] rfl onlyN_noPanic (by kernel_rfl) (fun K hK => ?_); (go_simp; try go_bits); refine hK _ ?_; clear hK K
            refine wpR_read (i := 16) #[true, true, true, true, true, true, true, true, true, true, true, true, true, true, true, true, true, false, false, false] rfl onlyN_noPanic (by kernel_rfl) (.inl ⟨rfl, exec_load rfl rfl hld⟩) ?_
            simp only [Act.put, List.setIfInBounds_toArray, List.set_cons_zero, List.set_cons_succ]
            refine wpR_read (i := 17) #[true, true, true, true, true, true, true, true, true, true, true, true, true, true, true, true, true, true, false, false] rfl onlyN_noPanic (by kernel_rfl) (.inl ⟨rfl, exec_build rfl (by simp only [List.map_toArray, List.map_cons, List.map_nil]; exact hbd)⟩) ?_
            simp only [Act.put, List.setIfInBounds_toArray, List.set_cons_zero, List.set_cons_succ]
            refine wpR_rd 18 #[true, true, true, true, true, true, true, true, true, true, true, true, true, true, true, true, true, true, true, false] rfl onlyN_noPanic (by kernel_rfl) (fun K hK => ?_); (go_simp; try go_bits); refine hK _ ?_; clear hK K
            refine wpR_eff #[true, true, true, true, true, true, true, true, true, true, true, true, true, true, true, true, true, true, true, true] (i := 19) rfl (by kernel_rfl) (fun K hK => ?_)
            refine Eq.mpr (if_pos (by rfl)) ?_; refine wp_store_run rfl rfl rfl rfl hst ?_; refine hK _ _ ?_; clear hK K
            refine wpR_done (by kernel_rfl) ?_ _
            simp only [OnlyN]
            go_wp2
            go_roundw
            case rel => exact ⟨k + 1, by go_num, by omega, HH⟩
            case measure => simp [intOf]; omega
          | false =>
            rw [hcw] at cw
            have hsy : c.syncd = c := by simp [Cel.syncd, hcw]
            rw [hsy] at hnext
            have HH := Aside.mk (hnext.out _ h5)
            clear hnext h5 hxf hcw hsy
            go_wp2
            go_roundw
            case rel => exact ⟨k + 1, by go_num, by omega, HH⟩
            case measure => simp [intOf]; omega
        · have hkn : k = f.cels.length := by have := HN.out; omega
          have HT : Aside (A.sync f.name = (0, A.burnt.set f.name (f.cs.map Cel.syncd)) ∧ Sat E wr (HP.disk d (A.burnt.set f.name (f.cs.map Cel.syncd)) * q)) := ⟨HS.out, by
            have h7 := HR.out
            rw [hkn, syncPre_all] at h7
            have h8 := HC.out wr _ (by simp) (fun x hx => by
              obtain ⟨y, hy, rfl⟩ := List.mem_map.1 hx
              exact Cel.syncd_fine (HFine.out y hy)) h7
            have e : (f.cels.map fun x => (x.1, x.2.syncd)).map (·.2) = f.cs.map Cel.syncd := by simp [Fil.cs]
            rw [e] at h8
            exact Sat.disk_close h8.1 h8.2⟩
          clear HR HC HN HS HFine
          go_wp2
          go_ret
          rw [HT.out.1]
          exact ⟨rfl, HT.out.2⟩
end Go.Proofs.Ytgdcdcacccaanaa
