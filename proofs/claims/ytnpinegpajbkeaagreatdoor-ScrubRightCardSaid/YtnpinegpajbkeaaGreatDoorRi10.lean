/- Texts of one claim, one behind the other: RefI3, RefJ3. -/
import Derived.Test.YtnpinegpajbkeaaGreatDoorRi9
set_option linter.unusedSimpArgs false
set_option linter.unusedVariables false
namespace Go.Proofs.YtnpinegpajbkeaaGreatDoor
open Go.RowKit HP
theorem slFi : SlTy Tryz.prog 156 174 (.agg #[.string ⟨#[]⟩, .slice none 0 0]) 2 40 := ⟨Tryz.underlying156, by kernel_rfl, rfl, by decide⟩
theorem vals_len : ∀ l : List RF, (l.flatMap RF.vals).length = l.length * 2
  | [] => rfl
  | f :: l => by rw [List.flatMap_cons, List.length_append, vals_len l, List.length_cons]; show 2 + _ = _; omega
theorem vals_take : ∀ (l : List RF) (k : Nat), (l.take k).flatMap RF.vals = (l.flatMap RF.vals).take (k * 2)
  | [], k => by simp
  | f :: l, 0 => by simp
  | f :: l, k + 1 => by
    rw [List.take_succ_cons, List.flatMap_cons, List.flatMap_cons, vals_take l k, show (k + 1) * 2 = k * 2 + 1 + 1 by omega]
    rfl
theorem vals_drop : ∀ (l : List RF) (k : Nat), (l.drop k).flatMap RF.vals = (l.flatMap RF.vals).drop (k * 2)
  | [], k => by simp
  | f :: l, 0 => by simp
  | f :: l, k + 1 => by
    rw [List.drop_succ_cons, List.flatMap_cons, vals_drop l k, show (k + 1) * 2 = k * 2 + 1 + 1 by omega]
    rfl
theorem vals_one : ∀ l : List RF, (∀ f ∈ l, ∃ A c, f.val = .slice A f.cs.length c) → (l.flatMap RF.vals).all Value.oneCell' = true
  | [], _ => rfl
  | f :: l, h => by
    obtain ⟨A, c, hf⟩ := h f (List.mem_cons_self ..)
    rw [List.flatMap_cons, List.all_append, vals_one l fun f' hf' => h f' (List.mem_cons_of_mem _ hf')]
    unfold RF.vals
    rw [hf]
    rfl
theorem Sat.rdk_files {E : Env} {w : World} {q : HP} {y N : Nat} {room fuse : Int} {v V : Value} {fs' : List RF} {L : List (Value × List Int)} (hN : N = fs'.length) (h : Sat E w (HP.row 174 2 V N (fs'.flatMap RF.vals) * (HP.pt y (.cells #[.int .i64 room, v, .int .i64 fuse] 158) * (HP.all (fs'.map HP.rcs) * (HP.imgs L * q))))) :
    Sat E (w.setCell ⟨y, 1, none⟩ V) (HP.rdk y room fuse V fs' L * q) := by
  have h1 := h.s2.set (i := 1) V
  simp only [List.setIfInBounds_toArray, List.set_cons_zero, List.set_cons_succ] at h1
  rw [hN] at h1
  exact h1.rdk_join
theorem Sat.rdk_del {E : Env} {w : World} {q : HP} {y N k : Nat} {room fuse : Int} {v V : Value} {fs : List RF} {L : List (Value × List Int)} {f : RF} (hk : fs[k]? = some f) (hN : N = (fs.take k ++ fs.drop (k + 1)).length) (h : Sat E w (HP.row 174 2 V N ((fs.take k).flatMap RF.vals ++ (fs.drop (k + 1)).flatMap RF.vals) * (HP.rdk y room fuse v fs L * q))) :
    Sat E (w.setCell ⟨y, 1, none⟩ V) (HP.rdk y room fuse V (fs.take k ++ fs.drop (k + 1)) L * q) := by
  refine Sat.rdk_files (v := v) hN ?_
  rw [List.flatMap_append]
  have e : HP.all (fs.map HP.rcs) = HP.rcs f * HP.all ((fs.take k ++ fs.drop (k + 1)).map HP.rcs) := by
    rw [all_take (j := k) (p := HP.rcs f) (by rw [List.getElem?_map, hk]; rfl), List.eraseIdx_eq_take_drop_succ, List.map_append, List.map_take, List.map_drop]
  unfold HP.rdk at h
  rw [e] at h
  exact (h.perm (by ac_rfl : _ = HP.rcs f * (HP.row 174 2 v fs.length (fs.flatMap RF.vals) * (HP.row 174 2 V N ((fs.take k).flatMap RF.vals ++ (fs.drop (k + 1)).flatMap RF.vals) * (HP.pt y (.cells #[.int .i64 room, v, .int .i64 fuse] 158) * (HP.all ((fs.take k ++ fs.drop (k + 1)).map HP.rcs) * (HP.imgs L * q))))))).right.right
theorem lk_first {α : Type} {l : List (ByteArray × α)} (hs : Sorted l) {k : Nat} {s : ByteArray} {u : α} (hk : l[k]? = some (s, u)) : lk l s = some u := lk_of_mem hs (List.mem_of_getElem? hk)
theorem RView.del {A : Dk} {fs : List RF} {L : List (Value × List Int)} (hv : RView A fs L) {k : Nat} {f : RF} (hk : fs[k]? = some f) (hA : (A.burnt.files : List (ByteArray × List Cel)) = A.files) : RView { A.burnt with files := delF A.files f.name } (fs.take k ++ fs.drop (k + 1)) L := by
  have hkA : A.files[k]? = some (f.name, f.cs.map (·.c)) := by rw [← hv.same, List.getElem?_map, hk]; rfl
  refine ⟨?_, fun f' hf' => hv.imgs f' ?_, ?_⟩
  · rw [delF_at hv.fine.sorted hkA, ← hv.same, List.map_append, List.map_take, List.map_drop]
  · rcases List.mem_append.1 hf' with h | h
    · exact List.mem_of_mem_take h
    · exact List.mem_of_mem_drop h
  · have hF := hv.burnt.fine
    refine ⟨sorted_del _ hv.fine.sorted, fun x hx => hv.fine.named x (List.mem_filter.1 hx).1, fun x hx => hv.fine.cels x (List.mem_filter.1 hx).1, hF.room, hF.fuse, ?_⟩
    have := sizeF_del (l := A.files) f.name
    have := hv.fine.fits
    show (sizeF (delF A.files f.name) : Int) ≤ A.room
    omega
set_option maxHeartbeats 4000000 in
set_option maxRecDepth 100000 in
theorem ref_remove (E : Env) (q : HP) (y : Nat) (A : Dk) (name : ByteArray) (w : World) (hw : Sat E w (HP.rdisk y A * q)) :
    Calls Tryz.prog 76 #[.pointer (some ⟨y, 0, none⟩), .string name] w fun e w' => e = .returned (.int .i64 (A.remove name).1) ∧ Sat E w' (HP.rdisk y (A.remove name).2 * q) := by
  obtain ⟨v, fs, L, hv, hk⟩ := hw.rdisk_open
  clear hw
  obtain ⟨FA, cF, rfl, hcF, hcM⟩ := hk.rdk_parts.s2.row_slice
  obtain ⟨n, hn⟩ : ∃ n, n = fs.length := ⟨_, rfl⟩
  have hfl := hv.flen
  rw [← hn] at hcF hk hfl
  have HN := Aside.mk hn
  have HW := Aside.mk hk
  clear hn hk
  obtain ⟨AR, hAR⟩ : ∃ AR, AR = A.remove name := ⟨_, rfl⟩
  rw [← hAR]
  have HPl := Aside.mk (ref_place E q y A.room A.fuse (.slice FA n cF) fs L name w (by rw [← HN.out]; exact hfl) HW.out)
  rcases plI_cases fs name with ⟨k, f, h1, h2, h3, h4⟩ | ⟨h1, h2⟩
  · rw [h1] at HPl
    have hkA : A.files[k]? = some (name, f.cs.map (·.c)) := by rw [← hv.same, List.getElem?_map, h2, ← h3]; rfl
    have hlk : lk A.files name = some (f.cs.map (·.c)) := lk_first hv.fine.sorted hkA
    have HV := Aside.mk hv
    have HF := Aside.mk (And.intro h2 h3)
    have hk0 : (0 : Int) ≤ (k : Int) := by omega
    have hkn : k < n := by rw [HN.out]; exact (List.getElem?_eq_some_iff.1 h2).1
    have hk1 : (k : Int) < (n : Int) := by omega
    cases hg : A.goes with
    | false =>
      have HA : Aside (AR = (31, A.burnt)) := ⟨by rw [hAR]; unfold Dk.remove; rw [hlk]; simp [hg]⟩
      have HG := Aside.mk hg
      clear hv h1 h2 h3 h4 hkA hlk hAR hg
      go_enter Tryz.func76, Tryz.ntmps76
      go_wp2_with fail
      refine HPl.out.mono ?_
      rintro e w1 ⟨rfl, h1⟩
      have HS := Aside.mk h1
      clear h1
      go_wp2_with fail
      refine (ref_stops E q y A _ fs L _ HV.out.fine.fuse HS.out).mono ?_
      rw [HG.out]
      rintro e w2 ⟨rfl, h2⟩
      have HS2 := Aside.mk h2
      clear h2 HS
      go_wp2
      go_ret
      rw [HA.out]
      exact ⟨rfl, Sat.rdisk_close (A := A.burnt) HV.out.burnt HS2.out⟩
    | true =>
      have HA : Aside (AR = (0, { A.burnt with files := delF A.files name })) := ⟨by rw [hAR]; unfold Dk.remove; rw [hlk]; simp [hg]⟩
      have HG := Aside.mk hg
      clear hv h1 h2 h3 h4 hkA hlk hAR hg
      go_enter Tryz.func76, Tryz.ntmps76
      go_wp2_with fail
      refine HPl.out.mono ?_
      rintro e w1 ⟨rfl, h1⟩
      have HS := Aside.mk h1
      clear h1
      go_wp2_with fail
      refine (ref_stops E q y A _ fs L _ HV.out.fine.fuse HS.out).mono ?_
      rw [HG.out]
      rintro e w2 ⟨rfl, h2⟩
      have HS2 := Aside.mk h2
      clear h2 HS HW HPl
      obtain ⟨fuse, hfu⟩ : ∃ fuse, fuse = A.burnt.fuse := ⟨_, rfl⟩
      obtain ⟨room, hro⟩ : ∃ room, room = A.room := ⟨_, rfl⟩
      rw [← hfu, ← hro] at HS2
      have HFR := Aside.mk (And.intro hfu hro)
      clear hfu hro
      obtain ⟨g, o, VA, VC, rfl, hval, hvc, -, -⟩ := HS2.out.rf_at HN.out HF.out.1
      clear hval hvc
      have HLN : Aside (((fs.take k).flatMap RF.vals).length = k * 2 ∧ ((fs.drop (k + 1)).flatMap RF.vals).length = (n - (k + 1)) * 2) := ⟨by
        rw [vals_len, vals_len, List.length_take, List.length_drop, ← HN.out]
        exact ⟨by rw [Nat.min_eq_left (by omega)], rfl⟩⟩
      have HC : Aside (∀ W, Sat E W (HP.rdk y room fuse (.slice (some ⟨g, o, none⟩) n cF) fs L * q) → W.cell? ⟨y, 1, none⟩ = some (.slice (some ⟨g, o, none⟩) n cF) ∧ Cells W (some ⟨g, o, none⟩) ((fs.take k).flatMap RF.vals) ∧ Cells W (some ⟨g, o + (k + 1) * 2, none⟩) ((fs.drop (k + 1)).flatMap RF.vals)) := ⟨fun W h => by
        have hrow := h.rdk_parts.s2
        rw [← HN.out] at hrow
        have hrc := hrow.row_cells
        refine ⟨(h.rf_cell HN.out HF.out.1).1, ?_, ?_⟩
        · rw [vals_take fs k]; exact hrc.take _
        · rw [vals_drop fs (k + 1), ← addr_add]; exact hrc.drop _⟩
      have HVO : Aside (∀ f ∈ fs, ∃ A c, f.val = .slice A f.cs.length c) := ⟨fun f hf => let ⟨A, c, h, _⟩ := HS2.out.rf_val hf; ⟨A, c, h⟩⟩
      have hkc : k ≤ cF := by omega
      have hkc1 : k + 1 ≤ cF := by omega
      have hkc2 : (k : Int) + 1 ≤ (cF : Int) := by omega
      have hk01 : (0 : Int) ≤ (k : Int) + 1 := by omega
      have HVD : Aside (RView { A.burnt with files := delF A.files name } (fs.take k ++ fs.drop (k + 1)) L) := ⟨by have h := HV.out.del HF.out.1 rfl; rw [HF.out.2] at h; exact h⟩
      have HS := HS2
      clear HS2
      by_cases hck : cF = k + 1
      · have hnk : n = k + 1 := by omega
        have HNN : Aside (k = (fs.take k ++ fs.drop (k + 1)).length) := ⟨by rw [List.length_append, List.length_take, List.length_drop, ← HN.out]; omega⟩
        have HDN : Aside ((fs.drop (k + 1)).flatMap RF.vals = []) := ⟨by rw [List.drop_eq_nil_of_le (by rw [← HN.out]; omega)]; rfl⟩
        have hkk : (k : Int) ≤ (k : Int) + 1 := by omega
        subst hck
        subst hnk
        go_wp2
        refine region_R [1, 8, 16, 19] [1, 8] (fun W => Sat E W (HP.rdk y room fuse (.slice (some ⟨g, o, none⟩) (k + 1) (k + 1)) fs L * q)) #[false, false, false, false, false, false, false, false, false, false, false, false, false, false, false, false, false, false, false, false] (by kernel_rfl) rfl rfl ?_
        have HT : Aside ((fun W => Sat E W (HP.rdk y room fuse (.slice (some ⟨g, o, none⟩) (k + 1) (k + 1)) fs L * q)) _) := ⟨(HS.out).drew⟩
        refine wpR_pu 0 #[true, false, false, false, false, false, false, false, false, false, false, false, false, false, false, false, false, false, false, false] rfl onlyN_noPanic (by kernel_rfl) (fun K hK => ?_); (go_simp; try go_bits); refine hK _ ?_; clear hK K
        refine wpR_pu 2 #[true, false, true, false, false, false, false, false, false, false, false, false, false, false, false, false, false, false, false, false] rfl onlyN_noPanic (by kernel_rfl) (fun K hK => ?_); (go_simp; try go_bits); refine hK _ ?_; clear hK K
        refine wpR_pu 3 #[true, false, true, true, false, false, false, false, false, false, false, false, false, false, false, false, false, false, false, false] rfl onlyN_noPanic (by kernel_rfl) (fun K hK => ?_); (go_simp; try go_bits); refine hK _ ?_; clear hK K
        refine wpR_pu 4 #[true, false, true, true, true, false, false, false, false, false, false, false, false, false, false, false, false, false, false, false] rfl onlyN_noPanic (by kernel_rfl) (fun K hK => ?_); (go_simp; try go_bits); refine hK _ ?_; clear hK K
        refine wpR_held (i := 5) (v := .slice (some ⟨g, o, none⟩) (k + 1) (k + 1)) #[true, false, true, true, true, true, false, false, false, false, false, false, false, false, false, false, false, false, false, false] rfl onlyN_noPanic (by kernel_rfl) HT.out (.inl ⟨rfl, fun w' hT => ?_⟩) ?_
        · obtain ⟨t1, -⟩ := HC.out _ hT; go_simp
        simp only [Act.put, List.setIfInBounds_toArray, List.set_cons_zero, List.set_cons_succ]
        refine wpR_pu 6 #[true, false, true, true, true, true, true, false, false, false, false, false, false, false, false, false, false, false, false, false] rfl onlyN_noPanic (by kernel_rfl) (fun K hK => ?_); (go_simp; try go_bits); refine hK _ ?_; clear hK K
        refine wpR_pu 7 #[true, false, true, true, true, true, true, true, false, false, false, false, false, false, false, false, false, false, false, false] rfl onlyN_noPanic (by kernel_rfl) (fun K hK => ?_); (go_simp; try go_bits); refine hK _ ?_; clear hK K
        refine wpR_pu 9 #[true, false, true, true, true, true, true, true, false, true, false, false, false, false, false, false, false, false, false, false] rfl onlyN_noPanic (by kernel_rfl) (fun K hK => ?_); (go_simp; try go_bits); refine hK _ ?_; clear hK K
        refine wpR_pu 10 #[true, false, true, true, true, true, true, true, false, true, true, false, false, false, false, false, false, false, false, false] rfl onlyN_noPanic (by kernel_rfl) (fun K hK => ?_); (go_simp; try go_bits); refine hK _ ?_; clear hK K
        refine wpR_pu 11 #[true, false, true, true, true, true, true, true, false, true, true, true, false, false, false, false, false, false, false, false] rfl onlyN_noPanic (by kernel_rfl) (fun K hK => ?_); (go_simp; try go_bits); refine hK _ ?_; clear hK K
        refine wpR_held (i := 12) (v := .slice (some ⟨g, o, none⟩) (k + 1) (k + 1)) #[true, false, true, true, true, true, true, true, false, true, true, true, true, false, false, false, false, false, false, false] rfl onlyN_noPanic (by kernel_rfl) HT.out (.inl ⟨rfl, fun w' hT => ?_⟩) ?_
        · obtain ⟨t1, -⟩ := HC.out _ hT; go_simp
        simp only [Act.put, List.setIfInBounds_toArray, List.set_cons_zero, List.set_cons_succ]
        refine wpR_pu 13 #[true, false, true, true, true, true, true, true, false, true, true, true, true, true, false, false, false, false, false, false] rfl onlyN_noPanic (by kernel_rfl) (fun K hK => ?_); (go_simp; try go_bits); refine hK _ ?_; clear hK K
        refine wpR_pu 14 #[true, false, true, true, true, true, true, true, false, true, true, true, true, true, true, false, false, false, false, false] rfl onlyN_noPanic (by kernel_rfl) (fun K hK => ?_); (go_simp; try go_bits); refine hK _ ?_; clear hK K
        refine wpR_pu 15 #[true, false, true, true, true, true, true, true, false, true, true, true, true, true, true, true, false, false, false, false] rfl onlyN_noPanic (by kernel_rfl) (fun K hK => ?_); (go_simp; try go_bits); refine hK _ ?_; clear hK K
        clear HT
        have HS0 := Aside.mk HS.out.drew
        clear HS
        revert HS0
        generalize World.drew w2 = W0
        intro HS0
        refine wpR_keep #[true, true, true, true, true, true, true, true, false, true, true, true, true, true, true, true, false, false, false, false] (i := 1) rfl (by kernel_rfl) (fun K hK => ?_)
        go_simp
        obtain ⟨W1, hW1⟩ : ∃ x, x = World.alloc W0 (.cells #[] 174) := ⟨_, rfl⟩
        have hn1 : Sat E W1 (HP.rdk y room fuse (.slice (some ⟨g, o, none⟩) (k + 1) (k + 1)) fs L * q) := by rw [hW1]; exact (HS0.out.alloc _).right
        rw [← hW1]
        refine hK _ _ hn1 ?_
        clear hK K hW1
        generalize World.heap W0 = hp0
        generalize Array.size hp0 = gE
        have HS1 : Aside (Sat E W1 (HP.rdk y room fuse (.slice (some ⟨g, o, none⟩) (k + 1) (k + 1)) fs L * q)) := ⟨hn1.perm (by ac_rfl)⟩
        clear hn1
        refine wpR_keep #[true, true, true, true, true, true, true, true, true, true, true, true, true, true, true, true, false, false, false, false] (i := 8) rfl (by kernel_rfl) (fun K hK => ?_)
        refine Eq.mpr (if_pos (by rfl)) ?_
        refine wp_append_row (v := .slice (some ⟨gE, 0, none⟩) 0 0) (n := 0) (cs := []) (A := some ⟨g, o, none⟩) (m := k) (c := k + 1) (news := (fs.take k).flatMap RF.vals) slFi rfl rfl rfl (HS1.out.row_nil 174 2 _) (HC.out _ HS1.out).2.1 HLN.out.1 (vals_one _ fun f hf => HVO.out f (List.mem_of_mem_take hf)) (by unfold maxLen; omega) (by omega) (fun v8 W2 hn2 => ?_)
        rw [List.nil_append, Nat.zero_add] at hn2
        refine hK _ _ hn2.right ?_
        clear hK K
        have HS2 : Aside (Sat E W2 (HP.row 174 2 v8 k ((fs.take k).flatMap RF.vals) * (HP.rdk y room fuse (.slice (some ⟨g, o, none⟩) (k + 1) (k + 1)) fs L * q))) := ⟨hn2.perm (by ac_rfl)⟩
        clear hn2 HS1
        refine wpR_eff #[true, true, true, true, true, true, true, true, true, true, true, true, true, true, true, true, true, false, false, false] (i := 16) rfl (by kernel_rfl) (fun K hK => ?_)
        refine Eq.mpr (if_pos (by rfl)) ?_
        refine wp_append_row (v := v8) (n := k) (cs := (fs.take k).flatMap RF.vals) (A := some ⟨g, o, none⟩) (m := 0) (c := 0) (news := (fs.drop (k + 1)).flatMap RF.vals) slFi rfl rfl rfl HS2.out (by rw [HDN.out]; exact Cells.nil _ _) (by rw [HDN.out]; rfl) (vals_one _ fun f hf => HVO.out f (List.mem_of_mem_drop hf)) (by unfold maxLen; omega) (by omega) (fun v16 W3 hn3 => ?_)
        rw [Nat.add_zero] at hn3
        obtain ⟨A16, c16, rfl, -, -⟩ := hn3.row_slice
        refine hK _ _ ?_
        clear hK K
        have HS3 : Aside (Sat E W3 (HP.row 174 2 (.slice A16 k c16) k ((fs.take k).flatMap RF.vals ++ (fs.drop (k + 1)).flatMap RF.vals) * (HP.rdk y room fuse (.slice (some ⟨g, o, none⟩) (k + 1) (k + 1)) fs L * q))) := ⟨hn3.perm (by ac_rfl)⟩
        clear hn3 HS2
        refine wpR_rd 17 #[true, true, true, true, true, true, true, true, true, true, true, true, true, true, true, true, true, true, false, false] rfl onlyN_noPanic (by kernel_rfl) (fun K hK => ?_); (go_simp; try go_bits); refine hK _ ?_; clear hK K
        refine wpR_rd 18 #[true, true, true, true, true, true, true, true, true, true, true, true, true, true, true, true, true, true, true, false] rfl onlyN_noPanic (by kernel_rfl) (fun K hK => ?_); (go_simp; try go_bits); refine hK _ ?_; clear hK K
        refine wpR_eff #[true, true, true, true, true, true, true, true, true, true, true, true, true, true, true, true, true, true, true, true] (i := 19) rfl (by kernel_rfl) (fun K hK => ?_)
        have t9 := HS3.out.right.rdk_parts.cell 1
        simp only [List.getElem?_toArray, List.getElem?_cons_zero, List.getElem?_cons_succ] at t9
        have z9 := HS3.out.right.rdk_parts.thaw 1
        go_simp
        obtain ⟨W4, hW4⟩ : ∃ x, x = World.setCell W3 ⟨y, 1, none⟩ (.slice A16 k c16) := ⟨_, rfl⟩
        have hn4 : Sat E W4 (HP.rdk y room fuse (.slice A16 k c16) (fs.take k ++ fs.drop (k + 1)) L * q) := by
          rw [hW4]
          exact Sat.rdk_del HF.out.1 HNN.out HS3.out
        rw [← hW4]
        refine hK _ _ ?_
        clear hK K hW4 t9 z9
        have HS4 : Aside (Sat E W4 (HP.rdk y room fuse (.slice A16 k c16) (fs.take k ++ fs.drop (k + 1)) L * q)) := ⟨hn4.perm (by ac_rfl)⟩
        clear hn4 HS3
        refine wpR_done (by kernel_rfl) ?_ _
        simp only [OnlyN]
        have HS9 := HS4
        clear HS4
        go_wp2
        go_ret
        rw [HA.out]
        refine ⟨rfl, Sat.rdisk_close (A := { A.burnt with files := delF A.files name }) (v := .slice A16 k c16) HVD.out ?_⟩
        have h := HS9.out
        rw [HFR.out.1, HFR.out.2] at h
        exact h
      · have HNN : Aside ((k + (n - (k + 1)) : Nat) = (fs.take k ++ fs.drop (k + 1)).length) := ⟨by rw [List.length_append, List.length_take, List.length_drop, ← HN.out]; omega⟩
        have hck2 : k + 1 ≤ n := hkn
        have hck3 : (k : Int) + 1 ≤ (n : Int) := by omega
        go_wp2
        refine region_R [1, 8, 16, 19] [1, 8] (fun W => Sat E W (HP.rdk y room fuse (.slice (some ⟨g, o, none⟩) n cF) fs L * q)) #[false, false, false, false, false, false, false, false, false, false, false, false, false, false, false, false, false, false, false, false] (by kernel_rfl) rfl rfl ?_
        have HT : Aside ((fun W => Sat E W (HP.rdk y room fuse (.slice (some ⟨g, o, none⟩) n cF) fs L * q)) _) := ⟨(HS.out).drew⟩
        refine wpR_pu 0 #[true, false, false, false, false, false, false, false, false, false, false, false, false, false, false, false, false, false, false, false] rfl onlyN_noPanic (by kernel_rfl) (fun K hK => ?_); (go_simp; try go_bits); refine hK _ ?_; clear hK K
        refine wpR_pu 2 #[true, false, true, false, false, false, false, false, false, false, false, false, false, false, false, false, false, false, false, false] rfl onlyN_noPanic (by kernel_rfl) (fun K hK => ?_); (go_simp; try go_bits); refine hK _ ?_; clear hK K
        refine wpR_pu 3 #[true, false, true, true, false, false, false, false, false, false, false, false, false, false, false, false, false, false, false, false] rfl onlyN_noPanic (by kernel_rfl) (fun K hK => ?_); (go_simp; try go_bits); refine hK _ ?_; clear hK K
        refine wpR_pu 4 #[true, false, true, true, true, false, false, false, false, false, false, false, false, false, false, false, false, false, false, false] rfl onlyN_noPanic (by kernel_rfl) (fun K hK => ?_); (go_simp; try go_bits); refine hK _ ?_; clear hK K
        refine wpR_held (i := 5) (v := .slice (some ⟨g, o, none⟩) n cF) #[true, false, true, true, true, true, false, false, false, false, false, false, false, false, false, false, false, false, false, false] rfl onlyN_noPanic (by kernel_rfl) HT.out (.inl ⟨rfl, fun w' hT => ?_⟩) ?_
        · obtain ⟨t1, -⟩ := HC.out _ hT; go_simp
        simp only [Act.put, List.setIfInBounds_toArray, List.set_cons_zero, List.set_cons_succ]
        refine wpR_pu 6 #[true, false, true, true, true, true, true, false, false, false, false, false, false, false, false, false, false, false, false, false] rfl onlyN_noPanic (by kernel_rfl) (fun K hK => ?_); (go_simp; try go_bits); refine hK _ ?_; clear hK K
        refine wpR_pu 7 #[true, false, true, true, true, true, true, true, false, false, false, false, false, false, false, false, false, false, false, false] rfl onlyN_noPanic (by kernel_rfl) (fun K hK => ?_); (go_simp; try go_bits); refine hK _ ?_; clear hK K
        refine wpR_pu 9 #[true, false, true, true, true, true, true, true, false, true, false, false, false, false, false, false, false, false, false, false] rfl onlyN_noPanic (by kernel_rfl) (fun K hK => ?_); (go_simp; try go_bits); refine hK _ ?_; clear hK K
        refine wpR_pu 10 #[true, false, true, true, true, true, true, true, false, true, true, false, false, false, false, false, false, false, false, false] rfl onlyN_noPanic (by kernel_rfl) (fun K hK => ?_); (go_simp; try go_bits); refine hK _ ?_; clear hK K
        refine wpR_pu 11 #[true, false, true, true, true, true, true, true, false, true, true, true, false, false, false, false, false, false, false, false] rfl onlyN_noPanic (by kernel_rfl) (fun K hK => ?_); (go_simp; try go_bits); refine hK _ ?_; clear hK K
        refine wpR_held (i := 12) (v := .slice (some ⟨g, o, none⟩) n cF) #[true, false, true, true, true, true, true, true, false, true, true, true, true, false, false, false, false, false, false, false] rfl onlyN_noPanic (by kernel_rfl) HT.out (.inl ⟨rfl, fun w' hT => ?_⟩) ?_
        · obtain ⟨t1, -⟩ := HC.out _ hT; go_simp
        simp only [Act.put, List.setIfInBounds_toArray, List.set_cons_zero, List.set_cons_succ]
        refine wpR_pu 13 #[true, false, true, true, true, true, true, true, false, true, true, true, true, true, false, false, false, false, false, false] rfl onlyN_noPanic (by kernel_rfl) (fun K hK => ?_); (go_simp; try go_bits); refine hK _ ?_; clear hK K
        refine wpR_pu 14 #[true, false, true, true, true, true, true, true, false, true, true, true, true, true, true, false, false, false, false, false] rfl onlyN_noPanic (by kernel_rfl) (fun K hK => ?_); (go_simp; try go_bits); refine hK _ ?_; clear hK K
        refine wpR_pu 15 #[true, false, true, true, true, true, true, true, false, true, true, true, true, true, true, true, false, false, false, false] rfl onlyN_noPanic (by kernel_rfl) (fun K hK => ?_); (go_simp; try go_bits); refine hK _ ?_; clear hK K
        clear HT
        have HS0 := Aside.mk HS.out.drew
        clear HS
        revert HS0
        generalize World.drew w2 = W0
        intro HS0
        refine wpR_keep #[true, true, true, true, true, true, true, true, false, true, true, true, true, true, true, true, false, false, false, false] (i := 1) rfl (by kernel_rfl) (fun K hK => ?_)
        go_simp
        obtain ⟨W1, hW1⟩ : ∃ x, x = World.alloc W0 (.cells #[] 174) := ⟨_, rfl⟩
        have hn1 : Sat E W1 (HP.rdk y room fuse (.slice (some ⟨g, o, none⟩) n cF) fs L * q) := by rw [hW1]; exact (HS0.out.alloc _).right
        rw [← hW1]
        refine hK _ _ hn1 ?_
        clear hK K hW1
        generalize World.heap W0 = hp0
        generalize Array.size hp0 = gE
        have HS1 : Aside (Sat E W1 (HP.rdk y room fuse (.slice (some ⟨g, o, none⟩) n cF) fs L * q)) := ⟨hn1.perm (by ac_rfl)⟩
        clear hn1
        refine wpR_keep #[true, true, true, true, true, true, true, true, true, true, true, true, true, true, true, true, false, false, false, false] (i := 8) rfl (by kernel_rfl) (fun K hK => ?_)
        refine Eq.mpr (if_pos (by rfl)) ?_
        refine wp_append_row (v := .slice (some ⟨gE, 0, none⟩) 0 0) (n := 0) (cs := []) (A := some ⟨g, o, none⟩) (m := k) (c := cF) (news := (fs.take k).flatMap RF.vals) slFi rfl rfl rfl (HS1.out.row_nil 174 2 _) (HC.out _ HS1.out).2.1 HLN.out.1 (vals_one _ fun f hf => HVO.out f (List.mem_of_mem_take hf)) (by unfold maxLen; omega) (by omega) (fun v8 W2 hn2 => ?_)
        rw [List.nil_append, Nat.zero_add] at hn2
        refine hK _ _ hn2.right ?_
        clear hK K
        have HS2 : Aside (Sat E W2 (HP.row 174 2 v8 k ((fs.take k).flatMap RF.vals) * (HP.rdk y room fuse (.slice (some ⟨g, o, none⟩) n cF) fs L * q))) := ⟨hn2.perm (by ac_rfl)⟩
        clear hn2 HS1
        refine wpR_eff #[true, true, true, true, true, true, true, true, true, true, true, true, true, true, true, true, true, false, false, false] (i := 16) rfl (by kernel_rfl) (fun K hK => ?_)
        refine Eq.mpr (if_pos (by rfl)) ?_
        refine wp_append_row (v := v8) (n := k) (cs := (fs.take k).flatMap RF.vals) (A := some ⟨g, o + (k + 1) * 2, none⟩) (m := n - (k + 1)) (c := cF - (k + 1)) (news := (fs.drop (k + 1)).flatMap RF.vals) slFi rfl rfl rfl HS2.out ((HC.out _ HS2.out.right).2.2) (HLN.out.2) (vals_one _ fun f hf => HVO.out f (List.mem_of_mem_drop hf)) (by unfold maxLen; omega) (by omega) (fun v16 W3 hn3 => ?_)
        skip
        obtain ⟨A16, c16, rfl, -, -⟩ := hn3.row_slice
        refine hK _ _ ?_
        clear hK K
        have HS3 : Aside (Sat E W3 (HP.row 174 2 (.slice A16 (k + (n - (k + 1))) c16) (k + (n - (k + 1))) ((fs.take k).flatMap RF.vals ++ (fs.drop (k + 1)).flatMap RF.vals) * (HP.rdk y room fuse (.slice (some ⟨g, o, none⟩) n cF) fs L * q))) := ⟨hn3.perm (by ac_rfl)⟩
        clear hn3 HS2
        refine wpR_rd 17 #[true, true, true, true, true, true, true, true, true, true, true, true, true, true, true, true, true, true, false, false] rfl onlyN_noPanic (by kernel_rfl) (fun K hK => ?_); (go_simp; try go_bits); refine hK _ ?_; clear hK K
        refine wpR_rd 18 #[true, true, true, true, true, true, true, true, true, true, true, true, true, true, true, true, true, true, true, false] rfl onlyN_noPanic (by kernel_rfl) (fun K hK => ?_); (go_simp; try go_bits); refine hK _ ?_; clear hK K
        refine wpR_eff #[true, true, true, true, true, true, true, true, true, true, true, true, true, true, true, true, true, true, true, true] (i := 19) rfl (by kernel_rfl) (fun K hK => ?_)
        have t9 := HS3.out.right.rdk_parts.cell 1
        simp only [List.getElem?_toArray, List.getElem?_cons_zero, List.getElem?_cons_succ] at t9
        have z9 := HS3.out.right.rdk_parts.thaw 1
        go_simp
        obtain ⟨W4, hW4⟩ : ∃ x, x = World.setCell W3 ⟨y, 1, none⟩ (.slice A16 (k + (n - (k + 1))) c16) := ⟨_, rfl⟩
        have hn4 : Sat E W4 (HP.rdk y room fuse (.slice A16 (k + (n - (k + 1))) c16) (fs.take k ++ fs.drop (k + 1)) L * q) := by
          rw [hW4]
          exact Sat.rdk_del HF.out.1 HNN.out HS3.out
        rw [← hW4]
        refine hK _ _ ?_
        clear hK K hW4 t9 z9
        have HS4 : Aside (Sat E W4 (HP.rdk y room fuse (.slice A16 (k + (n - (k + 1))) c16) (fs.take k ++ fs.drop (k + 1)) L * q)) := ⟨hn4.perm (by ac_rfl)⟩
        clear hn4 HS3
        refine wpR_done (by kernel_rfl) ?_ _
        simp only [OnlyN]
        have HS9 := HS4
        clear HS4
        go_wp2
        go_ret
        rw [HA.out]
        refine ⟨rfl, Sat.rdisk_close (A := { A.burnt with files := delF A.files name }) (v := .slice A16 (k + (n - (k + 1))) c16) HVD.out ?_⟩
        have h := HS9.out
        rw [HFR.out.1, HFR.out.2] at h
        exact h
  · rw [h1] at HPl
    have HA : Aside (AR = (30, A)) := ⟨by rw [hAR]; unfold Dk.remove; rw [hv.lk_none h2]⟩
    have HV := Aside.mk hv
    clear hv h1 h2 hAR
    go_enter Tryz.func76, Tryz.ntmps76
    go_wp2_with fail
    refine HPl.out.mono ?_
    rintro e w1 ⟨rfl, h1⟩
    have HS := Aside.mk h1
    clear h1
    go_wp2
    go_ret
    rw [HA.out]
    exact ⟨rfl, Sat.rdisk_close HV.out HS.out⟩
end Go.Proofs.YtnpinegpajbkeaaGreatDoor
namespace Go.Proofs.YtnpinegpajbkeaaGreatDoor
open Go.RowKit HP
theorem agRc : AgTy Tryz.prog 176 5 := ⟨⟨_, Tryz.underlying176, rfl⟩, by kernel_rfl⟩
theorem splice_row (cur cs : List Value) (a p m : Nat) (h1 : p + cs.length ≤ m) (h2 : a + m ≤ cur.length) : ((splice cur (a + p) cs).drop a).take m = splice ((cur.drop a).take m) p cs := by
  unfold splice
  apply List.ext_getElem?
  intro j
  by_cases hj : j < m
  · rw [List.getElem?_take_of_lt hj, List.getElem?_drop]
    by_cases h3 : j < p
    · rw [List.append_assoc, List.getElem?_append_left (by simp; omega), List.getElem?_take_of_lt (by omega), List.append_assoc, List.getElem?_append_left (by simp; omega), List.getElem?_take_of_lt h3, List.getElem?_take_of_lt hj, List.getElem?_drop]
    · by_cases h4 : j < p + cs.length
      · rw [List.append_assoc, List.getElem?_append_right (by simp; omega), List.getElem?_append_left (by simp; omega), List.append_assoc, List.getElem?_append_right (by simp; omega), List.getElem?_append_left (by simp; omega)]
        congr 1
        simp
        omega
      · rw [List.getElem?_append_right (by simp; omega), List.getElem?_drop, List.getElem?_append_right (by simp; omega), List.getElem?_drop]
        have e1 : a + p + cs.length + (a + j - (List.take (a + p) cur ++ cs).length) = a + j := by simp; omega
        have e2 : p + cs.length + (j - (List.take p (List.take m (List.drop a cur)) ++ cs).length) = j := by simp; omega
        rw [e1, e2, List.getElem?_take_of_lt hj, List.getElem?_drop]
  · rw [List.getElem?_eq_none (by simp; omega), List.getElem?_eq_none (by simp; omega)]
theorem take_add {l m : List Value} {n k : Nat} (h : l.length = n) : (l ++ m).take (n + k) = l ++ m.take k := by
  rw [List.take_append, List.take_of_length_le (by omega), show n + k - l.length = k by omega]
theorem drop_add {l m : List Value} {n k : Nat} (h : l.length = n) : (l ++ m).drop (n + k) = m.drop k := by
  rw [List.drop_append, List.drop_eq_nil_of_le (by omega), List.nil_append, show n + k - l.length = k by omega]
theorem flat_splice {α : Type} (f : α → List Value) (n : Nat) (hn : ∀ x, (f x).length = n) : ∀ (l : List α) (i : Nat) (x' : α), i < l.length → (l.set i x').flatMap f = splice (l.flatMap f) (i * n) (f x')
  | [], i, x', h => by cases h
  | y :: l, 0, x', _ => by
    rw [List.set_cons_zero, List.flatMap_cons, List.flatMap_cons]
    unfold splice
    rw [Nat.zero_mul, List.take_zero, List.nil_append, Nat.zero_add, List.drop_append_of_le_length (by rw [hn, hn]; exact Nat.le_refl _), List.drop_eq_nil_of_le (by rw [hn, hn]; exact Nat.le_refl _), List.nil_append]
  | y :: l, i + 1, x', h => by
    rw [List.set_cons_succ, List.flatMap_cons, List.flatMap_cons, flat_splice f n hn l i x' (by simpa using h)]
    unfold splice
    have e : (i + 1) * n = n + i * n := by rw [Nat.add_mul]; omega
    rw [e, take_add (hn y), Nat.add_assoc, drop_add (hn y), List.append_assoc, List.append_assoc, List.append_assoc]
abbrev spl := splice
section
variable {E : Env} {w : World} {q : HP} {y : Nat} {room fuse : Int} {v : Value} {fs : List RF} {L : List (Value × List Int)} {k : Nat} {f : RF} {g o vn VC i : Nat} {x : RC}
theorem Sat.rc_storeAgg (hk : fs[k]? = some f) (hval : f.val = .slice (some ⟨g, o, none⟩) vn VC) (hi : i < f.cs.length) (x' : RC) (h1 : x'.vals.all Value.oneCell' = true) (h : Sat E w (HP.rdk y room fuse v fs L * q)) :
    ∃ w', (storeVar 176 ⟨g, o + i * 5, none⟩ (.agg x'.vals.toArray)).run Tryz.prog w = .ok () w' ∧ Sat E w' (HP.rdk y room fuse v (setRC fs k i x') L * q) := by
  have h2 := h.rdk_parts.s3
  have hm : (fs.map HP.rcs)[k]? = some (HP.rcs f) := by rw [List.getElem?_map, hk]; rfl
  rw [all_take hm] at h2
  unfold HP.rcs at h2
  have h3 := h2.perm (HP.mul_assoc _ _ _)
  have hvn : f.cs.length = vn := by
    rw [hval] at h3
    obtain ⟨A, c, hs, -, -⟩ := h3.row_slice
    cases hs; rfl
  rw [hval, hvn] at h3
  have hlen := h3.row_cases.1
  rcases h3.row_cases.2 with ⟨A', hv, hn, _⟩ | ⟨g', off, cap, cur, hv, hnc, hcm, hs, ht, hp⟩
  · omega
  · cases hv
    have hle : off * 5 + vn * 5 ≤ cur.size := by rw [Nat.add_mul] at hs; have := Nat.mul_le_mul_right 5 hnc; omega
    have hi5 : i * 5 + 5 ≤ vn * 5 := by omega
    have hr := run_storeAgg (P := Tryz.prog) agRc (off := off * 5 + i * 5) (cs := x'.vals) hp.get rfl (by omega) h1
    refine ⟨_, hr, ?_⟩
    have h4 := hp.splice (spl cur.toList (off * 5 + i * 5) x'.vals)
    have hsl : (spl cur.toList (off * 5 + i * 5) x'.vals).length = cur.size := by
      unfold spl Go.Proofs.YtnpinegpajbkeaaGreatDoor.splice
      simp [RC.vals]
      omega
    have h5 := h4.row_mk (n := vn) (off := off) (size := 5) (cs := (f.cs.set i x').flatMap RC.vals) hnc hcm (by rw [List.size_toArray, hsl]; exact hs) (by
      show ((spl cur.toList (off * 5 + i * 5) x'.vals).drop (off * 5)).take (vn * 5) = _
      rw [splice_row _ _ _ _ _ (by show i * 5 + 5 ≤ vn * 5; exact hi5) (by rw [Array.length_toList]; exact hle), ht, flat_splice RC.vals 5 (fun _ => rfl) f.cs i x' hi])
    refine Sat.rdk_join ?_
    rw [setRC_get hk]
    have e1 : (fs.set k { f with cs := f.cs.set i x' }).flatMap RF.vals = fs.flatMap RF.vals := rf_same (f := f) rfl rfl hk
    have e2 : HP.all ((fs.set k { f with cs := f.cs.set i x' }).map HP.rcs) = HP.rcs { f with cs := f.cs.set i x' } * HP.all ((fs.map HP.rcs).eraseIdx k) := by
      rw [all_take (j := k) (p := HP.rcs { f with cs := f.cs.set i x' }) (by rw [List.getElem?_map, List.getElem?_set_self (List.getElem?_eq_some_iff.1 hk).1]; rfl), List.map_set, List.eraseIdx_set_eq]
    rw [e1, e2, List.length_set]
    have e3 : HP.rcs { f with cs := f.cs.set i x' } = HP.row 176 5 (.slice (some ⟨g, off * 5, none⟩) vn VC) vn ((f.cs.set i x').flatMap RC.vals) := by
      unfold HP.rcs
      rw [List.length_set, hvn]
      show HP.row _ 5 f.val vn _ = _
      rw [hval]
    rw [e3]
    exact h5.perm (by ac_rfl)
end
end Go.Proofs.YtnpinegpajbkeaaGreatDoor
