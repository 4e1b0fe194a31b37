/- Texts of one claim, one behind the other: RefR3. -/
import Derived.Test.YtnpinegpajbkeaaGreatDoorRi12
import Derived.Deep.Cut
set_option linter.unusedSimpArgs false
set_option linter.unusedVariables false
namespace Go.Proofs.YtnpinegpajbkeaaGreatDoor
open Go.RowKit HP
theorem slCl : SlTy Tryz.prog 172 176 (.agg #[.slice none 0 0, .slice none 0 0, .slice none 0 0, .slice none 0 0, .bool false]) 5 104 := ⟨Tryz.underlying172, by kernel_rfl, rfl, by decide⟩
theorem b8s_z128 : b8s z128 = List.replicate 128 (.int .u8 0) := by rfl
theorem Sat.pt_cells {E : Env} {w : World} {q : HP} {g : Nat} {cs : List Value} {t : TypeId} (h : Sat E w (HP.pt g (.cells cs.toArray t) * q)) : Cells w (some ⟨g, 0, none⟩) cs := fun j u hj => by
  refine ⟨_, rfl, ?_⟩
  rw [addr_add, Nat.zero_add, h.cell j]
  simpa using hj
theorem Sat.row_le {E : Env} {w : World} {q : HP} {e : TypeId} {size m n' c : Nat} {A : Option Addr} {cs : List Value} (h : Sat E w (HP.row e size (.slice A n' c) m cs * q)) : m ≤ c := by
  obtain ⟨A', c', hv, h1, -⟩ := h.row_slice
  cases hv; exact h1
theorem Sat.row_some {E : Env} {w : World} {q : HP} {e : TypeId} {size m n' c : Nat} {A : Option Addr} {cs : List Value} (hc : 0 < c) (h : Sat E w (HP.row e size (.slice A n' c) m cs * q)) : ∃ g o, A = some ⟨g, o, none⟩ := by
  rcases h.row_cases.2 with ⟨A', hv, -, -⟩ | ⟨g', off, cap, cur, hv, -, -, -, -, -⟩
  · cases hv; omega
  · cases hv; exact ⟨_, _, rfl⟩
set_option maxHeartbeats 16000000 in
set_option maxRecDepth 100000 in
theorem ref_write_main (E : Env) (q : HP) (y : Nat) (A : Dk) (name : ByteArray) (j : Nat) (Ab : Option Addr) (l : List Int) (c : Nat) (w : World) (hn : name.size ≤ maxLen) (hl : l.length = 128) (hq : ∀ w, Sat E w q → Cells w Ab (b8s l)) (hnb : namedB name = true) (hj : j ≤ (A.at name).length) (hg : A.goes = true) (hfr : j = (A.at name).length → 0 < A.free)
    (RES : Dk) (hres : RES = if j = (A.at name).length then A.burnt.set name (A.at name ++ [Cel.zero.wrote l]) else A.burnt.set name ((A.at name).modify j fun c => c.wrote l)) (hw : Sat E w (HP.rdisk y A * q)) :
    Calls Tryz.prog 68 #[.pointer (some ⟨y, 0, none⟩), .string name, .int .i64 j, .slice Ab 128 c] w fun e w' => e = .returned (.int .i64 0) ∧ Sat E w' (HP.rdisk y RES * q) := by
  obtain ⟨v, fs, L, hv, hk⟩ := hw.rdisk_open
  clear hw
  obtain ⟨FA, cF, rfl, hcF, hcM⟩ := hk.rdk_parts.s2.row_slice
  obtain ⟨n, hnn⟩ : ∃ n, n = fs.length := ⟨_, rfl⟩
  have hfl := hv.flen
  rw [← hnn] at hcF hk hfl
  have HN := Aside.mk hnn
  have HW := Aside.mk hk
  have HV := Aside.mk hv
  have HL := Aside.mk hl
  have HQ := Aside.mk hq
  have HG := Aside.mk hg
  have HNB := Aside.mk hnb
  have HSM := Aside.mk (at_small hv.fine name)
  obtain ⟨rl, hrl⟩ : ∃ rl, rl = (A.at name).length := ⟨_, rfl⟩
  have HRL := Aside.mk hrl
  rw [← hrl] at hj hfr HSM hres
  have HRES := Aside.mk hres
  have HE := Aside.mk (ref_extents E q y A (.slice FA n cF) fs L name w hv hk)
  rw [← hrl] at HE
  clear hnn hk hv hl hq hg hnb hrl hres
  go_enter Tryz.func68, Tryz.ntmps68
  go_wp2_with fail
  refine (ref_isName name w hn).mono ?_
  rintro e w1 ⟨rfl, h1⟩
  subst w1
  rw [HNB.out]
  have hj0 : (0 : Int) ≤ (j : Int) := by omega
  have hj1 : (j : Int) ≤ (rl : Int) := by omega
  go_wp2_with fail
  refine HE.out.mono ?_
  rintro e w1 ⟨rfl, h1⟩
  have HS := Aside.mk h1
  clear h1 HE HW
  go_wp2_with fail
  refine (ref_stops E q y A _ fs L _ HV.out.fine.fuse HS.out).mono ?_
  rw [HG.out]
  rintro e w2 ⟨rfl, h2⟩
  obtain ⟨B, hB⟩ : ∃ B, B = A.burnt := ⟨_, rfl⟩
  have HVB : Aside (RView B fs L) := ⟨by rw [hB]; exact HV.out.burnt⟩
  have HBat : Aside (B.at name = A.at name) := ⟨by rw [hB]; rfl⟩
  have hBfree : B.free = A.free := by rw [hB]; rfl
  rw [← hB] at HRES
  obtain ⟨fuse, hfu⟩ : ∃ fuse, fuse = B.fuse := ⟨_, rfl⟩
  obtain ⟨room, hro⟩ : ∃ room, room = B.room := ⟨_, rfl⟩
  have hB2 : A.room = B.room := by rw [hB]; rfl
  rw [← hB, hB2, ← hfu, ← hro] at h2
  have HS2 := Aside.mk h2
  have HFR := Aside.mk (And.intro hfu hro)
  clear h2 HS HV hB hB2 hfu hro
  obtain ⟨fr, hfre⟩ : ∃ fr, fr = B.free := ⟨_, rfl⟩
  rw [← hBfree, ← hfre] at hfr
  have HE2 : Aside (∀ w, Sat E w (HP.rdk y room fuse (.slice FA n cF) fs L * q) → Calls Tryz.prog 75 #[.pointer (some ⟨y, 0, none⟩), .string name] w fun e w' => e = .returned (.int .i64 (rl : Int)) ∧ Sat E w' (HP.rdk y room fuse (.slice FA n cF) fs L * q)) := ⟨fun w h => by
    have h1 := ref_extents E q y B (.slice FA n cF) fs L name w HVB.out (by rw [← HFR.out.1, ← HFR.out.2]; exact h)
    rw [HBat.out, ← HRL.out, ← HFR.out.1, ← HFR.out.2] at h1
    exact h1⟩
  have HF2 : Aside (∀ w, Sat E w (HP.rdk y room fuse (.slice FA n cF) fs L * q) → Calls Tryz.prog 87 #[.pointer (some ⟨y, 0, none⟩)] w fun e w' => e = .returned (.int .i64 fr) ∧ Sat E w' (HP.rdk y room fuse (.slice FA n cF) fs L * q)) := ⟨fun w h => by
    have h1 := ref_free E q y B (.slice FA n cF) fs L w HVB.out (by rw [← HFR.out.1, ← HFR.out.2]; exact h)
    rw [← hfre, ← HFR.out.1, ← HFR.out.2] at h1
    exact h1⟩
  have HZ : Aside (j = rl → (sizeF B.files : Int) + 1 ≤ B.room) := ⟨fun h => by have := hfr h; rw [hfre] at this; unfold Dk.free at this; omega⟩
  clear hfre hBfree
  go_upto_region 5 with fail
  go_cut [41] from 11 (fun s41 wx => s41 = .bool false ∧ Aside (Sat E wx (HP.rdk y room fuse (.slice FA n cF) fs L * q)))
  case first =>
    by_cases hjr : j = rl
    · subst hjr
      have hfr := hfr rfl
      go_wp2_with fail
      refine (HE2.out _ HS2.out).mono ?_
      rintro e w3 ⟨rfl, h3⟩
      have HS3 := Aside.mk h3
      clear h3
      go_wp2_with fail
      refine (HF2.out _ HS3.out).mono ?_
      rintro e w4 ⟨rfl, h4⟩
      have HS4 := Aside.mk h4
      clear h4
      go_wp2
      go_meet
      case rel => exact ⟨by first | rfl | (congr 1; simp; omega), HS4⟩
    · have hjr2 : ¬ (j : Int) = (rl : Int) := by omega
      clear hfr
      go_wp2_with fail
      refine (HE2.out _ HS2.out).mono ?_
      rintro e w3 ⟨rfl, h3⟩
      have HS3 := Aside.mk h3
      clear h3
      go_wp2
      go_meet
      case rel => exact ⟨by first | rfl | (congr 1; simp; omega), HS3⟩
  clear HS2
  obtain ⟨rfl, HS2⟩ := hcut
  have HPl := Aside.mk (ref_place E q y room fuse (.slice FA n cF) fs L name _ (by rw [← HN.out]; exact hfl) HS2.out)
  obtain ⟨pl, hpl⟩ : ∃ pl, pl = plI fs name := ⟨_, rfl⟩
  rw [← hpl] at HPl
  have HPE := Aside.mk hpl
  clear hpl
  go_wp2_with fail
  refine HPl.out.mono ?_
  rintro e w5 ⟨rfl, h5⟩
  have HS5 := Aside.mk h5
  clear h5 HS2 HPl HE2 HF2
  go_upto_if 46 with fail
  go_cut [9] from 11 (fun s9 wx => ∃ (k : Nat) (fs1 : List RF) (f1 : RF) (g o n1 c1 : Nat), s9 = .int .i64 k ∧ n1 ≤ 100001 ∧ Aside (n1 = fs1.length) ∧ n1 ≤ c1 ∧ Aside (WrR B name k fs1 f1 L) ∧ Aside (Sat E wx (HP.rdk y room fuse (.slice (some ⟨g, o, none⟩) n1 c1) fs1 L * q)))
  case first =>
    rcases plI_cases fs name with ⟨k, f, h1, h2, h3, h4⟩ | ⟨h1, h2⟩
    · have hp : pl = (k : Int) := by rw [HPE.out]; exact h1
      subst hp
      have hk0 : (0 : Int) ≤ (k : Int) := by omega
      have HWR : Aside (WrR B name k fs f L) := ⟨WrR.old HVB.out h2 h3⟩
      obtain ⟨g, o, VA, VC, rfl, hval, hvc, -, -⟩ := HS5.out.rf_at HN.out h2
      clear h1 h2 h3 h4 hval hvc
      go_wp2
      go_meet
      case rel => exact ⟨k, _, _, g, o, n, cF, rfl, by omega, HN, hcF, HWR, HS5⟩
    · have hp : pl = -1 := by rw [HPE.out]; exact h1
      subst hp
      have HNO := Aside.mk h2
      clear h1 h2
      have HVO : Aside (∀ f ∈ fs, ∃ A c, f.val = .slice A f.cs.length c) := ⟨fun f hf => let ⟨A, c, h, _⟩ := HS5.out.rf_val hf; ⟨A, c, h⟩⟩
      have y1 := HS5.out.rdk_parts.cell 1
      simp only [List.getElem?_toArray, List.getElem?_cons_zero, List.getElem?_cons_succ] at y1
      go_wp2
      go_loopw [9] (fun v9 wr => ∃ k : Nat, k ≤ n ∧ v9 = .int .i64 k ∧ Aside (∀ j < k, ∀ g, fs[j]? = some g → ltN g.name name = true) ∧ wr = w5) (fun i _ => n - (intOf i).toNat)
      case atStart => exact ⟨0, Nat.zero_le _, rfl, ⟨fun j hj => by omega⟩, rfl⟩
      case round =>
        obtain ⟨k, hk, rfl, HB, rfl⟩ := hrel
        by_cases hlt : k < n
        · have hlt2 : (k : Int) < (n : Int) := by omega
          have h0 : (0 : Int) ≤ (k : Int) := by omega
          obtain ⟨f, hf⟩ : ∃ f, fs[k]? = some f := ⟨_, List.getElem?_eq_getElem (by rw [← HN.out]; exact hlt)⟩
          obtain ⟨g, o, VA, VC, rfl, hval, hvc, c0, c1⟩ := HS5.out.rf_at HN.out hf
          clear hval hvc c1
          by_cases hless : ltN f.name name = true
          · have HB2 : Aside (∀ j < k + 1, ∀ g, fs[j]? = some g → ltN g.name name = true) := ⟨fun j hj g hg => by
              rcases Nat.lt_or_ge j k with h | h
              · exact HB.out j h g hg
              · obtain rfl : j = k := by omega
                rw [hf] at hg
                cases hg
                exact hless⟩
            unfold ltN at hless
            clear hf
            go_wp2
            go_roundw
            case rel => exact ⟨k + 1, by omega, by go_num, HB2, trivial⟩
            case measure => simp [intOf]; omega
          · have HST : Aside (∀ g, fs[k]? = some g → g.name ≠ name ∧ ltN g.name name = false) := ⟨fun g hg => by
              rw [hf] at hg; cases hg
              exact ⟨HNO.out f (List.mem_of_getElem? hf), by simpa using hless⟩⟩
            have hless : Go.Op.bytesLess f.name.toList name.toList = false := by unfold ltN at hless; simpa using hless
            clear hf
            have HLN : Aside (((fs.take k).flatMap RF.vals).length = k * 2 ∧ ((fs.drop k).flatMap RF.vals).length = (n - k) * 2) := ⟨by
              rw [vals_len, vals_len, List.length_take, List.length_drop, ← HN.out]
              exact ⟨by rw [Nat.min_eq_left (by omega)], rfl⟩⟩
            have HNN : Aside ((k + 1 + (n - k) : Nat) = (fs.take k ++ (⟨name, .slice none 0 0, []⟩ : RF) :: fs.drop k).length) := ⟨by rw [List.length_append, List.length_cons, List.length_take, List.length_drop, ← HN.out]; omega⟩
            have HWR : Aside (WrR B name k (fs.take k ++ (⟨name, .slice none 0 0, []⟩ : RF) :: fs.drop k) ⟨name, .slice none 0 0, []⟩ L) := ⟨WrR.new HVB.out HB.out (by rw [← HN.out]; omega) HST.out HNO.out HNB.out⟩
            have hkn : k ≤ n := by omega
            have hk0 : (0 : Int) ≤ (k : Int) := by omega
            have hknI : (k : Int) ≤ (n : Int) := by omega
            have hkc : k ≤ cF := by omega
            have hkcI : (k : Int) ≤ (cF : Int) := by omega
            have HC : Aside (∀ W, Sat E W (HP.rdk y room fuse (.slice (some ⟨g, o, none⟩) n cF) fs L * q) → W.cell? ⟨y, 1, none⟩ = some (.slice (some ⟨g, o, none⟩) n cF) ∧ Cells W (some ⟨g, o, none⟩) ((fs.take k).flatMap RF.vals) ∧ Cells W (some ⟨g, o + k * 2, none⟩) ((fs.drop k).flatMap RF.vals)) := ⟨fun W h => by
              have hrow := h.rdk_parts.s2
              rw [← HN.out] at hrow
              have hrc := hrow.row_cells
              refine ⟨by have := h.rdk_parts.cell 1; simpa using this, ?_, ?_⟩
              · rw [vals_take fs k]; exact hrc.take _
              · rw [vals_drop fs k, ← addr_add]; exact hrc.drop _⟩
            have hcF2 : ¬ cF = k := by omega
            have hcF3 : ¬ (cF : Int) = (k : Int) := by omega
            clear HB HST
            have HS := HS5
            clear HS5
            go_wp2
            clear c0 y1 hless
            refine region_R [1, 8, 11, 12, 19, 22] [1, 8, 11, 12] (fun W => Sat E W (HP.rdk y room fuse (.slice (some ⟨g, o, none⟩) n cF) fs L * q)) #[false, false, false, false, false, false, false, false, false, false, false, false, false, false, false, false, false, false, false, false, false, false, false] (by kernel_rfl) rfl rfl ?_
            have HT : Aside ((fun W => Sat E W (HP.rdk y room fuse (.slice (some ⟨g, o, none⟩) n cF) fs L * q)) _) := ⟨HS.out.drew⟩
            refine wpR_pu 0 #[true, false, false, false, false, false, false, false, false, false, false, false, false, false, false, false, false, false, false, false, false, false, false] rfl onlyN_noPanic (by kernel_rfl) (fun K hK => ?_); (go_simp; try go_bits); refine hK _ ?_; clear hK K
            refine wpR_pu 2 #[true, false, true, false, false, false, false, false, false, false, false, false, false, false, false, false, false, false, false, false, false, false, false] rfl onlyN_noPanic (by kernel_rfl) (fun K hK => ?_); (go_simp; try go_bits); refine hK _ ?_; clear hK K
            refine wpR_pu 3 #[true, false, true, true, false, false, false, false, false, false, false, false, false, false, false, false, false, false, false, false, false, false, false] rfl onlyN_noPanic (by kernel_rfl) (fun K hK => ?_); (go_simp; try go_bits); refine hK _ ?_; clear hK K
            refine wpR_pu 4 #[true, false, true, true, true, false, false, false, false, false, false, false, false, false, false, false, false, false, false, false, false, false, false] rfl onlyN_noPanic (by kernel_rfl) (fun K hK => ?_); (go_simp; try go_bits); refine hK _ ?_; clear hK K
            refine wpR_held (i := 5) (v := .slice (some ⟨g, o, none⟩) n cF) #[true, false, true, true, true, true, false, false, false, false, false, false, false, false, false, false, false, false, false, false, false, false, false] rfl onlyN_noPanic (by kernel_rfl) HT.out (.inl ⟨rfl, fun w' hT => ?_⟩) ?_
            · obtain ⟨t1, -⟩ := HC.out _ hT; go_simp
            simp only [Act.put, List.setIfInBounds_toArray, List.set_cons_zero, List.set_cons_succ]
            refine wpR_pu 6 #[true, false, true, true, true, true, true, false, false, false, false, false, false, false, false, false, false, false, false, false, false, false, false] rfl onlyN_noPanic (by kernel_rfl) (fun K hK => ?_); (go_simp; try go_bits); refine hK _ ?_; clear hK K
            refine wpR_pu 7 #[true, false, true, true, true, true, true, true, false, false, false, false, false, false, false, false, false, false, false, false, false, false, false] rfl onlyN_noPanic (by kernel_rfl) (fun K hK => ?_); (go_simp; try go_bits); refine hK _ ?_; clear hK K
            refine wpR_pu 9 #[true, false, true, true, true, true, true, true, false, true, false, false, false, false, false, false, false, false, false, false, false, false, false] rfl onlyN_noPanic (by kernel_rfl) (fun K hK => ?_); (go_simp; try go_bits); refine hK _ ?_; clear hK K
            refine wpR_pu 10 #[true, false, true, true, true, true, true, true, false, true, true, false, false, false, false, false, false, false, false, false, false, false, false] rfl onlyN_noPanic (by kernel_rfl) (fun K hK => ?_); (go_simp; try go_bits); refine hK _ ?_; clear hK K
            refine wpR_pu 13 #[true, false, true, true, true, true, true, true, false, true, true, false, false, true, false, false, false, false, false, false, false, false, false] rfl onlyN_noPanic (by kernel_rfl) (fun K hK => ?_); (go_simp; try go_bits); refine hK _ ?_; clear hK K
            refine wpR_pu 14 #[true, false, true, true, true, true, true, true, false, true, true, false, false, true, true, false, false, false, false, false, false, false, false] rfl onlyN_noPanic (by kernel_rfl) (fun K hK => ?_); (go_simp; try go_bits); refine hK _ ?_; clear hK K
            refine wpR_pu 15 #[true, false, true, true, true, true, true, true, false, true, true, false, false, true, true, true, false, false, false, false, false, false, false] rfl onlyN_noPanic (by kernel_rfl) (fun K hK => ?_); (go_simp; try go_bits); refine hK _ ?_; clear hK K
            refine wpR_held (i := 16) (v := .slice (some ⟨g, o, none⟩) n cF) #[true, false, true, true, true, true, true, true, false, true, true, false, false, true, true, true, true, false, false, false, false, false, false] rfl onlyN_noPanic (by kernel_rfl) HT.out (.inl ⟨rfl, fun w' hT => ?_⟩) ?_
            · obtain ⟨t1, -⟩ := HC.out _ hT; go_simp
            simp only [Act.put, List.setIfInBounds_toArray, List.set_cons_zero, List.set_cons_succ]
            refine wpR_pu 17 #[true, false, true, true, true, true, true, true, false, true, true, false, false, true, true, true, true, true, false, false, false, false, false] rfl onlyN_noPanic (by kernel_rfl) (fun K hK => ?_); (go_simp; try go_bits); refine hK _ ?_; clear hK K
            refine wpR_pu 18 #[true, false, true, true, true, true, true, true, false, true, true, false, false, true, true, true, true, true, true, false, false, false, false] rfl onlyN_noPanic (by kernel_rfl) (fun K hK => ?_); (go_simp; try go_bits); refine hK _ ?_; clear hK K
            clear HT
            have HS0 := Aside.mk HS.out.drew
            clear HS
            revert HS0
            generalize World.drew wr = W0
            intro HS0
            apply share
            · intro hsh00
              have hsh0 := Aside.mk hsh00
              clear hsh00
              apply share
              · intro hsh10
                have hsh1 := Aside.mk hsh10
                clear hsh10
                refine wpR_many [1, 11] rfl (by kernel_rfl) ?_
                refine List.forall_mem_cons.2 ⟨?_, List.forall_mem_cons.2 ⟨?_, (fun _ h => by cases h)⟩⟩
                · refine br_keep #[true, true, true, true, true, true, true, true, false, true, true, false, false, true, true, true, true, true, true, false, false, false, false] rfl (by kernel_rfl) (fun K hK => ?_)
                  go_simp
                  obtain ⟨W1, hW1⟩ : ∃ x, x = World.alloc W0 (.cells #[] 174) := ⟨_, rfl⟩
                  obtain ⟨gE, hgE⟩ : ∃ x, x = Array.size (World.heap W0) := ⟨_, rfl⟩
                  have hn1 : Sat E W1 (HP.rdk y room fuse (.slice (some ⟨g, o, none⟩) n cF) fs L * q) := by rw [hW1]; exact (HS0.out.alloc _).right
                  rw [← hW1, ← hgE]
                  refine hK _ _ (by first | exact hn1 | exact (Sat.right hn1) | exact (Sat.right (Sat.right hn1)) | exact (Sat.right (Sat.right (Sat.right hn1))) | exact (Sat.right (Sat.right (Sat.right (Sat.right hn1))))) ?_
                  clear hK K hW1 hgE
                  have HS1 : Aside (Sat E W1 (HP.rdk y room fuse (.slice (some ⟨g, o, none⟩) n cF) fs L * q)) := ⟨hn1.perm (by ac_rfl)⟩
                  clear hn1
                  refine wpR_many [8, 11] rfl (by kernel_rfl) ?_
                  refine List.forall_mem_cons.2 ⟨?_, List.forall_mem_cons.2 ⟨?_, (fun _ h => by cases h)⟩⟩
                  · refine br_keep #[true, true, true, true, true, true, true, true, true, true, true, false, false, true, true, true, true, true, true, false, false, false, false] rfl (by kernel_rfl) (fun K hK => ?_)
                    refine Eq.mpr (if_pos (by rfl)) ?_
                    refine wp_append_row (v := .slice (some ⟨gE, 0, none⟩) 0 0) (n := 0) (cs := []) (A := some ⟨g, o, none⟩) (m := k) (c := cF) (news := (fs.take k).flatMap RF.vals) slFi rfl rfl rfl (HS1.out.row_nil 174 2 _) (HC.out _ (by first | exact HS1.out | exact (Sat.right HS1.out) | exact (Sat.right (Sat.right HS1.out)) | exact (Sat.right (Sat.right (Sat.right HS1.out))) | exact (Sat.right (Sat.right (Sat.right (Sat.right HS1.out)))))).2.1 HLN.out.1 (vals_one _ fun f hf => HVO.out f (List.mem_of_mem_take hf)) (by unfold maxLen; omega) (by omega) (fun v8 W2 hn2 => ?_)
                    rw [List.nil_append, Nat.zero_add] at hn2
                    refine hK _ _ (by first | exact hn2 | exact (Sat.right hn2) | exact (Sat.right (Sat.right hn2)) | exact (Sat.right (Sat.right (Sat.right hn2))) | exact (Sat.right (Sat.right (Sat.right (Sat.right hn2))))) ?_
                    clear hK K
                    have HS2 : Aside (Sat E W2 (HP.row 174 2 v8 k ((fs.take k).flatMap RF.vals) * (HP.rdk y room fuse (.slice (some ⟨g, o, none⟩) n cF) fs L * q))) := ⟨hn2.perm (by ac_rfl)⟩
                    clear hn2 HS1
                    refine wpR_keep #[true, true, true, true, true, true, true, true, true, true, true, true, false, true, true, true, true, true, true, false, false, false, false] (i := 11) rfl (by kernel_rfl) (fun K hK => ?_)
                    go_simp
                    obtain ⟨W3, hW3⟩ : ∃ x, x = World.alloc W2 (.cells #[.string name, .slice none 0 0] 174) := ⟨_, rfl⟩
                    obtain ⟨g11, hg11⟩ : ∃ x, x = Array.size (World.heap W2) := ⟨_, rfl⟩
                    have hn3 : Sat E W3 (HP.pt g11 (.cells #[.string name, .slice none 0 0] 174) * (HP.row 174 2 v8 k ((fs.take k).flatMap RF.vals) * (HP.rdk y room fuse (.slice (some ⟨g, o, none⟩) n cF) fs L * q))) := by rw [hW3, hg11]; exact (HS2.out.alloc _)
                    rw [← hW3, ← hg11]
                    refine hK _ _ (by first | exact hn3 | exact (Sat.right hn3) | exact (Sat.right (Sat.right hn3)) | exact (Sat.right (Sat.right (Sat.right hn3))) | exact (Sat.right (Sat.right (Sat.right (Sat.right hn3))))) ?_
                    clear hK K hW3 hg11
                    have HS3 : Aside (Sat E W3 (HP.row 174 2 v8 k ((fs.take k).flatMap RF.vals) * (HP.pt g11 (.cells #[.string name, .slice none 0 0] 174) * (HP.rdk y room fuse (.slice (some ⟨g, o, none⟩) n cF) fs L * q)))) := ⟨hn3.perm (by ac_rfl)⟩
                    clear hn3 HS2
                    revert HS3
                    revert W3
                    revert g11
                    revert v8
                    revert gE
                    exact hsh0.out
                  · refine br_keep #[true, true, true, true, true, true, true, true, false, true, true, true, false, true, true, true, true, true, true, false, false, false, false] rfl (by kernel_rfl) (fun K hK => ?_)
                    go_simp
                    obtain ⟨W4, hW4⟩ : ∃ x, x = World.alloc W1 (.cells #[.string name, .slice none 0 0] 174) := ⟨_, rfl⟩
                    obtain ⟨g11, hg11⟩ : ∃ x, x = Array.size (World.heap W1) := ⟨_, rfl⟩
                    have hn4 : Sat E W4 (HP.pt g11 (.cells #[.string name, .slice none 0 0] 174) * (HP.rdk y room fuse (.slice (some ⟨g, o, none⟩) n cF) fs L * q)) := by rw [hW4, hg11]; exact (HS1.out.alloc _)
                    rw [← hW4, ← hg11]
                    refine hK _ _ (by first | exact hn4 | exact (Sat.right hn4) | exact (Sat.right (Sat.right hn4)) | exact (Sat.right (Sat.right (Sat.right hn4))) | exact (Sat.right (Sat.right (Sat.right (Sat.right hn4))))) ?_
                    clear hK K hW4 hg11
                    have HS4 : Aside (Sat E W4 (HP.pt g11 (.cells #[.string name, .slice none 0 0] 174) * (HP.rdk y room fuse (.slice (some ⟨g, o, none⟩) n cF) fs L * q))) := ⟨hn4.perm (by ac_rfl)⟩
                    clear hn4 HS1
                    revert HS4
                    revert W4
                    revert g11
                    revert gE
                    exact hsh1.out
                · refine br_keep #[true, false, true, true, true, true, true, true, false, true, true, true, false, true, true, true, true, true, true, false, false, false, false] rfl (by kernel_rfl) (fun K hK => ?_)
                  go_simp
                  obtain ⟨W5, hW5⟩ : ∃ x, x = World.alloc W0 (.cells #[.string name, .slice none 0 0] 174) := ⟨_, rfl⟩
                  obtain ⟨g11, hg11⟩ : ∃ x, x = Array.size (World.heap W0) := ⟨_, rfl⟩
                  have hn5 : Sat E W5 (HP.pt g11 (.cells #[.string name, .slice none 0 0] 174) * (HP.rdk y room fuse (.slice (some ⟨g, o, none⟩) n cF) fs L * q)) := by rw [hW5, hg11]; exact (HS0.out.alloc _)
                  rw [← hW5, ← hg11]
                  refine hK _ _ (by first | exact hn5 | exact (Sat.right hn5) | exact (Sat.right (Sat.right hn5)) | exact (Sat.right (Sat.right (Sat.right hn5))) | exact (Sat.right (Sat.right (Sat.right (Sat.right hn5))))) ?_
                  clear hK K hW5 hg11
                  have HS5 : Aside (Sat E W5 (HP.pt g11 (.cells #[.string name, .slice none 0 0] 174) * (HP.rdk y room fuse (.slice (some ⟨g, o, none⟩) n cF) fs L * q))) := ⟨hn5.perm (by ac_rfl)⟩
                  clear hn5
                  refine wpR_keep #[true, true, true, true, true, true, true, true, false, true, true, true, false, true, true, true, true, true, true, false, false, false, false] (i := 1) rfl (by kernel_rfl) (fun K hK => ?_)
                  go_simp
                  obtain ⟨W6, hW6⟩ : ∃ x, x = World.alloc W5 (.cells #[] 174) := ⟨_, rfl⟩
                  obtain ⟨gE, hgE⟩ : ∃ x, x = Array.size (World.heap W5) := ⟨_, rfl⟩
                  have hn6 : Sat E W6 (HP.pt g11 (.cells #[.string name, .slice none 0 0] 174) * (HP.rdk y room fuse (.slice (some ⟨g, o, none⟩) n cF) fs L * q)) := by rw [hW6]; exact (HS5.out.alloc _).right
                  rw [← hW6, ← hgE]
                  refine hK _ _ (by first | exact hn6 | exact (Sat.right hn6) | exact (Sat.right (Sat.right hn6)) | exact (Sat.right (Sat.right (Sat.right hn6))) | exact (Sat.right (Sat.right (Sat.right (Sat.right hn6))))) ?_
                  clear hK K hW6 hgE
                  have HS6 : Aside (Sat E W6 (HP.pt g11 (.cells #[.string name, .slice none 0 0] 174) * (HP.rdk y room fuse (.slice (some ⟨g, o, none⟩) n cF) fs L * q))) := ⟨hn6.perm (by ac_rfl)⟩
                  clear hn6 HS5
                  revert HS6
                  revert W6
                  revert g11
                  revert gE
                  exact hsh1.out
              · intro gE g11 W7 HS7
                refine wpR_keep #[true, true, true, true, true, true, true, true, true, true, true, true, false, true, true, true, true, true, true, false, false, false, false] (i := 8) rfl (by kernel_rfl) (fun K hK => ?_)
                refine Eq.mpr (if_pos (by rfl)) ?_
                refine wp_append_row (v := .slice (some ⟨gE, 0, none⟩) 0 0) (n := 0) (cs := []) (A := some ⟨g, o, none⟩) (m := k) (c := cF) (news := (fs.take k).flatMap RF.vals) slFi rfl rfl rfl (HS7.out.row_nil 174 2 _) (HC.out _ (by first | exact HS7.out | exact (Sat.right HS7.out) | exact (Sat.right (Sat.right HS7.out)) | exact (Sat.right (Sat.right (Sat.right HS7.out))) | exact (Sat.right (Sat.right (Sat.right (Sat.right HS7.out)))))).2.1 HLN.out.1 (vals_one _ fun f hf => HVO.out f (List.mem_of_mem_take hf)) (by unfold maxLen; omega) (by omega) (fun v8 W8 hn8 => ?_)
                rw [List.nil_append, Nat.zero_add] at hn8
                refine hK _ _ (by first | exact hn8 | exact (Sat.right hn8) | exact (Sat.right (Sat.right hn8)) | exact (Sat.right (Sat.right (Sat.right hn8))) | exact (Sat.right (Sat.right (Sat.right (Sat.right hn8))))) ?_
                clear hK K
                have HS8 : Aside (Sat E W8 (HP.row 174 2 v8 k ((fs.take k).flatMap RF.vals) * (HP.pt g11 (.cells #[.string name, .slice none 0 0] 174) * (HP.rdk y room fuse (.slice (some ⟨g, o, none⟩) n cF) fs L * q)))) := ⟨hn8.perm (by ac_rfl)⟩
                clear hn8 HS7
                revert HS8
                revert W8
                revert g11
                revert v8
                revert gE
                exact hsh0.out
            · intro gE v8 g11 W9 HS9
              refine wpR_keep #[true, true, true, true, true, true, true, true, true, true, true, true, true, true, true, true, true, true, true, false, false, false, false] (i := 12) rfl (by kernel_rfl) (fun K hK => ?_)
              have hn10a : Sat E W9 (HP.row 174 2 v8 k ((fs.take k).flatMap RF.vals) * (HP.pt g11 (.cells #[.string name, .slice none 0 0] 174) * (HP.rdk y room fuse (.slice (some ⟨g, o, none⟩) n cF) fs L * q))) := HS9.out.perm (by ac_rfl)
              refine Eq.mpr (if_pos (by rfl)) ?_
              refine wp_append_row (v := v8) (n := k) (cs := (fs.take k).flatMap RF.vals) (A := some ⟨g11, 0, none⟩) (m := 1) (c := 1) (news := [.string name, .slice none 0 0]) slFi rfl rfl rfl hn10a hn10a.s2.pt_cells rfl rfl (by unfold maxLen; omega) (by omega) (fun v12 W10 hn10b => ?_)
              have hn10 := hn10b.drop2
              refine hK _ _ (by first | exact hn10 | exact (Sat.right hn10) | exact (Sat.right (Sat.right hn10)) | exact (Sat.right (Sat.right (Sat.right hn10))) | exact (Sat.right (Sat.right (Sat.right (Sat.right hn10))))) ?_
              clear hK K hn10a hn10b
              have HS10 : Aside (Sat E W10 (HP.row 174 2 v12 (k + 1) ((fs.take k).flatMap RF.vals ++ [.string name, .slice none 0 0]) * (HP.rdk y room fuse (.slice (some ⟨g, o, none⟩) n cF) fs L * q))) := ⟨hn10.perm (by ac_rfl)⟩
              clear hn10 HS9
              refine wpR_eff #[true, true, true, true, true, true, true, true, true, true, true, true, true, true, true, true, true, true, true, true, false, false, false] (i := 19) rfl (by kernel_rfl) (fun K hK => ?_)
              refine Eq.mpr (if_pos (by rfl)) ?_
              refine wp_append_row (v := v12) (n := k + 1) (cs := (fs.take k).flatMap RF.vals ++ [.string name, .slice none 0 0]) (A := some ⟨g, o + k * 2, none⟩) (m := n - k) (c := cF - k) (news := (fs.drop k).flatMap RF.vals) slFi rfl rfl rfl HS10.out ((HC.out _ (by first | exact HS10.out | exact (Sat.right HS10.out) | exact (Sat.right (Sat.right HS10.out)) | exact (Sat.right (Sat.right (Sat.right HS10.out))) | exact (Sat.right (Sat.right (Sat.right (Sat.right HS10.out)))))).2.2) (HLN.out.2) (vals_one _ fun f hf => HVO.out f (List.mem_of_mem_drop hf)) (by unfold maxLen; omega) (by omega) (fun v19 W11 hn11 => ?_)
              skip
              obtain ⟨A19, c19, rfl, hc19, -⟩ := hn11.row_slice
              refine hK _ _ ?_
              clear hK K
              have HS11 : Aside (Sat E W11 (HP.row 174 2 (.slice A19 (k + 1 + (n - k)) c19) (k + 1 + (n - k)) ((fs.take k).flatMap RF.vals ++ [.string name, .slice none 0 0] ++ (fs.drop k).flatMap RF.vals) * (HP.rdk y room fuse (.slice (some ⟨g, o, none⟩) n cF) fs L * q))) := ⟨hn11.perm (by ac_rfl)⟩
              clear hn11 HS10
              refine wpR_rd 20 #[true, true, true, true, true, true, true, true, true, true, true, true, true, true, true, true, true, true, true, true, true, false, false] rfl onlyN_noPanic (by kernel_rfl) (fun K hK => ?_); (go_simp; try go_bits); refine hK _ ?_; clear hK K
              refine wpR_rd 21 #[true, true, true, true, true, true, true, true, true, true, true, true, true, true, true, true, true, true, true, true, true, true, false] rfl onlyN_noPanic (by kernel_rfl) (fun K hK => ?_); (go_simp; try go_bits); refine hK _ ?_; clear hK K
              refine wpR_eff #[true, true, true, true, true, true, true, true, true, true, true, true, true, true, true, true, true, true, true, true, true, true, true] (i := 22) rfl (by kernel_rfl) (fun K hK => ?_)
              have t9 := HS11.out.right.rdk_parts.cell 1
              simp only [List.getElem?_toArray, List.getElem?_cons_zero, List.getElem?_cons_succ] at t9
              have z9 := HS11.out.right.rdk_parts.thaw 1
              go_simp
              obtain ⟨W12, hW12⟩ : ∃ x, x = World.setCell W11 ⟨y, 1, none⟩ (.slice A19 (k + 1 + (n - k)) c19) := ⟨_, rfl⟩
              have hn12 : Sat E W12 (HP.rdk y room fuse (.slice A19 (k + 1 + (n - k)) c19) (fs.take k ++ (⟨name, .slice none 0 0, []⟩ : RF) :: fs.drop k) L * q) := by
                rw [hW12]
                exact Sat.rdk_ins name HNN.out HS11.out
              rw [← hW12]
              refine hK _ _ ?_
              clear hK K hW12 t9 z9
              have HS12 : Aside (Sat E W12 (HP.rdk y room fuse (.slice A19 (k + 1 + (n - k)) c19) (fs.take k ++ (⟨name, .slice none 0 0, []⟩ : RF) :: fs.drop k) L * q)) := ⟨hn12.perm (by ac_rfl)⟩
              clear hn12 HS11
              refine wpR_done (by kernel_rfl) ?_ _
              simp only [OnlyN]
              have HS9 := HS12
              clear HS12
              obtain ⟨g9, o9, VA9, VC9, rfl, -, -, -, -⟩ := HS9.out.rf_at HNN.out HWR.out.at_
              have hcn : (k + 1 + (n - k)) ≤ c19 := by have h := HS9.out.rdk_parts.s2.row_le; rw [← HNN.out] at h; exact h
              go_wp2
              go_meet
              case rel => exact ⟨k, _, _, g9, o9, (k + 1 + (n - k)), c19, rfl, by omega, HNN, hcn, HWR, HS9⟩
        · have hkn0 : k = n := by omega
          have hlt2 : ¬ (k : Int) < (n : Int) := by omega
          have HST : Aside (∀ g, fs[k]? = some g → g.name ≠ name ∧ ltN g.name name = false) := ⟨fun g hg => by
            have := (List.getElem?_eq_some_iff.1 hg).1
            have := HN.out
            omega⟩
          by_cases hck : cF = k
          · have HDN : Aside ((fs.drop k).flatMap RF.vals = []) := ⟨by rw [List.drop_eq_nil_of_le (by rw [← HN.out]; omega)]; rfl⟩
            have hnk2 : n = k := by omega
            have HLN : Aside (((fs.take k).flatMap RF.vals).length = k * 2 ∧ True) := ⟨by
              rw [vals_len, List.length_take, ← HN.out]
              exact ⟨by rw [Nat.min_eq_left (by omega)], trivial⟩⟩
            have HNN : Aside ((k + 1 : Nat) = (fs.take k ++ (⟨name, .slice none 0 0, []⟩ : RF) :: fs.drop k).length) := ⟨by rw [List.length_append, List.length_cons, List.length_take, List.length_drop, ← HN.out]; omega⟩
            have HWR : Aside (WrR B name k (fs.take k ++ (⟨name, .slice none 0 0, []⟩ : RF) :: fs.drop k) ⟨name, .slice none 0 0, []⟩ L) := ⟨WrR.new HVB.out HB.out (by rw [← HN.out]; omega) HST.out HNO.out HNB.out⟩
            have hk0 : (0 : Int) ≤ (k : Int) := by omega
            have hkk : (k : Int) ≤ (k : Int) := by omega
            subst hck
            have HN3 := Aside.mk (hnk2.symm.trans HN.out)
            subst hnk2
            have HC : Aside (∀ W, Sat E W (HP.rdk y room fuse (.slice FA n n) fs L * q) → W.cell? ⟨y, 1, none⟩ = some (.slice FA n n) ∧ Cells W FA ((fs.take n).flatMap RF.vals) ∧ True) := ⟨fun W h => by
              have hrow := h.rdk_parts.s2
              rw [← HN.out] at hrow
              have hrc := hrow.row_cells
              refine ⟨by have := h.rdk_parts.cell 1; simpa using this, ?_, trivial⟩
              rw [vals_take fs n]; exact hrc.take _⟩
            clear HB HST
            have HS := HS5
            clear HS5
            clear hkn0 hlt2
            have hlt2 : ¬ (n : Int) < (n : Int) := by omega
            go_wp2
            clear y1
            refine region_R [1, 8, 11, 12, 19, 22] [1, 8, 11, 12] (fun W => Sat E W (HP.rdk y room fuse (.slice FA n n) fs L * q)) #[false, false, false, false, false, false, false, false, false, false, false, false, false, false, false, false, false, false, false, false, false, false, false] (by kernel_rfl) rfl rfl ?_
            have HT : Aside ((fun W => Sat E W (HP.rdk y room fuse (.slice FA n n) fs L * q)) _) := ⟨HS.out.drew⟩
            refine wpR_pu 0 #[true, false, false, false, false, false, false, false, false, false, false, false, false, false, false, false, false, false, false, false, false, false, false] rfl onlyN_noPanic (by kernel_rfl) (fun K hK => ?_); (go_simp; try go_bits); refine hK _ ?_; clear hK K
            refine wpR_pu 2 #[true, false, true, false, false, false, false, false, false, false, false, false, false, false, false, false, false, false, false, false, false, false, false] rfl onlyN_noPanic (by kernel_rfl) (fun K hK => ?_); (go_simp; try go_bits); refine hK _ ?_; clear hK K
            refine wpR_pu 3 #[true, false, true, true, false, false, false, false, false, false, false, false, false, false, false, false, false, false, false, false, false, false, false] rfl onlyN_noPanic (by kernel_rfl) (fun K hK => ?_); (go_simp; try go_bits); refine hK _ ?_; clear hK K
            refine wpR_pu 4 #[true, false, true, true, true, false, false, false, false, false, false, false, false, false, false, false, false, false, false, false, false, false, false] rfl onlyN_noPanic (by kernel_rfl) (fun K hK => ?_); (go_simp; try go_bits); refine hK _ ?_; clear hK K
            refine wpR_held (i := 5) (v := .slice FA n n) #[true, false, true, true, true, true, false, false, false, false, false, false, false, false, false, false, false, false, false, false, false, false, false] rfl onlyN_noPanic (by kernel_rfl) HT.out (.inl ⟨rfl, fun w' hT => ?_⟩) ?_
            · obtain ⟨t1, -⟩ := HC.out _ hT; go_simp
            simp only [Act.put, List.setIfInBounds_toArray, List.set_cons_zero, List.set_cons_succ]
            refine wpR_pu 6 #[true, false, true, true, true, true, true, false, false, false, false, false, false, false, false, false, false, false, false, false, false, false, false] rfl onlyN_noPanic (by kernel_rfl) (fun K hK => ?_); (go_simp; try go_bits); refine hK _ ?_; clear hK K
            refine wpR_pu 7 #[true, false, true, true, true, true, true, true, false, false, false, false, false, false, false, false, false, false, false, false, false, false, false] rfl onlyN_noPanic (by kernel_rfl) (fun K hK => ?_); (go_simp; try go_bits); refine hK _ ?_; clear hK K
            refine wpR_pu 9 #[true, false, true, true, true, true, true, true, false, true, false, false, false, false, false, false, false, false, false, false, false, false, false] rfl onlyN_noPanic (by kernel_rfl) (fun K hK => ?_); (go_simp; try go_bits); refine hK _ ?_; clear hK K
            refine wpR_pu 10 #[true, false, true, true, true, true, true, true, false, true, true, false, false, false, false, false, false, false, false, false, false, false, false] rfl onlyN_noPanic (by kernel_rfl) (fun K hK => ?_); (go_simp; try go_bits); refine hK _ ?_; clear hK K
            refine wpR_pu 13 #[true, false, true, true, true, true, true, true, false, true, true, false, false, true, false, false, false, false, false, false, false, false, false] rfl onlyN_noPanic (by kernel_rfl) (fun K hK => ?_); (go_simp; try go_bits); refine hK _ ?_; clear hK K
            refine wpR_pu 14 #[true, false, true, true, true, true, true, true, false, true, true, false, false, true, true, false, false, false, false, false, false, false, false] rfl onlyN_noPanic (by kernel_rfl) (fun K hK => ?_); (go_simp; try go_bits); refine hK _ ?_; clear hK K
            refine wpR_pu 15 #[true, false, true, true, true, true, true, true, false, true, true, false, false, true, true, true, false, false, false, false, false, false, false] rfl onlyN_noPanic (by kernel_rfl) (fun K hK => ?_); (go_simp; try go_bits); refine hK _ ?_; clear hK K
            refine wpR_held (i := 16) (v := .slice FA n n) #[true, false, true, true, true, true, true, true, false, true, true, false, false, true, true, true, true, false, false, false, false, false, false] rfl onlyN_noPanic (by kernel_rfl) HT.out (.inl ⟨rfl, fun w' hT => ?_⟩) ?_
            · obtain ⟨t1, -⟩ := HC.out _ hT; go_simp
            simp only [Act.put, List.setIfInBounds_toArray, List.set_cons_zero, List.set_cons_succ]
            refine wpR_pu 17 #[true, false, true, true, true, true, true, true, false, true, true, false, false, true, true, true, true, true, false, false, false, false, false] rfl onlyN_noPanic (by kernel_rfl) (fun K hK => ?_); (go_simp; try go_bits); refine hK _ ?_; clear hK K
            refine wpR_pu 18 #[true, false, true, true, true, true, true, true, false, true, true, false, false, true, true, true, true, true, true, false, false, false, false] rfl onlyN_noPanic (by kernel_rfl) (fun K hK => ?_); (go_simp; try go_bits); refine hK _ ?_; clear hK K
            clear HT
            have HS0 := Aside.mk HS.out.drew
            clear HS
            revert HS0
            generalize World.drew wr = W0
            intro HS0
            apply share
            · intro hsh00
              have hsh0 := Aside.mk hsh00
              clear hsh00
              apply share
              · intro hsh10
                have hsh1 := Aside.mk hsh10
                clear hsh10
                refine wpR_many [1, 11] rfl (by kernel_rfl) ?_
                refine List.forall_mem_cons.2 ⟨?_, List.forall_mem_cons.2 ⟨?_, (fun _ h => by cases h)⟩⟩
                · refine br_keep #[true, true, true, true, true, true, true, true, false, true, true, false, false, true, true, true, true, true, true, false, false, false, false] rfl (by kernel_rfl) (fun K hK => ?_)
                  go_simp
                  obtain ⟨W1, hW1⟩ : ∃ x, x = World.alloc W0 (.cells #[] 174) := ⟨_, rfl⟩
                  obtain ⟨gE, hgE⟩ : ∃ x, x = Array.size (World.heap W0) := ⟨_, rfl⟩
                  have hn1 : Sat E W1 (HP.rdk y room fuse (.slice FA n n) fs L * q) := by rw [hW1]; exact (HS0.out.alloc _).right
                  rw [← hW1, ← hgE]
                  refine hK _ _ (by first | exact hn1 | exact (Sat.right hn1) | exact (Sat.right (Sat.right hn1)) | exact (Sat.right (Sat.right (Sat.right hn1))) | exact (Sat.right (Sat.right (Sat.right (Sat.right hn1))))) ?_
                  clear hK K hW1 hgE
                  have HS1 : Aside (Sat E W1 (HP.rdk y room fuse (.slice FA n n) fs L * q)) := ⟨hn1.perm (by ac_rfl)⟩
                  clear hn1
                  refine wpR_many [8, 11] rfl (by kernel_rfl) ?_
                  refine List.forall_mem_cons.2 ⟨?_, List.forall_mem_cons.2 ⟨?_, (fun _ h => by cases h)⟩⟩
                  · refine br_keep #[true, true, true, true, true, true, true, true, true, true, true, false, false, true, true, true, true, true, true, false, false, false, false] rfl (by kernel_rfl) (fun K hK => ?_)
                    refine Eq.mpr (if_pos (by rfl)) ?_
                    refine wp_append_row (v := .slice (some ⟨gE, 0, none⟩) 0 0) (n := 0) (cs := []) (A := FA) (m := n) (c := n) (news := (fs.take n).flatMap RF.vals) slFi rfl rfl rfl (HS1.out.row_nil 174 2 _) (HC.out _ (by first | exact HS1.out | exact (Sat.right HS1.out) | exact (Sat.right (Sat.right HS1.out)) | exact (Sat.right (Sat.right (Sat.right HS1.out))) | exact (Sat.right (Sat.right (Sat.right (Sat.right HS1.out)))))).2.1 HLN.out.1 (vals_one _ fun f hf => HVO.out f (List.mem_of_mem_take hf)) (by unfold maxLen; omega) (by omega) (fun v8 W2 hn2 => ?_)
                    rw [List.nil_append, Nat.zero_add] at hn2
                    refine hK _ _ (by first | exact hn2 | exact (Sat.right hn2) | exact (Sat.right (Sat.right hn2)) | exact (Sat.right (Sat.right (Sat.right hn2))) | exact (Sat.right (Sat.right (Sat.right (Sat.right hn2))))) ?_
                    clear hK K
                    have HS2 : Aside (Sat E W2 (HP.row 174 2 v8 n ((fs.take n).flatMap RF.vals) * (HP.rdk y room fuse (.slice FA n n) fs L * q))) := ⟨hn2.perm (by ac_rfl)⟩
                    clear hn2 HS1
                    refine wpR_keep #[true, true, true, true, true, true, true, true, true, true, true, true, false, true, true, true, true, true, true, false, false, false, false] (i := 11) rfl (by kernel_rfl) (fun K hK => ?_)
                    go_simp
                    obtain ⟨W3, hW3⟩ : ∃ x, x = World.alloc W2 (.cells #[.string name, .slice none 0 0] 174) := ⟨_, rfl⟩
                    obtain ⟨g11, hg11⟩ : ∃ x, x = Array.size (World.heap W2) := ⟨_, rfl⟩
                    have hn3 : Sat E W3 (HP.pt g11 (.cells #[.string name, .slice none 0 0] 174) * (HP.row 174 2 v8 n ((fs.take n).flatMap RF.vals) * (HP.rdk y room fuse (.slice FA n n) fs L * q))) := by rw [hW3, hg11]; exact (HS2.out.alloc _)
                    rw [← hW3, ← hg11]
                    refine hK _ _ (by first | exact hn3 | exact (Sat.right hn3) | exact (Sat.right (Sat.right hn3)) | exact (Sat.right (Sat.right (Sat.right hn3))) | exact (Sat.right (Sat.right (Sat.right (Sat.right hn3))))) ?_
                    clear hK K hW3 hg11
                    have HS3 : Aside (Sat E W3 (HP.row 174 2 v8 n ((fs.take n).flatMap RF.vals) * (HP.pt g11 (.cells #[.string name, .slice none 0 0] 174) * (HP.rdk y room fuse (.slice FA n n) fs L * q)))) := ⟨hn3.perm (by ac_rfl)⟩
                    clear hn3 HS2
                    revert HS3
                    revert W3
                    revert g11
                    revert v8
                    revert gE
                    exact hsh0.out
                  · refine br_keep #[true, true, true, true, true, true, true, true, false, true, true, true, false, true, true, true, true, true, true, false, false, false, false] rfl (by kernel_rfl) (fun K hK => ?_)
                    go_simp
                    obtain ⟨W4, hW4⟩ : ∃ x, x = World.alloc W1 (.cells #[.string name, .slice none 0 0] 174) := ⟨_, rfl⟩
                    obtain ⟨g11, hg11⟩ : ∃ x, x = Array.size (World.heap W1) := ⟨_, rfl⟩
                    have hn4 : Sat E W4 (HP.pt g11 (.cells #[.string name, .slice none 0 0] 174) * (HP.rdk y room fuse (.slice FA n n) fs L * q)) := by rw [hW4, hg11]; exact (HS1.out.alloc _)
                    rw [← hW4, ← hg11]
                    refine hK _ _ (by first | exact hn4 | exact (Sat.right hn4) | exact (Sat.right (Sat.right hn4)) | exact (Sat.right (Sat.right (Sat.right hn4))) | exact (Sat.right (Sat.right (Sat.right (Sat.right hn4))))) ?_
                    clear hK K hW4 hg11
                    have HS4 : Aside (Sat E W4 (HP.pt g11 (.cells #[.string name, .slice none 0 0] 174) * (HP.rdk y room fuse (.slice FA n n) fs L * q))) := ⟨hn4.perm (by ac_rfl)⟩
                    clear hn4 HS1
                    revert HS4
                    revert W4
                    revert g11
                    revert gE
                    exact hsh1.out
                · refine br_keep #[true, false, true, true, true, true, true, true, false, true, true, true, false, true, true, true, true, true, true, false, false, false, false] rfl (by kernel_rfl) (fun K hK => ?_)
                  go_simp
                  obtain ⟨W5, hW5⟩ : ∃ x, x = World.alloc W0 (.cells #[.string name, .slice none 0 0] 174) := ⟨_, rfl⟩
                  obtain ⟨g11, hg11⟩ : ∃ x, x = Array.size (World.heap W0) := ⟨_, rfl⟩
                  have hn5 : Sat E W5 (HP.pt g11 (.cells #[.string name, .slice none 0 0] 174) * (HP.rdk y room fuse (.slice FA n n) fs L * q)) := by rw [hW5, hg11]; exact (HS0.out.alloc _)
                  rw [← hW5, ← hg11]
                  refine hK _ _ (by first | exact hn5 | exact (Sat.right hn5) | exact (Sat.right (Sat.right hn5)) | exact (Sat.right (Sat.right (Sat.right hn5))) | exact (Sat.right (Sat.right (Sat.right (Sat.right hn5))))) ?_
                  clear hK K hW5 hg11
                  have HS5 : Aside (Sat E W5 (HP.pt g11 (.cells #[.string name, .slice none 0 0] 174) * (HP.rdk y room fuse (.slice FA n n) fs L * q))) := ⟨hn5.perm (by ac_rfl)⟩
                  clear hn5
                  refine wpR_keep #[true, true, true, true, true, true, true, true, false, true, true, true, false, true, true, true, true, true, true, false, false, false, false] (i := 1) rfl (by kernel_rfl) (fun K hK => ?_)
                  go_simp
                  obtain ⟨W6, hW6⟩ : ∃ x, x = World.alloc W5 (.cells #[] 174) := ⟨_, rfl⟩
                  obtain ⟨gE, hgE⟩ : ∃ x, x = Array.size (World.heap W5) := ⟨_, rfl⟩
                  have hn6 : Sat E W6 (HP.pt g11 (.cells #[.string name, .slice none 0 0] 174) * (HP.rdk y room fuse (.slice FA n n) fs L * q)) := by rw [hW6]; exact (HS5.out.alloc _).right
                  rw [← hW6, ← hgE]
                  refine hK _ _ (by first | exact hn6 | exact (Sat.right hn6) | exact (Sat.right (Sat.right hn6)) | exact (Sat.right (Sat.right (Sat.right hn6))) | exact (Sat.right (Sat.right (Sat.right (Sat.right hn6))))) ?_
                  clear hK K hW6 hgE
                  have HS6 : Aside (Sat E W6 (HP.pt g11 (.cells #[.string name, .slice none 0 0] 174) * (HP.rdk y room fuse (.slice FA n n) fs L * q))) := ⟨hn6.perm (by ac_rfl)⟩
                  clear hn6 HS5
                  revert HS6
                  revert W6
                  revert g11
                  revert gE
                  exact hsh1.out
              · intro gE g11 W7 HS7
                refine wpR_keep #[true, true, true, true, true, true, true, true, true, true, true, true, false, true, true, true, true, true, true, false, false, false, false] (i := 8) rfl (by kernel_rfl) (fun K hK => ?_)
                refine Eq.mpr (if_pos (by rfl)) ?_
                refine wp_append_row (v := .slice (some ⟨gE, 0, none⟩) 0 0) (n := 0) (cs := []) (A := FA) (m := n) (c := n) (news := (fs.take n).flatMap RF.vals) slFi rfl rfl rfl (HS7.out.row_nil 174 2 _) (HC.out _ (by first | exact HS7.out | exact (Sat.right HS7.out) | exact (Sat.right (Sat.right HS7.out)) | exact (Sat.right (Sat.right (Sat.right HS7.out))) | exact (Sat.right (Sat.right (Sat.right (Sat.right HS7.out)))))).2.1 HLN.out.1 (vals_one _ fun f hf => HVO.out f (List.mem_of_mem_take hf)) (by unfold maxLen; omega) (by omega) (fun v8 W8 hn8 => ?_)
                rw [List.nil_append, Nat.zero_add] at hn8
                refine hK _ _ (by first | exact hn8 | exact (Sat.right hn8) | exact (Sat.right (Sat.right hn8)) | exact (Sat.right (Sat.right (Sat.right hn8))) | exact (Sat.right (Sat.right (Sat.right (Sat.right hn8))))) ?_
                clear hK K
                have HS8 : Aside (Sat E W8 (HP.row 174 2 v8 n ((fs.take n).flatMap RF.vals) * (HP.pt g11 (.cells #[.string name, .slice none 0 0] 174) * (HP.rdk y room fuse (.slice FA n n) fs L * q)))) := ⟨hn8.perm (by ac_rfl)⟩
                clear hn8 HS7
                revert HS8
                revert W8
                revert g11
                revert v8
                revert gE
                exact hsh0.out
            · intro gE v8 g11 W9 HS9
              refine wpR_keep #[true, true, true, true, true, true, true, true, true, true, true, true, true, true, true, true, true, true, true, false, false, false, false] (i := 12) rfl (by kernel_rfl) (fun K hK => ?_)
              have hn10a : Sat E W9 (HP.row 174 2 v8 n ((fs.take n).flatMap RF.vals) * (HP.pt g11 (.cells #[.string name, .slice none 0 0] 174) * (HP.rdk y room fuse (.slice FA n n) fs L * q))) := HS9.out.perm (by ac_rfl)
              refine Eq.mpr (if_pos (by rfl)) ?_
              refine wp_append_row (v := v8) (n := n) (cs := (fs.take n).flatMap RF.vals) (A := some ⟨g11, 0, none⟩) (m := 1) (c := 1) (news := [.string name, .slice none 0 0]) slFi rfl rfl rfl hn10a hn10a.s2.pt_cells rfl rfl (by unfold maxLen; omega) (by omega) (fun v12 W10 hn10b => ?_)
              have hn10 := hn10b.drop2
              refine hK _ _ (by first | exact hn10 | exact (Sat.right hn10) | exact (Sat.right (Sat.right hn10)) | exact (Sat.right (Sat.right (Sat.right hn10))) | exact (Sat.right (Sat.right (Sat.right (Sat.right hn10))))) ?_
              clear hK K hn10a hn10b
              have HS10 : Aside (Sat E W10 (HP.row 174 2 v12 (n + 1) ((fs.take n).flatMap RF.vals ++ [.string name, .slice none 0 0]) * (HP.rdk y room fuse (.slice FA n n) fs L * q))) := ⟨hn10.perm (by ac_rfl)⟩
              clear hn10 HS9
              refine wpR_eff #[true, true, true, true, true, true, true, true, true, true, true, true, true, true, true, true, true, true, true, true, false, false, false] (i := 19) rfl (by kernel_rfl) (fun K hK => ?_)
              refine Eq.mpr (if_pos (by rfl)) ?_
              refine wp_append_row (v := v12) (n := n + 1) (cs := (fs.take n).flatMap RF.vals ++ [.string name, .slice none 0 0]) (A := FA) (m := 0) (c := 0) (news := (fs.drop n).flatMap RF.vals) slFi rfl rfl rfl HS10.out (by rw [HDN.out]; exact Cells.nil _ _) (by rw [HDN.out]; rfl) (vals_one _ fun f hf => HVO.out f (List.mem_of_mem_drop hf)) (by unfold maxLen; omega) (by omega) (fun v19 W11 hn11 => ?_)
              rw [Nat.add_zero] at hn11
              obtain ⟨A19, c19, rfl, hc19, -⟩ := hn11.row_slice
              refine hK _ _ ?_
              clear hK K
              have HS11 : Aside (Sat E W11 (HP.row 174 2 (.slice A19 (n + 1) c19) (n + 1) ((fs.take n).flatMap RF.vals ++ [.string name, .slice none 0 0] ++ (fs.drop n).flatMap RF.vals) * (HP.rdk y room fuse (.slice FA n n) fs L * q))) := ⟨hn11.perm (by ac_rfl)⟩
              clear hn11 HS10
              refine wpR_rd 20 #[true, true, true, true, true, true, true, true, true, true, true, true, true, true, true, true, true, true, true, true, true, false, false] rfl onlyN_noPanic (by kernel_rfl) (fun K hK => ?_); (go_simp; try go_bits); refine hK _ ?_; clear hK K
              refine wpR_rd 21 #[true, true, true, true, true, true, true, true, true, true, true, true, true, true, true, true, true, true, true, true, true, true, false] rfl onlyN_noPanic (by kernel_rfl) (fun K hK => ?_); (go_simp; try go_bits); refine hK _ ?_; clear hK K
              refine wpR_eff #[true, true, true, true, true, true, true, true, true, true, true, true, true, true, true, true, true, true, true, true, true, true, true] (i := 22) rfl (by kernel_rfl) (fun K hK => ?_)
              have t9 := HS11.out.right.rdk_parts.cell 1
              simp only [List.getElem?_toArray, List.getElem?_cons_zero, List.getElem?_cons_succ] at t9
              have z9 := HS11.out.right.rdk_parts.thaw 1
              go_simp
              obtain ⟨W12, hW12⟩ : ∃ x, x = World.setCell W11 ⟨y, 1, none⟩ (.slice A19 (n + 1) c19) := ⟨_, rfl⟩
              have hn12 : Sat E W12 (HP.rdk y room fuse (.slice A19 (n + 1) c19) (fs.take n ++ (⟨name, .slice none 0 0, []⟩ : RF) :: fs.drop n) L * q) := by
                rw [hW12]
                exact Sat.rdk_ins name HNN.out HS11.out
              rw [← hW12]
              refine hK _ _ ?_
              clear hK K hW12 t9 z9
              have HS12 : Aside (Sat E W12 (HP.rdk y room fuse (.slice A19 (n + 1) c19) (fs.take n ++ (⟨name, .slice none 0 0, []⟩ : RF) :: fs.drop n) L * q)) := ⟨hn12.perm (by ac_rfl)⟩
              clear hn12 HS11
              refine wpR_done (by kernel_rfl) ?_ _
              simp only [OnlyN]
              have HS9 := HS12
              clear HS12
              obtain ⟨g9, o9, VA9, VC9, rfl, -, -, -, -⟩ := HS9.out.rf_at HNN.out HWR.out.at_
              have hcn : (n + 1) ≤ c19 := by have h := HS9.out.rdk_parts.s2.row_le; rw [← HNN.out] at h; exact h
              go_wp2
              go_meet
              case rel => exact ⟨n, _, _, g9, o9, (n + 1), c19, rfl, by omega, HNN, hcn, HWR, HS9⟩
          · clear hkn0
            obtain ⟨g, o, rfl⟩ : ∃ g o, FA = some ⟨g, o, none⟩ := Sat.row_some (by omega) HS5.out.rdk_parts.s2
            have HLN : Aside (((fs.take k).flatMap RF.vals).length = k * 2 ∧ ((fs.drop k).flatMap RF.vals).length = (n - k) * 2) := ⟨by
              rw [vals_len, vals_len, List.length_take, List.length_drop, ← HN.out]
              exact ⟨by rw [Nat.min_eq_left (by omega)], rfl⟩⟩
            have HNN : Aside ((k + 1 + (n - k) : Nat) = (fs.take k ++ (⟨name, .slice none 0 0, []⟩ : RF) :: fs.drop k).length) := ⟨by rw [List.length_append, List.length_cons, List.length_take, List.length_drop, ← HN.out]; omega⟩
            have HWR : Aside (WrR B name k (fs.take k ++ (⟨name, .slice none 0 0, []⟩ : RF) :: fs.drop k) ⟨name, .slice none 0 0, []⟩ L) := ⟨WrR.new HVB.out HB.out (by rw [← HN.out]; omega) HST.out HNO.out HNB.out⟩
            have hkn : k ≤ n := by omega
            have hk0 : (0 : Int) ≤ (k : Int) := by omega
            have hknI : (k : Int) ≤ (n : Int) := by omega
            have hkc : k ≤ cF := by omega
            have hkcI : (k : Int) ≤ (cF : Int) := by omega
            have HC : Aside (∀ W, Sat E W (HP.rdk y room fuse (.slice (some ⟨g, o, none⟩) n cF) fs L * q) → W.cell? ⟨y, 1, none⟩ = some (.slice (some ⟨g, o, none⟩) n cF) ∧ Cells W (some ⟨g, o, none⟩) ((fs.take k).flatMap RF.vals) ∧ Cells W (some ⟨g, o + k * 2, none⟩) ((fs.drop k).flatMap RF.vals)) := ⟨fun W h => by
              have hrow := h.rdk_parts.s2
              rw [← HN.out] at hrow
              have hrc := hrow.row_cells
              refine ⟨by have := h.rdk_parts.cell 1; simpa using this, ?_, ?_⟩
              · rw [vals_take fs k]; exact hrc.take _
              · rw [vals_drop fs k, ← addr_add]; exact hrc.drop _⟩
            have hcF2 : ¬ cF = k := by omega
            have hcF3 : ¬ (cF : Int) = (k : Int) := by omega
            clear HB HST
            have HS := HS5
            clear HS5
            go_wp2
            clear y1
            refine region_R [1, 8, 11, 12, 19, 22] [1, 8, 11, 12] (fun W => Sat E W (HP.rdk y room fuse (.slice (some ⟨g, o, none⟩) n cF) fs L * q)) #[false, false, false, false, false, false, false, false, false, false, false, false, false, false, false, false, false, false, false, false, false, false, false] (by kernel_rfl) rfl rfl ?_
            have HT : Aside ((fun W => Sat E W (HP.rdk y room fuse (.slice (some ⟨g, o, none⟩) n cF) fs L * q)) _) := ⟨HS.out.drew⟩
            refine wpR_pu 0 #[true, false, false, false, false, false, false, false, false, false, false, false, false, false, false, false, false, false, false, false, false, false, false] rfl onlyN_noPanic (by kernel_rfl) (fun K hK => ?_); (go_simp; try go_bits); refine hK _ ?_; clear hK K
            refine wpR_pu 2 #[true, false, true, false, false, false, false, false, false, false, false, false, false, false, false, false, false, false, false, false, false, false, false] rfl onlyN_noPanic (by kernel_rfl) (fun K hK => ?_); (go_simp; try go_bits); refine hK _ ?_; clear hK K
            refine wpR_pu 3 #[true, false, true, true, false, false, false, false, false, false, false, false, false, false, false, false, false, false, false, false, false, false, false] rfl onlyN_noPanic (by kernel_rfl) (fun K hK => ?_); (go_simp; try go_bits); refine hK _ ?_; clear hK K
            refine wpR_pu 4 #[true, false, true, true, true, false, false, false, false, false, false, false, false, false, false, false, false, false, false, false, false, false, false] rfl onlyN_noPanic (by kernel_rfl) (fun K hK => ?_); (go_simp; try go_bits); refine hK _ ?_; clear hK K
            refine wpR_held (i := 5) (v := .slice (some ⟨g, o, none⟩) n cF) #[true, false, true, true, true, true, false, false, false, false, false, false, false, false, false, false, false, false, false, false, false, false, false] rfl onlyN_noPanic (by kernel_rfl) HT.out (.inl ⟨rfl, fun w' hT => ?_⟩) ?_
            · obtain ⟨t1, -⟩ := HC.out _ hT; go_simp
            simp only [Act.put, List.setIfInBounds_toArray, List.set_cons_zero, List.set_cons_succ]
            refine wpR_pu 6 #[true, false, true, true, true, true, true, false, false, false, false, false, false, false, false, false, false, false, false, false, false, false, false] rfl onlyN_noPanic (by kernel_rfl) (fun K hK => ?_); (go_simp; try go_bits); refine hK _ ?_; clear hK K
            refine wpR_pu 7 #[true, false, true, true, true, true, true, true, false, false, false, false, false, false, false, false, false, false, false, false, false, false, false] rfl onlyN_noPanic (by kernel_rfl) (fun K hK => ?_); (go_simp; try go_bits); refine hK _ ?_; clear hK K
            refine wpR_pu 9 #[true, false, true, true, true, true, true, true, false, true, false, false, false, false, false, false, false, false, false, false, false, false, false] rfl onlyN_noPanic (by kernel_rfl) (fun K hK => ?_); (go_simp; try go_bits); refine hK _ ?_; clear hK K
            refine wpR_pu 10 #[true, false, true, true, true, true, true, true, false, true, true, false, false, false, false, false, false, false, false, false, false, false, false] rfl onlyN_noPanic (by kernel_rfl) (fun K hK => ?_); (go_simp; try go_bits); refine hK _ ?_; clear hK K
            refine wpR_pu 13 #[true, false, true, true, true, true, true, true, false, true, true, false, false, true, false, false, false, false, false, false, false, false, false] rfl onlyN_noPanic (by kernel_rfl) (fun K hK => ?_); (go_simp; try go_bits); refine hK _ ?_; clear hK K
            refine wpR_pu 14 #[true, false, true, true, true, true, true, true, false, true, true, false, false, true, true, false, false, false, false, false, false, false, false] rfl onlyN_noPanic (by kernel_rfl) (fun K hK => ?_); (go_simp; try go_bits); refine hK _ ?_; clear hK K
            refine wpR_pu 15 #[true, false, true, true, true, true, true, true, false, true, true, false, false, true, true, true, false, false, false, false, false, false, false] rfl onlyN_noPanic (by kernel_rfl) (fun K hK => ?_); (go_simp; try go_bits); refine hK _ ?_; clear hK K
            refine wpR_held (i := 16) (v := .slice (some ⟨g, o, none⟩) n cF) #[true, false, true, true, true, true, true, true, false, true, true, false, false, true, true, true, true, false, false, false, false, false, false] rfl onlyN_noPanic (by kernel_rfl) HT.out (.inl ⟨rfl, fun w' hT => ?_⟩) ?_
            · obtain ⟨t1, -⟩ := HC.out _ hT; go_simp
            simp only [Act.put, List.setIfInBounds_toArray, List.set_cons_zero, List.set_cons_succ]
            refine wpR_pu 17 #[true, false, true, true, true, true, true, true, false, true, true, false, false, true, true, true, true, true, false, false, false, false, false] rfl onlyN_noPanic (by kernel_rfl) (fun K hK => ?_); (go_simp; try go_bits); refine hK _ ?_; clear hK K
            refine wpR_pu 18 #[true, false, true, true, true, true, true, true, false, true, true, false, false, true, true, true, true, true, true, false, false, false, false] rfl onlyN_noPanic (by kernel_rfl) (fun K hK => ?_); (go_simp; try go_bits); refine hK _ ?_; clear hK K
            clear HT
            have HS0 := Aside.mk HS.out.drew
            clear HS
            revert HS0
            generalize World.drew wr = W0
            intro HS0
            apply share
            · intro hsh00
              have hsh0 := Aside.mk hsh00
              clear hsh00
              apply share
              · intro hsh10
                have hsh1 := Aside.mk hsh10
                clear hsh10
                refine wpR_many [1, 11] rfl (by kernel_rfl) ?_
                refine List.forall_mem_cons.2 ⟨?_, List.forall_mem_cons.2 ⟨?_, (fun _ h => by cases h)⟩⟩
                · refine br_keep #[true, true, true, true, true, true, true, true, false, true, true, false, false, true, true, true, true, true, true, false, false, false, false] rfl (by kernel_rfl) (fun K hK => ?_)
                  go_simp
                  obtain ⟨W1, hW1⟩ : ∃ x, x = World.alloc W0 (.cells #[] 174) := ⟨_, rfl⟩
                  obtain ⟨gE, hgE⟩ : ∃ x, x = Array.size (World.heap W0) := ⟨_, rfl⟩
                  have hn1 : Sat E W1 (HP.rdk y room fuse (.slice (some ⟨g, o, none⟩) n cF) fs L * q) := by rw [hW1]; exact (HS0.out.alloc _).right
                  rw [← hW1, ← hgE]
                  refine hK _ _ (by first | exact hn1 | exact (Sat.right hn1) | exact (Sat.right (Sat.right hn1)) | exact (Sat.right (Sat.right (Sat.right hn1))) | exact (Sat.right (Sat.right (Sat.right (Sat.right hn1))))) ?_
                  clear hK K hW1 hgE
                  have HS1 : Aside (Sat E W1 (HP.rdk y room fuse (.slice (some ⟨g, o, none⟩) n cF) fs L * q)) := ⟨hn1.perm (by ac_rfl)⟩
                  clear hn1
                  refine wpR_many [8, 11] rfl (by kernel_rfl) ?_
                  refine List.forall_mem_cons.2 ⟨?_, List.forall_mem_cons.2 ⟨?_, (fun _ h => by cases h)⟩⟩
                  · refine br_keep #[true, true, true, true, true, true, true, true, true, true, true, false, false, true, true, true, true, true, true, false, false, false, false] rfl (by kernel_rfl) (fun K hK => ?_)
                    refine Eq.mpr (if_pos (by rfl)) ?_
                    refine wp_append_row (v := .slice (some ⟨gE, 0, none⟩) 0 0) (n := 0) (cs := []) (A := some ⟨g, o, none⟩) (m := k) (c := cF) (news := (fs.take k).flatMap RF.vals) slFi rfl rfl rfl (HS1.out.row_nil 174 2 _) (HC.out _ (by first | exact HS1.out | exact (Sat.right HS1.out) | exact (Sat.right (Sat.right HS1.out)) | exact (Sat.right (Sat.right (Sat.right HS1.out))) | exact (Sat.right (Sat.right (Sat.right (Sat.right HS1.out)))))).2.1 HLN.out.1 (vals_one _ fun f hf => HVO.out f (List.mem_of_mem_take hf)) (by unfold maxLen; omega) (by omega) (fun v8 W2 hn2 => ?_)
                    rw [List.nil_append, Nat.zero_add] at hn2
                    refine hK _ _ (by first | exact hn2 | exact (Sat.right hn2) | exact (Sat.right (Sat.right hn2)) | exact (Sat.right (Sat.right (Sat.right hn2))) | exact (Sat.right (Sat.right (Sat.right (Sat.right hn2))))) ?_
                    clear hK K
                    have HS2 : Aside (Sat E W2 (HP.row 174 2 v8 k ((fs.take k).flatMap RF.vals) * (HP.rdk y room fuse (.slice (some ⟨g, o, none⟩) n cF) fs L * q))) := ⟨hn2.perm (by ac_rfl)⟩
                    clear hn2 HS1
                    refine wpR_keep #[true, true, true, true, true, true, true, true, true, true, true, true, false, true, true, true, true, true, true, false, false, false, false] (i := 11) rfl (by kernel_rfl) (fun K hK => ?_)
                    go_simp
                    obtain ⟨W3, hW3⟩ : ∃ x, x = World.alloc W2 (.cells #[.string name, .slice none 0 0] 174) := ⟨_, rfl⟩
                    obtain ⟨g11, hg11⟩ : ∃ x, x = Array.size (World.heap W2) := ⟨_, rfl⟩
                    have hn3 : Sat E W3 (HP.pt g11 (.cells #[.string name, .slice none 0 0] 174) * (HP.row 174 2 v8 k ((fs.take k).flatMap RF.vals) * (HP.rdk y room fuse (.slice (some ⟨g, o, none⟩) n cF) fs L * q))) := by rw [hW3, hg11]; exact (HS2.out.alloc _)
                    rw [← hW3, ← hg11]
                    refine hK _ _ (by first | exact hn3 | exact (Sat.right hn3) | exact (Sat.right (Sat.right hn3)) | exact (Sat.right (Sat.right (Sat.right hn3))) | exact (Sat.right (Sat.right (Sat.right (Sat.right hn3))))) ?_
                    clear hK K hW3 hg11
                    have HS3 : Aside (Sat E W3 (HP.row 174 2 v8 k ((fs.take k).flatMap RF.vals) * (HP.pt g11 (.cells #[.string name, .slice none 0 0] 174) * (HP.rdk y room fuse (.slice (some ⟨g, o, none⟩) n cF) fs L * q)))) := ⟨hn3.perm (by ac_rfl)⟩
                    clear hn3 HS2
                    revert HS3
                    revert W3
                    revert g11
                    revert v8
                    revert gE
                    exact hsh0.out
                  · refine br_keep #[true, true, true, true, true, true, true, true, false, true, true, true, false, true, true, true, true, true, true, false, false, false, false] rfl (by kernel_rfl) (fun K hK => ?_)
                    go_simp
                    obtain ⟨W4, hW4⟩ : ∃ x, x = World.alloc W1 (.cells #[.string name, .slice none 0 0] 174) := ⟨_, rfl⟩
                    obtain ⟨g11, hg11⟩ : ∃ x, x = Array.size (World.heap W1) := ⟨_, rfl⟩
                    have hn4 : Sat E W4 (HP.pt g11 (.cells #[.string name, .slice none 0 0] 174) * (HP.rdk y room fuse (.slice (some ⟨g, o, none⟩) n cF) fs L * q)) := by rw [hW4, hg11]; exact (HS1.out.alloc _)
                    rw [← hW4, ← hg11]
                    refine hK _ _ (by first | exact hn4 | exact (Sat.right hn4) | exact (Sat.right (Sat.right hn4)) | exact (Sat.right (Sat.right (Sat.right hn4))) | exact (Sat.right (Sat.right (Sat.right (Sat.right hn4))))) ?_
                    clear hK K hW4 hg11
                    have HS4 : Aside (Sat E W4 (HP.pt g11 (.cells #[.string name, .slice none 0 0] 174) * (HP.rdk y room fuse (.slice (some ⟨g, o, none⟩) n cF) fs L * q))) := ⟨hn4.perm (by ac_rfl)⟩
                    clear hn4 HS1
                    revert HS4
                    revert W4
                    revert g11
                    revert gE
                    exact hsh1.out
                · refine br_keep #[true, false, true, true, true, true, true, true, false, true, true, true, false, true, true, true, true, true, true, false, false, false, false] rfl (by kernel_rfl) (fun K hK => ?_)
                  go_simp
                  obtain ⟨W5, hW5⟩ : ∃ x, x = World.alloc W0 (.cells #[.string name, .slice none 0 0] 174) := ⟨_, rfl⟩
                  obtain ⟨g11, hg11⟩ : ∃ x, x = Array.size (World.heap W0) := ⟨_, rfl⟩
                  have hn5 : Sat E W5 (HP.pt g11 (.cells #[.string name, .slice none 0 0] 174) * (HP.rdk y room fuse (.slice (some ⟨g, o, none⟩) n cF) fs L * q)) := by rw [hW5, hg11]; exact (HS0.out.alloc _)
                  rw [← hW5, ← hg11]
                  refine hK _ _ (by first | exact hn5 | exact (Sat.right hn5) | exact (Sat.right (Sat.right hn5)) | exact (Sat.right (Sat.right (Sat.right hn5))) | exact (Sat.right (Sat.right (Sat.right (Sat.right hn5))))) ?_
                  clear hK K hW5 hg11
                  have HS5 : Aside (Sat E W5 (HP.pt g11 (.cells #[.string name, .slice none 0 0] 174) * (HP.rdk y room fuse (.slice (some ⟨g, o, none⟩) n cF) fs L * q))) := ⟨hn5.perm (by ac_rfl)⟩
                  clear hn5
                  refine wpR_keep #[true, true, true, true, true, true, true, true, false, true, true, true, false, true, true, true, true, true, true, false, false, false, false] (i := 1) rfl (by kernel_rfl) (fun K hK => ?_)
                  go_simp
                  obtain ⟨W6, hW6⟩ : ∃ x, x = World.alloc W5 (.cells #[] 174) := ⟨_, rfl⟩
                  obtain ⟨gE, hgE⟩ : ∃ x, x = Array.size (World.heap W5) := ⟨_, rfl⟩
                  have hn6 : Sat E W6 (HP.pt g11 (.cells #[.string name, .slice none 0 0] 174) * (HP.rdk y room fuse (.slice (some ⟨g, o, none⟩) n cF) fs L * q)) := by rw [hW6]; exact (HS5.out.alloc _).right
                  rw [← hW6, ← hgE]
                  refine hK _ _ (by first | exact hn6 | exact (Sat.right hn6) | exact (Sat.right (Sat.right hn6)) | exact (Sat.right (Sat.right (Sat.right hn6))) | exact (Sat.right (Sat.right (Sat.right (Sat.right hn6))))) ?_
                  clear hK K hW6 hgE
                  have HS6 : Aside (Sat E W6 (HP.pt g11 (.cells #[.string name, .slice none 0 0] 174) * (HP.rdk y room fuse (.slice (some ⟨g, o, none⟩) n cF) fs L * q))) := ⟨hn6.perm (by ac_rfl)⟩
                  clear hn6 HS5
                  revert HS6
                  revert W6
                  revert g11
                  revert gE
                  exact hsh1.out
              · intro gE g11 W7 HS7
                refine wpR_keep #[true, true, true, true, true, true, true, true, true, true, true, true, false, true, true, true, true, true, true, false, false, false, false] (i := 8) rfl (by kernel_rfl) (fun K hK => ?_)
                refine Eq.mpr (if_pos (by rfl)) ?_
                refine wp_append_row (v := .slice (some ⟨gE, 0, none⟩) 0 0) (n := 0) (cs := []) (A := some ⟨g, o, none⟩) (m := k) (c := cF) (news := (fs.take k).flatMap RF.vals) slFi rfl rfl rfl (HS7.out.row_nil 174 2 _) (HC.out _ (by first | exact HS7.out | exact (Sat.right HS7.out) | exact (Sat.right (Sat.right HS7.out)) | exact (Sat.right (Sat.right (Sat.right HS7.out))) | exact (Sat.right (Sat.right (Sat.right (Sat.right HS7.out)))))).2.1 HLN.out.1 (vals_one _ fun f hf => HVO.out f (List.mem_of_mem_take hf)) (by unfold maxLen; omega) (by omega) (fun v8 W8 hn8 => ?_)
                rw [List.nil_append, Nat.zero_add] at hn8
                refine hK _ _ (by first | exact hn8 | exact (Sat.right hn8) | exact (Sat.right (Sat.right hn8)) | exact (Sat.right (Sat.right (Sat.right hn8))) | exact (Sat.right (Sat.right (Sat.right (Sat.right hn8))))) ?_
                clear hK K
                have HS8 : Aside (Sat E W8 (HP.row 174 2 v8 k ((fs.take k).flatMap RF.vals) * (HP.pt g11 (.cells #[.string name, .slice none 0 0] 174) * (HP.rdk y room fuse (.slice (some ⟨g, o, none⟩) n cF) fs L * q)))) := ⟨hn8.perm (by ac_rfl)⟩
                clear hn8 HS7
                revert HS8
                revert W8
                revert g11
                revert v8
                revert gE
                exact hsh0.out
            · intro gE v8 g11 W9 HS9
              refine wpR_keep #[true, true, true, true, true, true, true, true, true, true, true, true, true, true, true, true, true, true, true, false, false, false, false] (i := 12) rfl (by kernel_rfl) (fun K hK => ?_)
              have hn10a : Sat E W9 (HP.row 174 2 v8 k ((fs.take k).flatMap RF.vals) * (HP.pt g11 (.cells #[.string name, .slice none 0 0] 174) * (HP.rdk y room fuse (.slice (some ⟨g, o, none⟩) n cF) fs L * q))) := HS9.out.perm (by ac_rfl)
              refine Eq.mpr (if_pos (by rfl)) ?_
              refine wp_append_row (v := v8) (n := k) (cs := (fs.take k).flatMap RF.vals) (A := some ⟨g11, 0, none⟩) (m := 1) (c := 1) (news := [.string name, .slice none 0 0]) slFi rfl rfl rfl hn10a hn10a.s2.pt_cells rfl rfl (by unfold maxLen; omega) (by omega) (fun v12 W10 hn10b => ?_)
              have hn10 := hn10b.drop2
              refine hK _ _ (by first | exact hn10 | exact (Sat.right hn10) | exact (Sat.right (Sat.right hn10)) | exact (Sat.right (Sat.right (Sat.right hn10))) | exact (Sat.right (Sat.right (Sat.right (Sat.right hn10))))) ?_
              clear hK K hn10a hn10b
              have HS10 : Aside (Sat E W10 (HP.row 174 2 v12 (k + 1) ((fs.take k).flatMap RF.vals ++ [.string name, .slice none 0 0]) * (HP.rdk y room fuse (.slice (some ⟨g, o, none⟩) n cF) fs L * q))) := ⟨hn10.perm (by ac_rfl)⟩
              clear hn10 HS9
              refine wpR_eff #[true, true, true, true, true, true, true, true, true, true, true, true, true, true, true, true, true, true, true, true, false, false, false] (i := 19) rfl (by kernel_rfl) (fun K hK => ?_)
              refine Eq.mpr (if_pos (by rfl)) ?_
              refine wp_append_row (v := v12) (n := k + 1) (cs := (fs.take k).flatMap RF.vals ++ [.string name, .slice none 0 0]) (A := some ⟨g, o + k * 2, none⟩) (m := n - k) (c := cF - k) (news := (fs.drop k).flatMap RF.vals) slFi rfl rfl rfl HS10.out ((HC.out _ (by first | exact HS10.out | exact (Sat.right HS10.out) | exact (Sat.right (Sat.right HS10.out)) | exact (Sat.right (Sat.right (Sat.right HS10.out))) | exact (Sat.right (Sat.right (Sat.right (Sat.right HS10.out)))))).2.2) (HLN.out.2) (vals_one _ fun f hf => HVO.out f (List.mem_of_mem_drop hf)) (by unfold maxLen; omega) (by omega) (fun v19 W11 hn11 => ?_)
              skip
              obtain ⟨A19, c19, rfl, hc19, -⟩ := hn11.row_slice
              refine hK _ _ ?_
              clear hK K
              have HS11 : Aside (Sat E W11 (HP.row 174 2 (.slice A19 (k + 1 + (n - k)) c19) (k + 1 + (n - k)) ((fs.take k).flatMap RF.vals ++ [.string name, .slice none 0 0] ++ (fs.drop k).flatMap RF.vals) * (HP.rdk y room fuse (.slice (some ⟨g, o, none⟩) n cF) fs L * q))) := ⟨hn11.perm (by ac_rfl)⟩
              clear hn11 HS10
              refine wpR_rd 20 #[true, true, true, true, true, true, true, true, true, true, true, true, true, true, true, true, true, true, true, true, true, false, false] rfl onlyN_noPanic (by kernel_rfl) (fun K hK => ?_); (go_simp; try go_bits); refine hK _ ?_; clear hK K
              refine wpR_rd 21 #[true, true, true, true, true, true, true, true, true, true, true, true, true, true, true, true, true, true, true, true, true, true, false] rfl onlyN_noPanic (by kernel_rfl) (fun K hK => ?_); (go_simp; try go_bits); refine hK _ ?_; clear hK K
              refine wpR_eff #[true, true, true, true, true, true, true, true, true, true, true, true, true, true, true, true, true, true, true, true, true, true, true] (i := 22) rfl (by kernel_rfl) (fun K hK => ?_)
              have t9 := HS11.out.right.rdk_parts.cell 1
              simp only [List.getElem?_toArray, List.getElem?_cons_zero, List.getElem?_cons_succ] at t9
              have z9 := HS11.out.right.rdk_parts.thaw 1
              go_simp
              obtain ⟨W12, hW12⟩ : ∃ x, x = World.setCell W11 ⟨y, 1, none⟩ (.slice A19 (k + 1 + (n - k)) c19) := ⟨_, rfl⟩
              have hn12 : Sat E W12 (HP.rdk y room fuse (.slice A19 (k + 1 + (n - k)) c19) (fs.take k ++ (⟨name, .slice none 0 0, []⟩ : RF) :: fs.drop k) L * q) := by
                rw [hW12]
                exact Sat.rdk_ins name HNN.out HS11.out
              rw [← hW12]
              refine hK _ _ ?_
              clear hK K hW12 t9 z9
              have HS12 : Aside (Sat E W12 (HP.rdk y room fuse (.slice A19 (k + 1 + (n - k)) c19) (fs.take k ++ (⟨name, .slice none 0 0, []⟩ : RF) :: fs.drop k) L * q)) := ⟨hn12.perm (by ac_rfl)⟩
              clear hn12 HS11
              refine wpR_done (by kernel_rfl) ?_ _
              simp only [OnlyN]
              have HS9 := HS12
              clear HS12
              obtain ⟨g9, o9, VA9, VC9, rfl, -, -, -, -⟩ := HS9.out.rf_at HNN.out HWR.out.at_
              have hcn : (k + 1 + (n - k)) ≤ c19 := by have h := HS9.out.rdk_parts.s2.row_le; rw [← HNN.out] at h; exact h
              go_wp2
              go_meet
              case rel => exact ⟨k, _, _, g9, o9, (k + 1 + (n - k)), c19, rfl, by omega, HNN, hcn, HWR, HS9⟩
  obtain ⟨k, fs1, f1, g, o, n1, c1, rfl, hn1, HN1, hc1, HWR, HS⟩ := hcut
  clear HS5
  obtain ⟨VA, VC, hval, hvc, -⟩ := HS.out.rf_val (List.mem_of_getElem? HWR.out.at_)
  obtain ⟨vn, hvn⟩ : ∃ vn, vn = f1.cs.length := ⟨_, rfl⟩
  have hvr : rl = vn := by rw [hvn, HRL.out, ← HBat.out, ← HWR.out.cels, List.length_map]
  rw [← hvn] at hval hvc
  subst hvr
  have HVL : Aside (f1.val = .slice VA rl VC ∧ rl = f1.cs.length) := ⟨⟨hval, hvn⟩⟩
  have hk0 : (0 : Int) ≤ (k : Int) := by omega
  have hk1n : k < n1 := by rw [HN1.out]; exact (List.getElem?_eq_some_iff.1 HWR.out.at_).1
  have hk1 : (k : Int) < (n1 : Int) := by omega
  obtain ⟨t1, -, t2⟩ := HS.out.rf_cell HN1.out HWR.out.at_
  rw [hval] at t2
  clear hval hvn
  go_upto_if 100 with fail
  go_cut [9] from 11 (fun s9 wx => s9 = .int .i64 k ∧ ∃ (fs2 : List RF) (f2 : RF) (x2 : RC) (L2 : List (Value × List Int)) (gc oc vn2 VC2 : Nat), Aside (WrS RES l k j fs2 f2 x2 L2) ∧ Aside (n1 = fs2.length) ∧ Aside (f2.val = .slice (some ⟨gc, oc, none⟩) vn2 VC2 ∧ vn2 = f2.cs.length) ∧ Aside (Sat E wx (HP.rdk y room fuse (.slice (some ⟨g, o, none⟩) n1 c1) fs2 L2 * q)))
  case first =>
    by_cases hjv : j = rl
    · subst hjv
      have HRES2 : Aside (RES = B.set name (B.at name ++ [Cel.zero.wrote l])) := ⟨by rw [HRES.out, if_pos rfl, HBat.out]⟩
      have HZ2 := Aside.mk (HZ.out rfl)
      have HC1 : Aside (∀ W r, Sat E W (HP.rdk y room fuse (.slice (some ⟨g, o, none⟩) n1 c1) fs1 L * r) → W.cell? ⟨y, 1, none⟩ = some (.slice (some ⟨g, o, none⟩) n1 c1) ∧ W.cell? ⟨g, o + k * 2 + 1, none⟩ = some (.slice VA j VC)) := ⟨fun W r h => by
        obtain ⟨t1, -, t2⟩ := h.rf_cell HN1.out HWR.out.at_
        rw [HVL.out.1] at t2
        exact ⟨t1, t2⟩⟩
      have HCX : Aside (∀ W r, Sat E W (HP.rdkX y room fuse (.slice (some ⟨g, o, none⟩) n1 c1) fs1 L k * r) → W.cell? ⟨y, 1, none⟩ = some (.slice (some ⟨g, o, none⟩) n1 c1) ∧ W.cell? ⟨g, o + k * 2 + 1, none⟩ = some (.slice VA j VC)) := ⟨fun W r h => by
        obtain ⟨t1, t2, -⟩ := h.rdkX_cells HN1.out HWR.out.at_
        rw [HVL.out.1] at t2
        exact ⟨t1, t2⟩⟩
      have hrl2 := HSM.out
      clear t1 t2 HRES HZ hfr
      go_wp2
      refine region_R [13, 14, 16, 17, 20] [13, 14, 16, 17] (fun (W : World) => W.cell? ⟨y, 1, none⟩ = some (Value.slice (some ⟨g, o, none⟩) n1 c1) ∧ W.cell? ⟨g, o + k * 2 + 1, none⟩ = some (Value.slice VA j VC)) #[false, false, false, false, false, false, false, false, false, false, false, false, false, false, false, false, false, false, false, false, false] (by kernel_rfl) rfl rfl ?_
      have HT : Aside ((fun (W : World) => W.cell? ⟨y, 1, none⟩ = some (Value.slice (some ⟨g, o, none⟩) n1 c1) ∧ W.cell? ⟨g, o + k * 2 + 1, none⟩ = some (Value.slice VA j VC)) _) := ⟨HC1.out _ _ HS.out.drew⟩
      refine wpR_pu 0 #[true, false, false, false, false, false, false, false, false, false, false, false, false, false, false, false, false, false, false, false, false] rfl onlyN_noPanic (by kernel_rfl) (fun K hK => ?_); (go_simp; try go_bits); refine hK _ ?_; clear hK K
      refine wpR_pu 1 #[true, true, false, false, false, false, false, false, false, false, false, false, false, false, false, false, false, false, false, false, false] rfl onlyN_noPanic (by kernel_rfl) (fun K hK => ?_); (go_simp; try go_bits); refine hK _ ?_; clear hK K
      refine wpR_pu 2 #[true, true, true, false, false, false, false, false, false, false, false, false, false, false, false, false, false, false, false, false, false] rfl onlyN_noPanic (by kernel_rfl) (fun K hK => ?_); (go_simp; try go_bits); refine hK _ ?_; clear hK K
      refine wpR_held (i := 3) (v := .slice (some ⟨g, o, none⟩) n1 c1) #[true, true, true, true, false, false, false, false, false, false, false, false, false, false, false, false, false, false, false, false, false] rfl onlyN_noPanic (by kernel_rfl) HT.out (.inl ⟨rfl, fun w' hT => ?_⟩) ?_
      · obtain ⟨t1, t2⟩ := hT; go_simp
      simp only [Act.put, List.setIfInBounds_toArray, List.set_cons_zero, List.set_cons_succ]
      refine wpR_pu 4 #[true, true, true, true, true, false, false, false, false, false, false, false, false, false, false, false, false, false, false, false, false] rfl onlyN_noPanic (by kernel_rfl) (fun K hK => ?_); (go_simp; try go_bits); refine hK _ ?_; clear hK K
      refine wpR_pu 5 #[true, true, true, true, true, true, false, false, false, false, false, false, false, false, false, false, false, false, false, false, false] rfl onlyN_noPanic (by kernel_rfl) (fun K hK => ?_); (go_simp; try go_bits); refine hK _ ?_; clear hK K
      refine wpR_pu 6 #[true, true, true, true, true, true, true, false, false, false, false, false, false, false, false, false, false, false, false, false, false] rfl onlyN_noPanic (by kernel_rfl) (fun K hK => ?_); (go_simp; try go_bits); refine hK _ ?_; clear hK K
      refine wpR_pu 7 #[true, true, true, true, true, true, true, true, false, false, false, false, false, false, false, false, false, false, false, false, false] rfl onlyN_noPanic (by kernel_rfl) (fun K hK => ?_); (go_simp; try go_bits); refine hK _ ?_; clear hK K
      refine wpR_held (i := 8) (v := .slice (some ⟨g, o, none⟩) n1 c1) #[true, true, true, true, true, true, true, true, true, false, false, false, false, false, false, false, false, false, false, false, false] rfl onlyN_noPanic (by kernel_rfl) HT.out (.inl ⟨rfl, fun w' hT => ?_⟩) ?_
      · obtain ⟨t1, t2⟩ := hT; go_simp
      simp only [Act.put, List.setIfInBounds_toArray, List.set_cons_zero, List.set_cons_succ]
      refine wpR_pu 9 #[true, true, true, true, true, true, true, true, true, true, false, false, false, false, false, false, false, false, false, false, false] rfl onlyN_noPanic (by kernel_rfl) (fun K hK => ?_); (go_simp; try go_bits); refine hK _ ?_; clear hK K
      refine wpR_pu 10 #[true, true, true, true, true, true, true, true, true, true, true, false, false, false, false, false, false, false, false, false, false] rfl onlyN_noPanic (by kernel_rfl) (fun K hK => ?_); (go_simp; try go_bits); refine hK _ ?_; clear hK K
      refine wpR_pu 11 #[true, true, true, true, true, true, true, true, true, true, true, true, false, false, false, false, false, false, false, false, false] rfl onlyN_noPanic (by kernel_rfl) (fun K hK => ?_); (go_simp; try go_bits); refine hK _ ?_; clear hK K
      refine wpR_held (i := 12) (v := .slice VA j VC) #[true, true, true, true, true, true, true, true, true, true, true, true, true, false, false, false, false, false, false, false, false] rfl onlyN_noPanic (by kernel_rfl) HT.out (.inl ⟨rfl, fun w' hT => ?_⟩) ?_
      · obtain ⟨t1, t2⟩ := hT; go_simp
      simp only [Act.put, List.setIfInBounds_toArray, List.set_cons_zero, List.set_cons_succ]
      clear HT
      have HS0 := Aside.mk HS.out.drew
      clear HS
      revert HS0
      generalize World.drew wc = W0
      intro HS0
      apply share
      · intro hsh00
        have hsh0 := Aside.mk hsh00
        clear hsh00
        refine wpR_many [13, 14] rfl (by kernel_rfl) ?_
        refine List.forall_mem_cons.2 ⟨?_, List.forall_mem_cons.2 ⟨?_, (fun _ h => by cases h)⟩⟩
        · refine br_keep #[true, true, true, true, true, true, true, true, true, true, true, true, true, true, false, false, false, false, false, false, false] rfl (by kernel_rfl) (fun K hK => ?_)
          refine Eq.mpr (if_pos (by rfl)) ?_
          refine wp_make_row slB8 rfl rfl (n := 128) rfl rfl HS0.out (by unfold maxLen; omega) (by omega) (fun gD W1 hn1 => ?_)
          rw [← b8s_z128] at hn1
          refine hK _ _ (by first | exact HC1.out _ _ hn1 | exact HC1.out _ _ (Sat.right hn1) | exact HC1.out _ _ (Sat.right (Sat.right hn1)) | exact HC1.out _ _ (Sat.right (Sat.right (Sat.right hn1))) | exact HC1.out _ _ (Sat.right (Sat.right (Sat.right (Sat.right hn1)))) | exact HCX.out _ _ hn1 | exact HCX.out _ _ (Sat.right hn1) | exact HCX.out _ _ (Sat.right (Sat.right hn1)) | exact HCX.out _ _ (Sat.right (Sat.right (Sat.right hn1))) | exact HCX.out _ _ (Sat.right (Sat.right (Sat.right (Sat.right hn1))))) ?_
          clear hK K
          have HS1 : Aside (Sat E W1 (HP.row 5 1 (.slice (some ⟨gD, 0, none⟩) 128 128) 128 (b8s z128) * (HP.rdk y room fuse (.slice (some ⟨g, o, none⟩) n1 c1) fs1 L * q))) := ⟨hn1.perm (by ac_rfl)⟩
          clear hn1
          refine wpR_keep #[true, true, true, true, true, true, true, true, true, true, true, true, true, true, true, false, false, false, false, false, false] (i := 14) rfl (by kernel_rfl) (fun K hK => ?_)
          refine Eq.mpr (if_pos (by rfl)) ?_
          refine wp_make_row slB8 rfl rfl (n := 128) rfl rfl HS1.out (by unfold maxLen; omega) (by omega) (fun gS W2 hn2 => ?_)
          rw [← b8s_z128] at hn2
          refine hK _ _ (by first | exact HC1.out _ _ hn2 | exact HC1.out _ _ (Sat.right hn2) | exact HC1.out _ _ (Sat.right (Sat.right hn2)) | exact HC1.out _ _ (Sat.right (Sat.right (Sat.right hn2))) | exact HC1.out _ _ (Sat.right (Sat.right (Sat.right (Sat.right hn2)))) | exact HCX.out _ _ hn2 | exact HCX.out _ _ (Sat.right hn2) | exact HCX.out _ _ (Sat.right (Sat.right hn2)) | exact HCX.out _ _ (Sat.right (Sat.right (Sat.right hn2))) | exact HCX.out _ _ (Sat.right (Sat.right (Sat.right (Sat.right hn2))))) ?_
          clear hK K
          have HS2 : Aside (Sat E W2 (HP.row 5 1 (.slice (some ⟨gD, 0, none⟩) 128 128) 128 (b8s z128) * (HP.row 5 1 (.slice (some ⟨gS, 0, none⟩) 128 128) 128 (b8s z128) * (HP.rdk y room fuse (.slice (some ⟨g, o, none⟩) n1 c1) fs1 L * q)))) := ⟨hn2.perm (by ac_rfl)⟩
          clear hn2 HS1
          refine wpR_rd 15 #[true, true, true, true, true, true, true, true, true, true, true, true, true, true, true, true, false, false, false, false, false] rfl onlyN_noPanic (by kernel_rfl) (fun K hK => ?_); (go_simp; try go_bits); refine hK _ ?_; clear hK K
          revert HS2
          revert W2
          revert gS
          revert gD
          exact hsh0.out
        · refine br_keep #[true, true, true, true, true, true, true, true, true, true, true, true, true, false, true, false, false, false, false, false, false] rfl (by kernel_rfl) (fun K hK => ?_)
          refine Eq.mpr (if_pos (by rfl)) ?_
          refine wp_make_row slB8 rfl rfl (n := 128) rfl rfl HS0.out (by unfold maxLen; omega) (by omega) (fun gS W3 hn3 => ?_)
          rw [← b8s_z128] at hn3
          refine hK _ _ (by first | exact HC1.out _ _ hn3 | exact HC1.out _ _ (Sat.right hn3) | exact HC1.out _ _ (Sat.right (Sat.right hn3)) | exact HC1.out _ _ (Sat.right (Sat.right (Sat.right hn3))) | exact HC1.out _ _ (Sat.right (Sat.right (Sat.right (Sat.right hn3)))) | exact HCX.out _ _ hn3 | exact HCX.out _ _ (Sat.right hn3) | exact HCX.out _ _ (Sat.right (Sat.right hn3)) | exact HCX.out _ _ (Sat.right (Sat.right (Sat.right hn3))) | exact HCX.out _ _ (Sat.right (Sat.right (Sat.right (Sat.right hn3))))) ?_
          clear hK K
          have HS3 : Aside (Sat E W3 (HP.row 5 1 (.slice (some ⟨gS, 0, none⟩) 128 128) 128 (b8s z128) * (HP.rdk y room fuse (.slice (some ⟨g, o, none⟩) n1 c1) fs1 L * q))) := ⟨hn3.perm (by ac_rfl)⟩
          clear hn3
          refine wpR_keep #[true, true, true, true, true, true, true, true, true, true, true, true, true, true, true, false, false, false, false, false, false] (i := 13) rfl (by kernel_rfl) (fun K hK => ?_)
          refine Eq.mpr (if_pos (by rfl)) ?_
          refine wp_make_row slB8 rfl rfl (n := 128) rfl rfl HS3.out (by unfold maxLen; omega) (by omega) (fun gD W4 hn4 => ?_)
          rw [← b8s_z128] at hn4
          refine hK _ _ (by first | exact HC1.out _ _ hn4 | exact HC1.out _ _ (Sat.right hn4) | exact HC1.out _ _ (Sat.right (Sat.right hn4)) | exact HC1.out _ _ (Sat.right (Sat.right (Sat.right hn4))) | exact HC1.out _ _ (Sat.right (Sat.right (Sat.right (Sat.right hn4)))) | exact HCX.out _ _ hn4 | exact HCX.out _ _ (Sat.right hn4) | exact HCX.out _ _ (Sat.right (Sat.right hn4)) | exact HCX.out _ _ (Sat.right (Sat.right (Sat.right hn4))) | exact HCX.out _ _ (Sat.right (Sat.right (Sat.right (Sat.right hn4))))) ?_
          clear hK K
          have HS4 : Aside (Sat E W4 (HP.row 5 1 (.slice (some ⟨gD, 0, none⟩) 128 128) 128 (b8s z128) * (HP.row 5 1 (.slice (some ⟨gS, 0, none⟩) 128 128) 128 (b8s z128) * (HP.rdk y room fuse (.slice (some ⟨g, o, none⟩) n1 c1) fs1 L * q)))) := ⟨hn4.perm (by ac_rfl)⟩
          clear hn4 HS3
          refine wpR_rd 15 #[true, true, true, true, true, true, true, true, true, true, true, true, true, true, true, true, false, false, false, false, false] rfl onlyN_noPanic (by kernel_rfl) (fun K hK => ?_); (go_simp; try go_bits); refine hK _ ?_; clear hK K
          revert HS4
          revert W4
          revert gS
          revert gD
          exact hsh0.out
      · intro gD gS W5 HS5
        refine wpR_keep #[true, true, true, true, true, true, true, true, true, true, true, true, true, true, true, true, true, false, false, false, false] (i := 16) rfl (by kernel_rfl) (fun K hK => ?_)
        go_simp
        obtain ⟨W6, hW6⟩ : ∃ x, x = World.alloc W5 (.cells #[.slice none 0 0, .slice (some ⟨gD, 0, none⟩) 128 128, .slice (some ⟨gS, 0, none⟩) 128 128, .slice none 0 0, .bool false] 176) := ⟨_, rfl⟩
        obtain ⟨g16, hg16⟩ : ∃ x, x = Array.size (World.heap W5) := ⟨_, rfl⟩
        have hn6 : Sat E W6 (HP.pt g16 (.cells #[.slice none 0 0, .slice (some ⟨gD, 0, none⟩) 128 128, .slice (some ⟨gS, 0, none⟩) 128 128, .slice none 0 0, .bool false] 176) * (HP.row 5 1 (.slice (some ⟨gD, 0, none⟩) 128 128) 128 (b8s z128) * (HP.row 5 1 (.slice (some ⟨gS, 0, none⟩) 128 128) 128 (b8s z128) * (HP.rdk y room fuse (.slice (some ⟨g, o, none⟩) n1 c1) fs1 L * q)))) := by rw [hW6, hg16]; exact (HS5.out.alloc _)
        rw [← hW6, ← hg16]
        refine hK _ _ (by first | exact HC1.out _ _ hn6 | exact HC1.out _ _ (Sat.right hn6) | exact HC1.out _ _ (Sat.right (Sat.right hn6)) | exact HC1.out _ _ (Sat.right (Sat.right (Sat.right hn6))) | exact HC1.out _ _ (Sat.right (Sat.right (Sat.right (Sat.right hn6)))) | exact HCX.out _ _ hn6 | exact HCX.out _ _ (Sat.right hn6) | exact HCX.out _ _ (Sat.right (Sat.right hn6)) | exact HCX.out _ _ (Sat.right (Sat.right (Sat.right hn6))) | exact HCX.out _ _ (Sat.right (Sat.right (Sat.right (Sat.right hn6))))) ?_
        clear hK K hW6 hg16
        have HS6 : Aside (Sat E W6 (HP.row 5 1 (.slice (some ⟨gD, 0, none⟩) 128 128) 128 (b8s z128) * (HP.row 5 1 (.slice (some ⟨gS, 0, none⟩) 128 128) 128 (b8s z128) * (HP.pt g16 (.cells #[.slice none 0 0, .slice (some ⟨gD, 0, none⟩) 128 128, .slice (some ⟨gS, 0, none⟩) 128 128, .slice none 0 0, .bool false] 176) * (HP.rdk y room fuse (.slice (some ⟨g, o, none⟩) n1 c1) fs1 L * q))))) := ⟨hn6.perm (by ac_rfl)⟩
        clear hn6 HS5
        refine wpR_keep #[true, true, true, true, true, true, true, true, true, true, true, true, true, true, true, true, true, true, false, false, false] (i := 17) rfl (by kernel_rfl) (fun K hK => ?_)
        have hn7a : Sat E W6 (HP.rdk y room fuse (.slice (some ⟨g, o, none⟩) n1 c1) fs1 L * (HP.pt g16 (.cells #[.slice none 0 0, .slice (some ⟨gD, 0, none⟩) 128 128, .slice (some ⟨gS, 0, none⟩) 128 128, .slice none 0 0, .bool false] 176) * (HP.row 5 1 (.slice (some ⟨gD, 0, none⟩) 128 128) 128 (b8s z128) * (HP.row 5 1 (.slice (some ⟨gS, 0, none⟩) 128 128) 128 (b8s z128) * q)))) := HS6.out.perm (by ac_rfl)
        have hn7b := hn7a.rdk_out HWR.out.at_
        rw [HVL.out.1, ← HVL.out.2] at hn7b
        refine Eq.mpr (if_pos (by rfl)) ?_
        refine wp_append_row (v := .slice VA j VC) (n := j) (cs := f1.cs.flatMap RC.vals) (A := some ⟨g16, 0, none⟩) (m := 1) (c := 1) (news := (freshRC (.slice (some ⟨gD, 0, none⟩) 128 128) (.slice (some ⟨gS, 0, none⟩) 128 128)).vals) slCl rfl rfl rfl hn7b hn7b.s3.pt_cells rfl rfl (by unfold maxLen; omega) (by omega) (fun v17 W7 hn7c => ?_)
        obtain ⟨A17, c17, rfl, -, -⟩ := hn7c.row_slice
        have hn7d := hn7c.s3.right
        have hn7 : Sat E W7 (HP.row 5 1 (.slice (some ⟨gD, 0, none⟩) 128 128) 128 (b8s z128) * (HP.row 5 1 (.slice (some ⟨gS, 0, none⟩) 128 128) 128 (b8s z128) * (HP.row 176 5 (.slice A17 (j + 1) c17) (j + 1) (f1.cs.flatMap RC.vals ++ (freshRC (.slice (some ⟨gD, 0, none⟩) 128 128) (.slice (some ⟨gS, 0, none⟩) 128 128)).vals) * (HP.rdkX y room fuse (.slice (some ⟨g, o, none⟩) n1 c1) fs1 L k * q)))) := hn7d.perm (by ac_rfl)
        refine hK _ _ (by first | exact HC1.out _ _ hn7 | exact HC1.out _ _ (Sat.right hn7) | exact HC1.out _ _ (Sat.right (Sat.right hn7)) | exact HC1.out _ _ (Sat.right (Sat.right (Sat.right hn7))) | exact HC1.out _ _ (Sat.right (Sat.right (Sat.right (Sat.right hn7)))) | exact HCX.out _ _ hn7 | exact HCX.out _ _ (Sat.right hn7) | exact HCX.out _ _ (Sat.right (Sat.right hn7)) | exact HCX.out _ _ (Sat.right (Sat.right (Sat.right hn7))) | exact HCX.out _ _ (Sat.right (Sat.right (Sat.right (Sat.right hn7))))) ?_
        clear hK K hn7a hn7b hn7c hn7d
        have HS7 : Aside (Sat E W7 (HP.row 5 1 (.slice (some ⟨gD, 0, none⟩) 128 128) 128 (b8s z128) * (HP.row 5 1 (.slice (some ⟨gS, 0, none⟩) 128 128) 128 (b8s z128) * (HP.row 176 5 (.slice A17 (j + 1) c17) (j + 1) (f1.cs.flatMap RC.vals ++ (freshRC (.slice (some ⟨gD, 0, none⟩) 128 128) (.slice (some ⟨gS, 0, none⟩) 128 128)).vals) * (HP.rdkX y room fuse (.slice (some ⟨g, o, none⟩) n1 c1) fs1 L k * q))))) := ⟨hn7.perm (by ac_rfl)⟩
        clear hn7 HS6
        refine wpR_rd 18 #[true, true, true, true, true, true, true, true, true, true, true, true, true, true, true, true, true, true, true, false, false] rfl onlyN_noPanic (by kernel_rfl) (fun K hK => ?_); (go_simp; try go_bits); refine hK _ ?_; clear hK K
        refine wpR_rd 19 #[true, true, true, true, true, true, true, true, true, true, true, true, true, true, true, true, true, true, true, true, false] rfl onlyN_noPanic (by kernel_rfl) (fun K hK => ?_); (go_simp; try go_bits); refine hK _ ?_; clear hK K
        refine wpR_eff #[true, true, true, true, true, true, true, true, true, true, true, true, true, true, true, true, true, true, true, true, true] (i := 20) rfl (by kernel_rfl) (fun K hK => ?_)
        have hn8a : Sat E W7 (HP.row 176 5 (.slice A17 (j + 1) c17) (j + 1) (f1.cs.flatMap RC.vals ++ (freshRC (.slice (some ⟨gD, 0, none⟩) 128 128) (.slice (some ⟨gS, 0, none⟩) 128 128)).vals) * (HP.rdkX y room fuse (.slice (some ⟨g, o, none⟩) n1 c1) fs1 L k * (HP.row 5 1 (.slice (some ⟨gD, 0, none⟩) 128 128) 128 (b8s z128) * (HP.row 5 1 (.slice (some ⟨gS, 0, none⟩) 128 128) 128 (b8s z128) * q)))) := HS7.out.perm (by ac_rfl)
        obtain ⟨-, t8, z8⟩ := hn8a.right.rdkX_cells HN1.out HWR.out.at_
        rw [HVL.out.1] at t8
        have hn8b := hn8a.rdk_grow HN1.out HWR.out.at_ (by rw [HVL.out.2])
        go_simp
        obtain ⟨W8, hW8⟩ : ∃ x, x = World.setCell W7 ⟨g, o + k * 2 + 1, none⟩ (.slice A17 (j + 1) c17) := ⟨_, rfl⟩
        rw [← hW8] at hn8b
        have hn8 := hn8b
        rw [← hW8]
        refine hK _ _ ?_
        clear hK K hW8 t8 z8 hn8a hn8b
        have HS8 : Aside (Sat E W8 (HP.rdk y room fuse (.slice (some ⟨g, o, none⟩) n1 c1) (fs1.set k ⟨f1.name, .slice A17 (j + 1) c17, f1.cs ++ [freshRC (.slice (some ⟨gD, 0, none⟩) 128 128) (.slice (some ⟨gS, 0, none⟩) 128 128)]⟩) ((.slice (some ⟨gD, 0, none⟩) 128 128, z128) :: (.slice (some ⟨gS, 0, none⟩) 128 128, z128) :: L) * q)) := ⟨hn8.perm (by ac_rfl)⟩
        clear hn8 HS7
        refine wpR_done (by kernel_rfl) ?_ _
        simp only [OnlyN]
        have HS9 := HS8
        clear HS8
        have HWS : Aside (WrS RES l k j (fs1.set k ⟨f1.name, .slice A17 (j + 1) c17, f1.cs ++ [freshRC (.slice (some ⟨gD, 0, none⟩) 128 128) (.slice (some ⟨gS, 0, none⟩) 128 128)]⟩) ⟨f1.name, .slice A17 (j + 1) c17, f1.cs ++ [freshRC (.slice (some ⟨gD, 0, none⟩) 128 128) (.slice (some ⟨gS, 0, none⟩) 128 128)]⟩ (freshRC (.slice (some ⟨gD, 0, none⟩) 128 128) (.slice (some ⟨gS, 0, none⟩) 128 128)) ((.slice (some ⟨gD, 0, none⟩) 128 128, z128) :: (.slice (some ⟨gS, 0, none⟩) 128 128, z128) :: L)) := ⟨HWR.out.behind' HL.out HVB.out.fine.sorted HZ2.out _ _ _ HVL.out.2 HRES2.out⟩
        obtain ⟨gc, oc, rfl, -⟩ := HS9.out.rc_at HWS.out.at_ rfl HWS.out.ix
        have HN2 : Aside (n1 = (fs1.set k ⟨f1.name, .slice (some ⟨gc, oc, none⟩) (j + 1) c17, f1.cs ++ [freshRC (.slice (some ⟨gD, 0, none⟩) 128 128) (.slice (some ⟨gS, 0, none⟩) 128 128)]⟩).length) := ⟨by rw [List.length_set]; exact HN1.out⟩
        have HLE : Aside ((j + 1 : Nat) = (f1.cs ++ [freshRC (.slice (some ⟨gD, 0, none⟩) 128 128) (.slice (some ⟨gS, 0, none⟩) 128 128)]).length) := ⟨by rw [List.length_append, ← HVL.out.2]; rfl⟩
        go_wp2
        go_meet
        case rel => exact ⟨rfl, _, _, _, _, gc, oc, j + 1, c17, HWS, HN2, ⟨rfl, HLE.out⟩, HS9⟩
    · have hjv2 : ¬ (j : Int) = (rl : Int) := by omega
      obtain ⟨x, hx⟩ : ∃ x, f1.cs[j]? = some x := ⟨_, List.getElem?_eq_getElem (by rw [← HVL.out.2]; omega)⟩
      have HWS : Aside (WrS RES l k j fs1 f1 x L) := ⟨by
        have h := HWR.out.in_place hx HL.out HVB.out.fine.sorted HVB.out.fine.fits
        rw [HRES.out, if_neg hjv, ← HBat.out]; exact h⟩
      obtain ⟨gc, oc, rfl, -⟩ := HS.out.rc_at HWR.out.at_ HVL.out.1 hx
      clear t1 t2 hx hfr
      go_wp2
      go_meet
      case rel => exact ⟨rfl, fs1, f1, x, L, gc, oc, rl, VC, HWS, HN1, HVL, HS⟩
  clear HS t1 t2
  obtain ⟨rfl, fs2, f2, x2, L2, gc, oc, vn2, VC2, HWS, HN2, HV2, HS2⟩ := hcut
  clear hvc HVL HWR HN1 HVB
  obtain ⟨t1, -, t2⟩ := HS2.out.rf_cell HN2.out HWS.out.at_
  rw [HV2.out.1] at t2
  have hjn : (j : Int) < (vn2 : Int) := by rw [HV2.out.2]; have := (List.getElem?_eq_some_iff.1 HWS.out.ix).1; omega
  have H10 : Aside (Sat E (World.alloc wc (.cells #[] 5)) (HP.row 5 1 (.slice (some ⟨wc.heap.size, 0, none⟩) 0 0) 0 [] * (HP.rdk y room fuse (.slice (some ⟨g, o, none⟩) n1 c1) fs2 L2 * q)) ∧ Cells (World.alloc wc (.cells #[] 5)) Ab (b8s l) ∧ (b8s l).length = 128) := ⟨((HS2.out.alloc _).right).row_nil _ 1 _, HQ.out _ ((HS2.out.alloc _).right.right), by rw [b8s_length]; exact HL.out⟩
  have HSM5 : Aside (∀ t, t < 5 → ∀ W r, Sat E W (HP.rdk y room fuse (.slice (some ⟨g, o, none⟩) n1 c1) fs2 L2 * r) → W.frozen? ⟨gc, oc + (j * 5 + t), none⟩ = false) := ⟨fun t ht W r h => Sat.rc_thaw HWS.out.at_ HV2.out.1 (by rw [← HV2.out.2]; omega) h⟩
  go_wp2_with (at_builtin; first | (refine wpList_append_row slB8 rfl rfl (by rfl) (by rfl) H10.out.1 H10.out.2.1 (by rw [H10.out.2.2]) (b8s_one _) (by unfold maxLen; omega) (by omega) (fun v6 w6 h6 => ?_); rw [List.nil_append, Nat.zero_add] at h6; obtain ⟨A6, c6, rfl, hc6, hm6⟩ := h6.row_slice; have H20 : Aside (Sat E (World.alloc w6 (.cells #[] 5)) (HP.row 5 1 (.slice (some ⟨w6.heap.size, 0, none⟩) 0 0) 0 [] * (HP.row 5 1 (.slice A6 128 c6) 128 (b8s l) * (HP.rdk y room fuse (.slice (some ⟨g, o, none⟩) n1 c1) fs2 L2 * q))) ∧ Cells (World.alloc w6 (.cells #[] 5)) Ab (b8s l) ∧ (b8s l).length = 128) := ⟨((h6.alloc _).right).row_nil _ 1 _, HQ.out _ ((h6.alloc _).right.right.right), H10.out.2.2⟩; clear h6) | (refine wpList_append_row slB8 rfl rfl (by rfl) (by rfl) H20.out.1 H20.out.2.1 (by rw [H20.out.2.2]) (b8s_one _) (by unfold maxLen; omega) (by omega) (fun v7 w7 h7 => ?_); rw [List.nil_append, Nat.zero_add] at h7; obtain ⟨A7, c7, rfl, hc7, hm7⟩ := h7.row_slice; have H7 := Aside.mk h7; have h8 := h7.right.right; obtain ⟨t5, -, -, t6, t7⟩ := h8.rc_cell HWS.out.at_ HV2.out.1 HWS.out.ix; have z5 := HSM5.out 0 (by omega) _ _ h8; have z6 := HSM5.out 3 (by omega) _ _ h8; have z7 := HSM5.out 4 (by omega) _ _ h8; rw [Nat.add_zero] at z5; rw [← Nat.add_assoc] at z6 z7; clear h7 h8))
  go_ret
  refine ⟨rfl, ?_⟩
  have hlt : j < f2.cs.length := (List.getElem?_eq_some_iff.1 HWS.out.ix).1
  have hRF : RES.room = room ∧ RES.fuse = fuse := by rw [HRES.out]; split <;> exact ⟨HFR.out.2.symm, HFR.out.1.symm⟩
  have s0 : Sat E w7 (HP.rdk y room fuse (.slice (some ⟨g, o, none⟩) n1 c1) fs2 L2 * (HP.row 5 1 (.slice A7 128 c7) 128 (b8s l) * (HP.row 5 1 (.slice A6 128 c6) 128 (b8s l) * q))) := H7.out.perm (by ac_rfl)
  have s1 := Sat.rc_store (u := .slice A6 128 c6) HWS.out.at_ HV2.out.1 HWS.out.ix (⟨x2.c, .slice A6 128 c6, x2.vd, x2.vs, x2.vw⟩ : RC) (t := 0) (by omega) rfl s0
  obtain ⟨k1, i1⟩ := setRC_at (x := (⟨x2.c, .slice A6 128 c6, x2.vd, x2.vs, x2.vw⟩ : RC)) HWS.out.at_ hlt
  have s2 := Sat.rc_store (u := .slice A7 128 c7) k1 HV2.out.1 i1 (⟨x2.c, .slice A6 128 c6, x2.vd, x2.vs, .slice A7 128 c7⟩ : RC) (t := 3) (by omega) rfl s1
  rw [setRC_setRC] at s2
  obtain ⟨k2, i2⟩ := setRC_at (x := (⟨x2.c, .slice A6 128 c6, x2.vd, x2.vs, .slice A7 128 c7⟩ : RC)) HWS.out.at_ hlt
  have s3 := Sat.rc_store (u := .bool true) k2 HV2.out.1 i2 (⟨⟨l, x2.c.durable, x2.c.synced, l, true⟩, .slice A6 128 c6, x2.vd, x2.vs, .slice A7 128 c7⟩ : RC) (t := 4) (by omega) rfl s2
  rw [setRC_setRC, Nat.add_zero, ← Nat.add_assoc, ← Nat.add_assoc] at s3
  have hv := HWS.out.fin (⟨⟨l, x2.c.durable, x2.c.synced, l, true⟩, .slice A6 128 c6, x2.vd, x2.vs, .slice A7 128 c7⟩ : RC) ((.slice A6 128 c6, l) :: (.slice A7 128 c7, l) :: L2) rfl rfl rfl (List.mem_cons_self ..) (List.mem_cons_of_mem _ (List.mem_cons_self ..)) (fun z hz => List.mem_cons_of_mem _ (List.mem_cons_of_mem _ hz))
  have s4 := Sat.rdk_imgs_in (z := (.slice A7 128 c7, l)) s3
  have s5 := Sat.rdk_imgs_in (z := (.slice A6 128 c6, l)) s4
  refine Sat.rdisk_close (v := .slice (some ⟨g, o, none⟩) n1 c1) hv ?_
  rw [hRF.1, hRF.2]
  exact s5
set_option maxHeartbeats 2000000 in
set_option maxRecDepth 100000 in
theorem ref_write_no (E : Env) (q : HP) (y : Nat) (A : Dk) (name : ByteArray) (i : Int) (Ab : Option Addr) (l : List Int) (bn c : Nat) (w : World) (hn : name.size ≤ maxLen) (hl : l.length = bn) (hs : bn ≤ maxLen) (hbad : namedB name = false ∨ l.length ≠ 128 ∨ i < 0 ∨ (A.at name).length < i) (hw : Sat E w (HP.rdisk y A * q)) :
    Calls Tryz.prog 68 #[.pointer (some ⟨y, 0, none⟩), .string name, .int .i64 i, .slice Ab bn c] w fun e w' => e = .returned (.int .i64 1) ∧ Sat E w' (HP.rdisk y A * q) := by
  obtain ⟨v, fs, L, hv, hk⟩ := hw.rdisk_open
  clear hw
  have HV := Aside.mk hv
  have HW := Aside.mk hk
  unfold maxLen at hs
  obtain ⟨rl, hrl⟩ : ∃ rl, rl = (A.at name).length := ⟨_, rfl⟩
  have HE := Aside.mk (ref_extents E q y A v fs L name w hv hk)
  rw [← hrl] at HE hbad
  rw [hl] at hbad
  obtain ⟨nb, hnb⟩ : ∃ nb, nb = namedB name := ⟨_, rfl⟩
  have HNB := Aside.mk hnb
  rw [← hnb] at hbad
  clear hv hk hl hrl hnb
  go_enter Tryz.func68, Tryz.ntmps68
  cases nb with
  | false =>
    clear hbad
    go_wp2_with fail
    refine (ref_isName name w hn).mono ?_
    rintro e w1 ⟨rfl, h1⟩
    subst w1
    rw [← HNB.out]
    go_wp2
    go_ret
    exact ⟨rfl, Sat.rdisk_close HV.out HW.out⟩
  | true =>
    by_cases h128 : bn = 128
    · subst h128
      by_cases hi : i < 0
      · clear hbad
        go_wp2_with fail
        refine (ref_isName name w hn).mono ?_
        rintro e w1 ⟨rfl, h1⟩
        subst w1
        rw [← HNB.out]
        go_wp2
        go_ret
        exact ⟨rfl, Sat.rdisk_close HV.out HW.out⟩
      · have hri : (rl : Int) < i := by
          rcases hbad with h | h | h | h
          · cases h
          · exact absurd rfl h
          · exact absurd h hi
          · exact h
        clear hbad
        go_wp2_with fail
        refine (ref_isName name w hn).mono ?_
        rintro e w1 ⟨rfl, h1⟩
        subst w1
        rw [← HNB.out]
        go_wp2_with fail
        refine HE.out.mono ?_
        rintro e w1 ⟨rfl, h1⟩
        have HS := Aside.mk h1
        clear h1
        go_wp2
        go_ret
        exact ⟨rfl, Sat.rdisk_close HV.out HS.out⟩
    · have h2 : ¬ (bn : Int) = 128 := by omega
      clear hbad
      go_wp2_with fail
      refine (ref_isName name w hn).mono ?_
      rintro e w1 ⟨rfl, h1⟩
      subst w1
      rw [← HNB.out]
      go_wp2
      go_ret
      exact ⟨rfl, Sat.rdisk_close HV.out HW.out⟩
set_option maxHeartbeats 2000000 in
set_option maxRecDepth 100000 in
theorem ref_write_dead (E : Env) (q : HP) (y : Nat) (A : Dk) (name : ByteArray) (j : Nat) (Ab : Option Addr) (l : List Int) (c : Nat) (w : World) (hn : name.size ≤ maxLen) (hl : l.length = 128) (hnb : namedB name = true) (hj : j ≤ (A.at name).length) (hg : A.goes = false ∨ (A.goes = true ∧ j = (A.at name).length ∧ A.free ≤ 0)) (hw : Sat E w (HP.rdisk y A * q)) :
    Calls Tryz.prog 68 #[.pointer (some ⟨y, 0, none⟩), .string name, .int .i64 j, .slice Ab 128 c] w fun e w' => e = .returned (.int .i64 (if A.goes = false then 31 else 4)) ∧ Sat E w' (HP.rdisk y A.burnt * q) := by
  obtain ⟨v, fs, L, hv, hk⟩ := hw.rdisk_open
  clear hw
  have HV := Aside.mk hv
  have HW := Aside.mk hk
  have HNB := Aside.mk hnb
  have HSM := Aside.mk (at_small hv.fine name)
  obtain ⟨rl, hrl⟩ : ∃ rl, rl = (A.at name).length := ⟨_, rfl⟩
  have HRL := Aside.mk hrl
  rw [← hrl] at hj hg HSM
  have HE := Aside.mk (ref_extents E q y A v fs L name w hv hk)
  rw [← hrl] at HE
  clear hk hv hl hnb hrl
  have hj0 : (0 : Int) ≤ (j : Int) := by omega
  have hj1 : (j : Int) ≤ (rl : Int) := by omega
  go_enter Tryz.func68, Tryz.ntmps68
  rcases hg with hg | ⟨hg, hjr, hfr⟩
  · have HG := Aside.mk hg
    rw [if_pos hg]
    clear hg
    go_wp2_with fail
    refine (ref_isName name w hn).mono ?_
    rintro e w1 ⟨rfl, h1⟩
    subst w1
    rw [HNB.out]
    go_wp2_with fail
    refine HE.out.mono ?_
    rintro e w1 ⟨rfl, h1⟩
    have HS := Aside.mk h1
    clear h1 HE HW
    go_wp2_with fail
    refine (ref_stops E q y A _ fs L _ HV.out.fine.fuse HS.out).mono ?_
    rw [HG.out]
    rintro e w2 ⟨rfl, h2⟩
    have HS2 := Aside.mk h2
    clear h2
    go_wp2
    go_ret
    exact ⟨rfl, Sat.rdisk_close HV.out.burnt HS2.out⟩
  · have HG := Aside.mk hg
    rw [if_neg (by rw [hg]; decide)]
    clear hg
    subst hjr
    have HFR := Aside.mk hfr
    clear hfr
    go_wp2_with fail
    refine (ref_isName name w hn).mono ?_
    rintro e w1 ⟨rfl, h1⟩
    subst w1
    rw [HNB.out]
    go_wp2_with fail
    refine HE.out.mono ?_
    rintro e w1 ⟨rfl, h1⟩
    have HS := Aside.mk h1
    clear h1 HE HW
    go_wp2_with fail
    refine (ref_stops E q y A _ fs L _ HV.out.fine.fuse HS.out).mono ?_
    rw [HG.out]
    rintro e w2 ⟨rfl, h2⟩
    have HS2 := Aside.mk h2
    clear h2
    have HRB : Aside (j = (A.burnt.at name).length) := ⟨HRL.out⟩
    go_wp2_with fail
    refine (ref_extents E q y A.burnt _ fs L name _ HV.out.burnt HS2.out).mono ?_
    rw [← HRB.out]
    rintro e w3 ⟨rfl, h3⟩
    have HS3 := Aside.mk h3
    clear h3
    obtain ⟨fr, hfre⟩ : ∃ fr, fr = A.burnt.free := ⟨_, rfl⟩
    have hfr : fr ≤ 0 := by rw [hfre]; exact HFR.out
    have HF := Aside.mk (ref_free E q y A.burnt _ fs L _ HV.out.burnt HS3.out)
    rw [← hfre] at HF
    clear hfre
    go_wp2_with fail
    refine HF.out.mono ?_
    rintro e w4 ⟨rfl, h4⟩
    have HS4 := Aside.mk h4
    clear h4 HF
    go_wp2
    go_ret
    exact ⟨rfl, Sat.rdisk_close HV.out.burnt HS4.out⟩
theorem ref_write (E : Env) (q : HP) (y : Nat) (A : Dk) (name : ByteArray) (i : Int) (Ab : Option Addr) (l : List Int) (bn c : Nat) (w : World) (hn : name.size ≤ maxLen) (hl : l.length = bn) (hs : bn ≤ maxLen) (hq : ∀ w, Sat E w q → Cells w Ab (b8s l)) (hw : Sat E w (HP.rdisk y A * q)) :
    Calls Tryz.prog 68 #[.pointer (some ⟨y, 0, none⟩), .string name, .int .i64 i, .slice Ab bn c] w fun e w' => e = .returned (.int .i64 (A.write name i l).1) ∧ Sat E w' (HP.rdisk y (A.write name i l).2 * q) := by
  by_cases hbad : namedB name = false ∨ l.length ≠ 128 ∨ i < 0 ∨ (A.at name).length < i
  · have e : A.write name i l = (1, A) := by unfold Dk.write; rw [if_pos hbad]
    rw [e]
    exact ref_write_no E q y A name i Ab l bn c w hn hl hs hbad hw
  · have hnm : namedB name = true := by
      cases h : namedB name with
      | true => rfl
      | false => exact absurd (.inl h) hbad
    have h128 : l.length = 128 := by
      by_cases h : l.length = 128
      · exact h
      · exact absurd (.inr (.inl h)) hbad
    have hi0 : 0 ≤ i := by
      by_cases h : i < 0
      · exact absurd (.inr (.inr (.inl h))) hbad
      · omega
    obtain ⟨j, rfl⟩ := Int.eq_ofNat_of_zero_le hi0
    have hj : j ≤ (A.at name).length := by
      by_cases h : ((A.at name).length : Int) < (j : Int)
      · exact absurd (.inr (.inr (.inr h))) hbad
      · omega
    have hbn : bn = 128 := by rw [← hl]; exact h128
    subst hbn
    cases hg : A.goes with
    | false =>
      have e : A.write name j l = (31, A.burnt) := by unfold Dk.write; rw [if_neg hbad, if_pos hg]
      rw [e]
      have h := ref_write_dead E q y A name j Ab l c w hn h128 hnm hj (.inl hg) hw
      rw [if_pos hg] at h
      exact h
    | true =>
      by_cases hf : j = (A.at name).length ∧ A.free ≤ 0
      · have e : A.write name j l = (4, A.burnt) := by unfold Dk.write; rw [if_neg hbad, if_neg (by rw [hg]; decide), if_pos ⟨by rw [hf.1], hf.2⟩]
        rw [e]
        have h := ref_write_dead E q y A name j Ab l c w hn h128 hnm hj (.inr ⟨hg, hf.1, hf.2⟩) hw
        rw [if_neg (by rw [hg]; decide)] at h
        exact h
      · have e : A.write name j l = (0, if j = (A.at name).length then A.burnt.set name (A.at name ++ [Cel.zero.wrote l]) else A.burnt.set name ((A.at name).modify j fun c => c.wrote l)) := by
          unfold Dk.write
          rw [if_neg hbad, if_neg (by rw [hg]; decide), if_neg (by intro h; exact hf ⟨by omega, h.2⟩)]
          by_cases hjj : j = (A.at name).length
          · rw [if_pos (by omega), if_pos hjj]
          · rw [if_neg (by omega), if_neg hjj]; rfl
        rw [e]
        exact ref_write_main E q y A name j Ab l c w hn h128 hq hnm hj hg (fun h => by
          by_cases h0 : 0 < A.free
          · exact h0
          · exact absurd ⟨h, by omega⟩ hf) _ rfl hw
end Go.Proofs.YtnpinegpajbkeaaGreatDoor
