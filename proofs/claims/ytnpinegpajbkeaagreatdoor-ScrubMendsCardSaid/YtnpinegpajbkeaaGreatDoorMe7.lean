/- Texts of one claim, one behind the other: StF, StMf, MendP, PairM, RefA3, RefB3, RegM, WpA, FileQ, Rc1P, Rc1, Ref1. -/
import Derived.Test.YtnpinegpajbkeaaGreatDoorMe6
import Derived.Laws.RangeAny
import Derived.Laws.RangeString
import Derived.Laws.Bits64
set_option linter.unusedSimpArgs false
set_option linter.unusedVariables false
namespace Go.Proofs.YtnpinegpajbkeaaGreatDoor
open Go.RowKit HP
theorem run_index_four (w : World) (G : List Int) (k : Nat) (h : G.length = 424) (hk : k < 4) : (Instr.index 102 (.agg (b8s G).toArray) (.int .i64 (k : Int))).run Tryz.prog w = .ok (.agg (b8s (sec G k)).toArray) w := by
  have e0 : (0 : Int) ≤ (k : Int) ∧ (k : Int) < 4 := by omega
  have e6 : (sizeOf 100).run Tryz.prog w = .ok 106 w := by kernel_rfl
  have e7 : (isAgg 100).run Tryz.prog w = .ok true w := by kernel_rfl
  have e8 : List.take 106 (List.drop (k * 106) (b8s G)) = b8s (sec G k) := by
    unfold sec b8s
    rw [List.map_take, List.map_drop, Nat.mul_comm]
  simp [Instr.index, run_underlying Tryz.underlying102, asIntOf, e0, e6, e7, e8, hk, part]
theorem agFourS : AgTy Tryz.prog 102 424 := ⟨⟨_, Tryz.underlying102, rfl⟩, by kernel_rfl⟩
theorem run_slot_from (w : World) (b s0 : Nat) (h : s0 ≤ 105) : (Instr.sliceAt 100 (.pointer (some ⟨b, 0, none⟩)) (some (.int .i64 (1 + (s0 : Int)))) none none).run Tryz.prog w = .ok (.slice (some ⟨b, (if s0 = 105 then 0 else 1 + s0), none⟩) (105 - s0) (105 - s0)) w := by
  have f2 : 0 ≤ 1 + (s0 : Int) ∧ 1 + (s0 : Int) ≤ 106 := by omega
  have e6 : (sizeOf 5).run Tryz.prog w = .ok 1 w := by kernel_rfl
  have e10 : max (1 + (s0 : Int)) 0 = 1 + (s0 : Int) := by omega
  have e11 : (1 + (s0 : Int)).toNat = 1 + s0 := by omega
  have e12 : 106 - (1 + s0) = 105 - s0 := by omega
  by_cases h5 : s0 = 105
  · subst h5
    simp [Instr.sliceAt, run_underlying Tryz.underlying100, Instr.sureAddr, Instr.sliceBounds, Instr.sliceBound, asIntOf, e6]
  · have e5 : ¬ 106 = 1 + s0 := by omega
    simp [Instr.sliceAt, run_underlying Tryz.underlying100, Instr.sureAddr, Instr.sliceBounds, Instr.sliceBound, asIntOf, f2, e5, e6, e10, e11, e12, h5, Addr.add_lit]
theorem run_slotC {E : Env} {q : HP} {w : World} {g : Nat} {S : List Int} {C : Array Value} (hC : C = (b8s S).toArray) (hS : S.length = 106) (h : Sat E w (HP.pt g (.cells C 100) * q)) : (loadVar 100 ⟨g, 0, none⟩).run Tryz.prog w = .ok (.agg C) w := by
  subst hC
  exact run_load_slot hS h
theorem run_storeC {E : Env} {q : HP} {w : World} {g : Nat} {Z S : List Int} {C : Array Value} (hC : C = (b8s S).toArray) (hS : S.length = 106) (hZ : Z.length = 106) (h : Sat E w (HP.pt g (.cells (b8s Z).toArray 100) * q)) :
    ∃ w', (storeVar 100 ⟨g, 0, none⟩ (.agg C)).run Tryz.prog w = .ok () w' ∧ Sat E w' (HP.pt g (.cells C 100) * q) := by
  subst hC
  exact run_store_slot hZ hS h
set_option maxHeartbeats 8000000 in
set_option maxRecDepth 100000 in
theorem stripe_at (E : Env) (q : HP) (b : Nat) (A : Dk) (x : ByteArray) (gen i : Int) (G : List Int) (R : List Bool) (n k : Nat) (w : World) (hk : k < 4) (hG : Looked A x gen i 4 G R n) (hby : ∀ j, j < 4 → Bytes (slotsL A x gen i j)) (hw : Sat E w (HP.pt b (.cells (gCells G R n).toArray 115) * q)) :
    Calls Tryz.prog 71 #[.pointer (some ⟨b, 0, none⟩), .int .i64 k] w fun e w' => e = .returned (.tuple #[.agg (b8s (atF A x gen i k).1).toArray, .bool (atF A x gen i k).2]) ∧ Sat E w' (HP.pt b (.cells (gCells G R n).toArray 115) * q) := by
  by_cases hp : (slotOf A x gen i k).2 = true ∨ 1 < n
  · have e : atF A x gen i k = atP A x gen i k := by
      unfold atF atP
      by_cases h : (slotOf A x gen i k).2 = true
      · rw [if_pos h, if_pos h]
      · rw [if_neg h, if_neg h, if_pos (by rw [← hG.bad]; exact hp.resolve_left h)]
    rw [e]
    exact stripe_at_plain E q b A x gen i G R n k w hk hG hp hw
  have hr : (slotOf A x gen i k).2 = false := by rw [← Bool.not_eq_true]; exact fun h => hp (.inl h)
  have hn : ¬ 1 < n := fun h => hp (.inr h)
  clear hp
  have HAT : Aside (atF A x gen i k = (missP A x gen i k, decide (k = 3) || fineS (missP A x gen i k))) := ⟨by
    unfold atF
    rw [if_neg (by rw [hr]; decide), if_neg (by rw [← hG.bad]; exact hn)]⟩
  have h0 := hw.alloc (.cells Tryz.zeroCells100 100)
  have g1 : (w.alloc (.cells Tryz.zeroCells100 100)).cell? ⟨b, 424 + k, none⟩ = some (.bool false) := by
    rw [h0.s2.cell (424 + k), ← hr]
    exact gCells_right hG.len (hG.right k hk)
  have g2 : (w.alloc (.cells Tryz.zeroCells100 100)).cell? ⟨b, 428, none⟩ = some (.int .i64 n) := by
    rw [h0.s2.cell 428]
    exact gCells_bad n hG.len hG.rlen
  have hk2 : (k : Int) < 4 := by omega
  have hn2 : ¬ (1 : Int) < (n : Int) := by omega
  have h1 := h0.alloc (.cells Tryz.zeroCells100 100)
  rw [show (w.alloc (.cells Tryz.zeroCells100 100)).heap.size = w.heap.size + 1 by simp] at h1
  have ld4 : (loadVar 102 ⟨b, 0, none⟩).run Tryz.prog ((w.alloc (.cells Tryz.zeroCells100 100)).alloc (.cells Tryz.zeroCells100 100)) = .ok (.agg (b8s G).toArray) ((w.alloc (.cells Tryz.zeroCells100 100)).alloc (.cells Tryz.zeroCells100 100)) :=
    run_loadAgg (P := Tryz.prog) agFourS (by rw [b8s_length]; exact hG.len) (Sat.ptCells (off := 0) (l := b8s G) h1.s3 (by unfold gCells; rw [List.drop_zero, List.take_left]))
  obtain ⟨CG, hCG⟩ : ∃ CG, CG = (gCells G R n).toArray := ⟨_, rfl⟩
  rw [← hCG] at h1 ⊢
  obtain ⟨C4, hC4⟩ : ∃ C4, C4 = (b8s G).toArray := ⟨_, rfl⟩
  have HIX : Aside (∀ (w : World) (j : Nat), j < 4 → (Instr.index 102 (.agg C4) (.int .i64 (j : Int))).run Tryz.prog w = .ok (.agg (b8s (slotsL A x gen i j)).toArray) w) := ⟨fun w j hj => by rw [hC4, run_index_four w G j hG.len hj, hG.slot j hj]; rfl⟩
  rw [← hC4] at ld4
  obtain ⟨Z, hZ⟩ : ∃ Z, Z = Tryz.zeroCells100 := ⟨_, rfl⟩
  have HZ : Aside (Z = (b8s slotZ).toArray) := ⟨by rw [hZ]; exact zero_slot.symm⟩
  have HZ9 := Aside.mk hZ
  rw [← hZ] at h1
  have H1 : Aside (Sat E ((w.alloc (.cells Z 100)).alloc (.cells Z 100)) (HP.pt (w.heap.size + 1) (.cells (b8s (xorO (slotsL A x gen i) k 0)).toArray 100) * (HP.pt w.heap.size (.cells Z 100) * (HP.pt b (.cells CG 115) * q)))) := ⟨by
    show Sat E _ (HP.pt (w.heap.size + 1) (.cells (b8s slotZ).toArray 100) * _)
    rw [← HZ.out]
    exact h1⟩
  have HSLen : Aside (∀ j, (slotsL A x gen i j).length = 106) := ⟨slotsL_length A x gen i⟩
  have HBY := Aside.mk hby
  have HMS : Aside (missP A x gen i k = xorO (slotsL A x gen i) k 4) := ⟨rfl⟩
  generalize missP A x gen i k = M at *
  generalize slotsL A x gen i = SL at *
  clear hG hw h0 h1 hC4 hCG hr hn hby hZ
  rw [HZ9.out] at H1
  go_enter Tryz.func71, Tryz.ntmps71
  go_wp2_with (first | (refine wpList_load_run rfl rfl rfl ld4 ?_))
  rw [← HZ9.out] at H1
  clear g1 g2 ld4
  go_loopw [31] (fun v31 wr => ∃ j : Nat, j ≤ 4 ∧ v31 = .int .i64 j ∧ Aside (Sat E wr (HP.pt (w.heap.size + 1) (.cells (b8s (xorO SL k j)).toArray 100) * (HP.pt w.heap.size (.cells Z 100) * (HP.pt b (.cells CG 115) * q))))) (fun i _ => 4 - (intOf i).toNat)
  case atStart => exact ⟨0, by omega, rfl, ⟨by rw [← HZ9.out]; exact H1.out⟩⟩
  case round =>
    clear H1
    obtain ⟨j, hj, rfl, HS⟩ := hrel
    by_cases hlt : j < 4
    · have hlt2 : (j : Int) < 4 := by omega
      have ix := HIX.out wr j hlt
      have hL := HSLen.out j
      obtain ⟨w3, hr3, h3⟩ := run_store_slot (Z := slotZ) (S := SL j) (List.length_replicate ..) hL (by have h := HS.out.alloc (.cells (b8s slotZ).toArray 100); exact h)
      rw [← HZ.out] at hr3
      have ld3 := run_load_slot hL h3
      have hX := xorO_length HSLen.out k j
      have H3 := Aside.mk (And.intro h3 (And.intro hL hX))
      have HXS : Aside (xorO SL k (j + 1) = if j = k then xorO SL k j else zipX (xorO SL k j) (SL j)) := ⟨rfl⟩
      obtain ⟨X1, hX1⟩ : ∃ X1, X1 = xorO SL k (j + 1) := ⟨_, rfl⟩
      have HX1 := Aside.mk hX1
      rw [← hX1] at HXS
      clear hX1
      generalize xorO SL k j = X0 at *
      obtain ⟨CJ, hCJ⟩ : ∃ CJ, CJ = (b8s (SL j)).toArray := ⟨_, rfl⟩
      have HCJ := Aside.mk hCJ
      rw [← hCJ] at ix hr3 ld3
      rw [HZ9.out] at hr3
      clear h3 hL hX hCJ HS
      by_cases hjk : j = k
      · subst hjk
        rw [if_pos rfl] at HXS
        go_wp2_with (first | (refine wpList_store_run rfl rfl rfl rfl rfl hr3 ?_))
        go_roundw
        case rel => exact ⟨j + 1, by omega, by push_cast; rfl, ⟨by rw [← HX1.out, HXS.out]; exact H3.out.1.right⟩⟩
        case measure => simp [intOf]; omega
      · have hjk2 : ¬ (j : Int) = (k : Int) := by omega
        have hjk3 : ((j : Int) == (k : Int)) = false := by rw [beq_eq_false_iff_ne]; exact hjk2
        rw [if_neg hjk] at HXS
        go_wp2_with (first | (refine wpList_store_run rfl rfl rfl rfl rfl hr3 ?_) | (refine wpList_load_run rfl rfl rfl ld3 ?_))
        rw [HCJ.out]
        refine (stripe_mix E _ (w.heap.size + 1) 0 100 X0 (SL j) _ H3.out.2.1 (by rw [H3.out.2.2]; omega) H3.out.1.s2).mono ?_
        rintro e w5 ⟨rfl, h5⟩
        rw [mix_zip H3.out.2.2 H3.out.2.1, ← HXS.out, HX1.out] at h5
        have H5 := Aside.mk h5.drop2
        clear h5 hr3 ld3
        go_wp2
        go_roundw
        case rel => exact ⟨j + 1, by omega, by push_cast; rfl, H5⟩
        case measure => simp [intOf]; omega
    · obtain rfl : j = 4 := by omega
      have hML : (xorO SL k 4).length = 106 := xorO_length HSLen.out k 4
      have hMB : Bytes (xorO SL k 4) := by
        have h4 : xorO SL k 4 = xorO (fun j => if j < 4 then SL j else List.replicate 106 0) k 4 := xorO_ext k 4 fun j hj _ => by rw [if_pos hj]
        rw [h4]
        refine xorO_bytes (fun j => ?_) k 4
        split
        · rename_i h; exact HBY.out j h
        · exact fun x hx => by rw [List.eq_of_mem_replicate hx]; omega
      rw [← HMS.out] at HS hML hMB
      obtain ⟨S, hSe⟩ : ∃ S, S = M := ⟨_, rfl⟩
      rw [← hSe] at HS hML hMB HAT
      clear hSe HMS HBY HIX HSLen
      have HSL := Aside.mk hML
      obtain ⟨CS, hCS⟩ : ∃ CS, CS = (b8s S).toArray := ⟨_, rfl⟩
      have HCS := Aside.mk hCS
      rw [← hCS, HZ.out] at HS
      by_cases hk3 : k = 3
      · subst hk3
        have ld6 := run_slotC HCS.out HSL.out HS.out
        obtain ⟨w9, hr9, h9⟩ := run_storeC HCS.out HSL.out (List.length_replicate ..) (HS.out.perm (by ac_rfl : _ = HP.pt w.heap.size (.cells (b8s slotZ).toArray 100) * (HP.pt (w.heap.size + 1) (.cells CS 100) * (HP.pt b (.cells CG 115) * q))))
        have rl9 := run_slotC HCS.out HSL.out h9
        have H9 := Aside.mk h9.right.right
        clear h9 hML hMB hCS
        go_wp2_with (first | (refine wpList_load_run rfl rfl rfl ld6 ?_) | (refine wpList_store_run rfl rfl rfl rfl rfl hr9 ?_))
        refine bodyPost_ret (results_ct rfl rfl rl9) rfl ?_
        rw [HAT.out, HCS.out]
        exact ⟨rfl, H9.out⟩
      · have hk32 : ¬ (k : Int) = 3 := by omega
        have hk33 : ((k : Int) == 3) = false := by rw [beq_eq_false_iff_ne]; exact hk32
        have hx0 := getD_byte hMB 0
        have hhd : S.headD 0 = S.getD 0 0 := by cases S <;> rfl
        obtain ⟨s0, hs0⟩ : ∃ s0 : Nat, (s0 : Int) = S.getD 0 0 := ⟨(S.getD 0 0).toNat, by omega⟩
        have hs255 : s0 ≤ 255 := by omega
        have g8 : wr.drew.cell? ⟨(w.heap.size + 1), 0, none⟩ = some (.int .u8 (s0 : Int)) := by rw [HS.out.drew.cell 0, hCS, hs0]; exact b8s_getD (by omega)
        have HSD := Aside.mk HS.out.drew
        have HLD := Aside.mk (run_slotC HCS.out HSL.out HS.out.drew)
        have HFI : Aside (fineS S = (decide (s0 ≤ 105) && (S.drop (1 + s0)).all fun x => decide (x = 0))) := ⟨by
          unfold fineS
          rw [hhd, ← hs0, Int.toNat_natCast]
          congr 1
          exact decide_eq_decide.2 (by omega)⟩
        rw [decide_eq_false hk3, Bool.false_or] at HAT
        clear HS hML hMB hCS hx0 hhd hs0
        by_cases h105 : s0 ≤ 105
        · have h105b : (s0 : Int) ≤ 105 := by omega
          have hmin : (if (105 : Int) < (s0 : Int) then 105 else (s0 : Int)) = (s0 : Int) := by rw [if_neg (by omega)]
          obtain ⟨o2, ho2⟩ : ∃ o2, o2 = (if s0 = 105 then 0 else 1 + s0) := ⟨_, rfl⟩
          have sl := run_slot_from wr.drew (w.heap.size + 1) s0 h105
          rw [← ho2] at sl
          have HTL : Aside ((S.drop (1 + s0)).length = 105 - s0) := ⟨by rw [List.length_drop, HSL.out]; omega⟩
          have HTC : Aside (∀ W', Sat E W' (HP.pt (w.heap.size + 1) (.cells CS 100) * (HP.pt w.heap.size (.cells (b8s slotZ).toArray 100) * (HP.pt b (.cells CG 115) * q))) → Cells W' (some ⟨w.heap.size + 1, o2, none⟩) (b8s (S.drop (1 + s0)))) := ⟨fun W' h => by
            by_cases h5 : s0 = 105
            · rw [List.drop_of_length_le (by rw [HSL.out]; omega)]
              exact Cells.nil _ _
            · rw [ho2, if_neg h5]
              rw [HCS.out] at h
              exact Sat.ptCells (off := 1 + s0) (l := b8s (S.drop (1 + s0))) h (by unfold b8s; rw [List.length_map, ← List.map_drop, List.take_of_length_le (by rw [List.length_map]; exact Nat.le_refl _)])⟩
          clear ho2
          go_wp2
          refine region_R [12, 16] [12] (fun W => (loadVar 100 ⟨w.heap.size + 1, 0, none⟩).run Tryz.prog W = .ok (.agg CS) W) #[false, false, false, false, false, false, false, false, false, false, false, false, false, false, false, false, false, false] (by kernel_rfl) rfl rfl ?_
          refine wpR_held (i := 0) (v := .agg CS) #[true, false, false, false, false, false, false, false, false, false, false, false, false, false, false, false, false, false] rfl onlyN_noPanic (by kernel_rfl) HLD.out (.inl ⟨rfl, fun w' hT => exec_load rfl rfl hT⟩) ?_
          simp only [Act.put, List.setIfInBounds_toArray, List.set_cons_zero, List.set_cons_succ]
          refine wpR_rd 1 #[true, true, false, false, false, false, false, false, false, false, false, false, false, false, false, false, false, false] rfl onlyN_noPanic (by kernel_rfl) (fun K hK => ?_); (go_simp; try go_bits); refine hK _ ?_; clear hK K
          refine wpR_rd 2 #[true, true, true, false, false, false, false, false, false, false, false, false, false, false, false, false, false, false] rfl onlyN_noPanic (by kernel_rfl) (fun K hK => ?_); (go_simp; try go_bits); refine hK _ ?_; clear hK K
          refine wpR_rd 3 #[true, true, true, true, false, false, false, false, false, false, false, false, false, false, false, false, false, false] rfl onlyN_noPanic (by kernel_rfl) (fun K hK => ?_); (go_simp; try go_bits); refine hK _ ?_; clear hK K
          refine wpR_rd 4 #[true, true, true, true, true, false, false, false, false, false, false, false, false, false, false, false, false, false] rfl onlyN_noPanic (by kernel_rfl) (fun K hK => ?_); (go_simp; try go_bits); refine hK _ ?_; clear hK K
          refine wpR_rd 5 #[true, true, true, true, true, true, false, false, false, false, false, false, false, false, false, false, false, false] rfl onlyN_noPanic (by kernel_rfl) (fun K hK => ?_); (go_simp; try go_bits); refine hK _ ?_; clear hK K
          refine wpR_rd 6 #[true, true, true, true, true, true, true, false, false, false, false, false, false, false, false, false, false, false] rfl onlyN_noPanic (by kernel_rfl) (fun K hK => ?_); (go_simp; try go_bits); refine hK _ ?_; clear hK K
          refine wpR_rd 7 #[true, true, true, true, true, true, true, true, false, false, false, false, false, false, false, false, false, false] rfl onlyN_noPanic (by kernel_rfl) (fun K hK => ?_); (go_simp; try go_bits); refine hK _ ?_; clear hK K
          refine wpR_rd 8 #[true, true, true, true, true, true, true, true, true, false, false, false, false, false, false, false, false, false] rfl onlyN_noPanic (by kernel_rfl) (fun K hK => ?_); (go_simp; try go_bits); refine hK _ ?_; clear hK K
          refine wpR_rd 9 #[true, true, true, true, true, true, true, true, true, true, false, false, false, false, false, false, false, false] rfl onlyN_noPanic (by kernel_rfl) (fun K hK => ?_); (go_simp; try go_bits); refine hK _ ?_; clear hK K
          refine wpR_rd 10 #[true, true, true, true, true, true, true, true, true, true, true, false, false, false, false, false, false, false] rfl onlyN_noPanic (by kernel_rfl) (fun K hK => ?_); (go_simp; try go_bits); refine hK _ ?_; clear hK K
          refine wpR_rd 11 #[true, true, true, true, true, true, true, true, true, true, true, true, false, false, false, false, false, false] rfl onlyN_noPanic (by kernel_rfl) (fun K hK => ?_); (go_simp; try go_bits); refine hK _ ?_; clear hK K
          refine wpR_keep #[true, true, true, true, true, true, true, true, true, true, true, true, true, false, false, false, false, false] (i := 12) rfl (by kernel_rfl) (fun K hK => ?_)
          go_simp
          refine (trim0_ok E _ (w.heap.size + 1) o2 (S.drop (1 + s0)) (105 - s0) (105 - s0) _ HTL.out (Nat.le_refl _) (by omega) HTC.out HSD.out).mono ?_
          rintro e wt ⟨⟨At, rt, dt, rfl, hrt⟩, ht⟩
          have HRT := Aside.mk hrt
          have HT0 := Aside.mk ht
          refine hK _ _ (run_slotC HCS.out HSL.out ht) ?_
          clear hK K ht hrt g8 sl HSD
          rcases Nat.eq_zero_or_pos rt with hz | hz
          · subst hz
            refine wpR_pu 13 #[true, true, true, true, true, true, true, true, true, true, true, true, true, true, false, false, false, false] rfl onlyN_noPanic (by kernel_rfl) (fun K hK => ?_); (go_simp; try go_bits); refine hK _ ?_; clear hK K
            refine wpR_pu 14 #[true, true, true, true, true, true, true, true, true, true, true, true, true, true, true, false, false, false] rfl onlyN_noPanic (by kernel_rfl) (fun K hK => ?_); (go_simp; try go_bits); refine hK _ ?_; clear hK K
            refine wpR_pu 15 #[true, true, true, true, true, true, true, true, true, true, true, true, true, true, true, true, false, false] rfl onlyN_noPanic (by kernel_rfl) (fun K hK => ?_); (go_simp; try go_bits); refine hK _ ?_; clear hK K
            refine wpR_eff #[true, true, true, true, true, true, true, true, true, true, true, true, true, true, true, true, true, false] (i := 16) rfl (by kernel_rfl) (fun K hK => ?_)
            obtain ⟨w9, hr9, h9⟩ := run_storeC HCS.out HSL.out (List.length_replicate ..) (HT0.out.perm (by ac_rfl : _ = HP.pt w.heap.size (.cells (b8s slotZ).toArray 100) * (HP.pt (w.heap.size + 1) (.cells CS 100) * (HP.pt b (.cells CG 115) * q))))
            have HR9 := Aside.mk h9.drop2
            have rl9 := run_slotC HCS.out HSL.out h9
            clear h9
            refine Eq.mpr (if_pos (by rfl)) ?_; refine wp_store_run rfl rfl rfl rfl hr9 ?_; refine hK _ _ ?_; clear hK K hr9
            refine wpR_rd 17 #[true, true, true, true, true, true, true, true, true, true, true, true, true, true, true, true, true, true] rfl onlyN_noPanic (by kernel_rfl) (fun K hK => ?_); (go_simp; try go_bits); refine hK _ ?_; clear hK K
            refine wpR_done (by kernel_rfl) ?_ _
            simp only [OnlyN]
            have hall : ((S.drop (1 + s0)).all fun x => decide (x = 0)) = true := by rw [List.all_eq_true]; exact fun x hx => decide_eq_true (HRT.out.1 rfl x hx)
            go_wp2
            refine bodyPost_ret (results_ct rfl rfl rl9) rfl ?_
            rw [HAT.out, HFI.out, decide_eq_true h105, hall, HCS.out]
            exact ⟨rfl, HR9.out.right⟩
          · have hz2 : ¬ (rt : Int) = 0 := by omega
            have hz3 : ((rt : Int) == 0) = false := by rw [beq_eq_false_iff_ne]; exact hz2
            refine wpR_pu 13 #[true, true, true, true, true, true, true, true, true, true, true, true, true, true, false, false, false, false] rfl onlyN_noPanic (by kernel_rfl) (fun K hK => ?_); (go_simp; try go_bits); refine hK _ ?_; clear hK K
            refine wpR_pu 14 #[true, true, true, true, true, true, true, true, true, true, true, true, true, true, true, false, false, false] rfl onlyN_noPanic (by kernel_rfl) (fun K hK => ?_); (go_simp; try go_bits); refine hK _ ?_; clear hK K
            refine wpR_pu 15 #[true, true, true, true, true, true, true, true, true, true, true, true, true, true, true, true, false, false] rfl onlyN_noPanic (by kernel_rfl) (fun K hK => ?_); (go_simp; try go_bits); refine hK _ ?_; clear hK K
            refine wpR_eff #[true, true, true, true, true, true, true, true, true, true, true, true, true, true, true, true, true, false] (i := 16) rfl (by kernel_rfl) (fun K hK => ?_)
            obtain ⟨w9, hr9, h9⟩ := run_storeC HCS.out HSL.out (List.length_replicate ..) (HT0.out.perm (by ac_rfl : _ = HP.pt w.heap.size (.cells (b8s slotZ).toArray 100) * (HP.pt (w.heap.size + 1) (.cells CS 100) * (HP.pt b (.cells CG 115) * q))))
            have HR9 := Aside.mk h9.drop2
            have rl9 := run_slotC HCS.out HSL.out h9
            clear h9
            refine Eq.mpr (if_pos (by rfl)) ?_; refine wp_store_run rfl rfl rfl rfl hr9 ?_; refine hK _ _ ?_; clear hK K hr9
            refine wpR_rd 17 #[true, true, true, true, true, true, true, true, true, true, true, true, true, true, true, true, true, true] rfl onlyN_noPanic (by kernel_rfl) (fun K hK => ?_); (go_simp; try go_bits); refine hK _ ?_; clear hK K
            refine wpR_done (by kernel_rfl) ?_ _
            simp only [OnlyN]
            have hall : ((S.drop (1 + s0)).all fun x => decide (x = 0)) = false := by rw [← Bool.not_eq_true, List.all_eq_true]; exact fun h => absurd (HRT.out.2 fun x hx => of_decide_eq_true (h x hx)) (by omega)
            go_wp2
            refine bodyPost_ret (results_ct rfl rfl rl9) rfl ?_
            rw [HAT.out, HFI.out, decide_eq_true h105, hall, HCS.out]
            exact ⟨rfl, HR9.out.right⟩
        · have h105b : ¬ (s0 : Int) ≤ 105 := by omega
          have h105c : ((s0 : Int) ≤ 105) = False := eq_false h105b
          have h105d : decide ((s0 : Int) ≤ 105) = false := decide_eq_false h105b
          go_wp2
          refine region_R [12, 16] [12] (fun W => (loadVar 100 ⟨w.heap.size + 1, 0, none⟩).run Tryz.prog W = .ok (.agg CS) W) #[false, false, false, false, false, false, false, false, false, false, false, false, false, false, false, false, false, false] (by kernel_rfl) rfl rfl ?_
          refine wpR_held (i := 0) (v := .agg CS) #[true, false, false, false, false, false, false, false, false, false, false, false, false, false, false, false, false, false] rfl onlyN_noPanic (by kernel_rfl) HLD.out (.inl ⟨rfl, fun w' hT => exec_load rfl rfl hT⟩) ?_
          simp only [Act.put, List.setIfInBounds_toArray, List.set_cons_zero, List.set_cons_succ]
          refine wpR_rd 1 #[true, true, false, false, false, false, false, false, false, false, false, false, false, false, false, false, false, false] rfl onlyN_noPanic (by kernel_rfl) (fun K hK => ?_); (go_simp; try go_bits); refine hK _ ?_; clear hK K
          refine wpR_rd 2 #[true, true, true, false, false, false, false, false, false, false, false, false, false, false, false, false, false, false] rfl onlyN_noPanic (by kernel_rfl) (fun K hK => ?_); (go_simp; try go_bits); refine hK _ ?_; clear hK K
          refine wpR_rd 3 #[true, true, true, true, false, false, false, false, false, false, false, false, false, false, false, false, false, false] rfl onlyN_noPanic (by kernel_rfl) (fun K hK => ?_); (go_simp; try go_bits); refine hK _ ?_; clear hK K
          refine wpR_rd 4 #[true, true, true, true, true, false, false, false, false, false, false, false, false, false, false, false, false, false] rfl onlyN_noPanic (by kernel_rfl) (fun K hK => ?_); (go_simp; try go_bits); refine hK _ ?_; clear hK K
          refine wpR_rd 5 #[true, true, true, true, true, true, false, false, false, false, false, false, false, false, false, false, false, false] rfl onlyN_noPanic (by kernel_rfl) (fun K hK => ?_); (go_simp; try go_bits); refine hK _ ?_; clear hK K
          refine wpR_rd 6 #[true, true, true, true, true, true, true, false, false, false, false, false, false, false, false, false, false, false] rfl onlyN_noPanic (by kernel_rfl) (fun K hK => ?_); (go_simp; try go_bits); refine hK _ ?_; clear hK K
          refine wpR_rd 7 #[true, true, true, true, true, true, true, true, false, false, false, false, false, false, false, false, false, false] rfl onlyN_noPanic (by kernel_rfl) (fun K hK => ?_); (go_simp; try go_bits); refine hK _ ?_; clear hK K
          refine wpR_rd 8 #[true, true, true, true, true, true, true, true, true, false, false, false, false, false, false, false, false, false] rfl onlyN_noPanic (by kernel_rfl) (fun K hK => ?_); (go_simp; try go_bits); refine hK _ ?_; clear hK K
          refine wpR_rd 9 #[true, true, true, true, true, true, true, true, true, true, false, false, false, false, false, false, false, false] rfl onlyN_noPanic (by kernel_rfl) (fun K hK => ?_); (go_simp; try go_bits); refine hK _ ?_; clear hK K
          refine wpR_rd 10 #[true, true, true, true, true, true, true, true, true, true, true, false, false, false, false, false, false, false] rfl onlyN_noPanic (by kernel_rfl) (fun K hK => ?_); (go_simp; try go_bits); refine hK _ ?_; clear hK K
          refine wpR_rd 11 #[true, true, true, true, true, true, true, true, true, true, true, true, false, false, false, false, false, false] rfl onlyN_noPanic (by kernel_rfl) (fun K hK => ?_); (go_simp; try go_bits); refine hK _ ?_; clear hK K
          refine wpR_keep #[true, true, true, true, true, true, true, true, true, true, true, true, true, false, false, false, false, false] (i := 12) rfl (by kernel_rfl) (fun K hK => ?_)
          go_simp
          refine hK _ _ HLD.out ?_
          clear hK K
          refine wpR_pu 13 #[true, true, true, true, true, true, true, true, true, true, true, true, true, true, false, false, false, false] rfl onlyN_noPanic (by kernel_rfl) (fun K hK => ?_); (go_simp; try go_bits); refine hK _ ?_; clear hK K
          refine wpR_pu 14 #[true, true, true, true, true, true, true, true, true, true, true, true, true, true, true, false, false, false] rfl onlyN_noPanic (by kernel_rfl) (fun K hK => ?_); (go_simp; try go_bits); refine hK _ ?_; clear hK K
          refine wpR_pu 15 #[true, true, true, true, true, true, true, true, true, true, true, true, true, true, true, true, false, false] rfl onlyN_noPanic (by kernel_rfl) (fun K hK => ?_); (go_simp; try go_bits); refine hK _ ?_; clear hK K
          refine wpR_eff #[true, true, true, true, true, true, true, true, true, true, true, true, true, true, true, true, true, false] (i := 16) rfl (by kernel_rfl) (fun K hK => ?_)
          obtain ⟨w9, hr9, h9⟩ := run_storeC HCS.out HSL.out (List.length_replicate ..) (HSD.out.perm (by ac_rfl : _ = HP.pt w.heap.size (.cells (b8s slotZ).toArray 100) * (HP.pt (w.heap.size + 1) (.cells CS 100) * (HP.pt b (.cells CG 115) * q))))
          have HR9 := Aside.mk h9.drop2
          have rl9 := run_slotC HCS.out HSL.out h9
          clear h9
          refine Eq.mpr (if_pos (by rfl)) ?_; refine wp_store_run rfl rfl rfl rfl hr9 ?_; refine hK _ _ ?_; clear hK K hr9
          refine wpR_rd 17 #[true, true, true, true, true, true, true, true, true, true, true, true, true, true, true, true, true, true] rfl onlyN_noPanic (by kernel_rfl) (fun K hK => ?_); (go_simp; try go_bits); refine hK _ ?_; clear hK K
          refine wpR_done (by kernel_rfl) ?_ _
          simp only [OnlyN]
          go_wp2
          refine bodyPost_ret (results_ct rfl rfl rl9) rfl ?_
          rw [HAT.out, HFI.out, decide_eq_false h105, HCS.out]
          exact ⟨rfl, HR9.out.right⟩
set_option maxHeartbeats 4000000 in
set_option maxRecDepth 100000 in
theorem stripe_mend_arg (E : Env) (q : HP) (d : Nat) (A : Dk) (name : ByteArray) (gen i : Int) (w : World) (hi64 : wf64 i) (hi : i < 0 ∨ 2147483647 < i) (hw : Sat E w (HP.disk d A * q)) :
    Calls Tryz.prog 16 #[.pointer (some ⟨d, 0, none⟩), .string name, .int .i64 gen, .int .i64 i] w fun e w' => e = .returned (.tuple #[.bool false, .int .i64 1]) ∧ Sat E w' (HP.disk d A * q) := by
  have H := Aside.mk hw
  have hd : i < 0 ∨ (¬ i < 0 ∧ 2147483647 < i) := by omega
  clear hw hi
  rcases hd with h0 | ⟨h0, h1⟩
  all_goals
    go_enter Tryz.func16, Tryz.ntmps16
    go_wp2_with fail
    refine (stripe_none E q d A _ H.out).mono ?_
    rintro e w1 ⟨rfl, h1⟩
    have H1 := Aside.mk h1
    clear h1
    go_wp2
    go_ret2
    exact ⟨rfl, H1.out⟩
set_option maxHeartbeats 8000000 in
set_option maxRecDepth 100000 in
theorem stripe_mend (E : Env) (q : HP) (d : Nat) (A : Dk) (name : ByteArray) (gen i : Int) (w : World) (hname : name.size + 2 ≤ maxLen) (hi64 : wf64 i) (hby : ∀ k, k < 4 → ∀ (i : Int) c, A.cel (stripeF name k) i = some c → Bytes c.read)
    (hq : ∀ w, Sat E w q → Quarter w) (hw : Sat E w (HP.disk d A * q)) :
    Calls Tryz.prog 16 #[.pointer (some ⟨d, 0, none⟩), .string name, .int .i64 gen, .int .i64 i] w fun e w' => e = .returned (.tuple #[.bool (mendS A name gen i).1.1, .int .i64 (mendS A name gen i).1.2]) ∧ Sat E w' (HP.disk d (mendS A name gen i).2 * q) := by
  by_cases hi : i < 0 ∨ 2147483647 < i
  · have e : mendS A name gen i = ((false, 1), A) := by unfold mendS; rw [if_pos hi]
    rw [e]
    exact stripe_mend_arg E q d A name gen i w hi64 hi hw
  have HM : Aside (mendS A name gen i = mendK A name gen i (firstBad A name gen i)) := ⟨by unfold mendS; rw [if_neg hi]⟩
  generalize mendS A name gen i = RES at *
  have hbs : ∀ j, j < 4 → Bytes (slotsL A name gen i j) := fun j hj => readS_byt (hby j hj i)
  have HQ := Aside.mk (And.intro hq (And.intro hby (And.intro hbs (And.intro hw hname))))
  have i0 : ¬ i < 0 := fun h => hi (.inl h)
  have i1 : ¬ 2147483647 < i := fun h => hi (.inr h)
  clear hq hby hbs hw hname hi
  go_enter Tryz.func16, Tryz.ntmps16
  go_wp2_with fail
  refine (stripe_none E q d A _ HQ.out.2.2.2.1).mono ?_
  rintro e w1 ⟨rfl, h1⟩
  have H1 := Aside.mk h1
  clear h1
  go_wp2_with fail
  refine (stripe_look E q d A name gen i _ HQ.out.2.2.2.2 (fun k hk c => HQ.out.2.1 k hk _ c) HQ.out.1 H1.out).mono ?_
  intro e w3 h3
  obtain ⟨G, R, n, rfl, hG, h3⟩ := h3
  have h4 := h3.alloc (.cells Tryz.zeroCells115 115)
  obtain ⟨w5, hr5, h5⟩ := run_store_grp (n := n) hG.len hG.rlen h4
  have H5 := Aside.mk (And.intro h5 hG)
  obtain ⟨C, hC⟩ : ∃ C, C = (gCells G R n).toArray := ⟨_, rfl⟩
  rw [← hC] at hr5 ⊢
  clear h3 h4 h5 hG hC H1
  go_wp2_with (first | (refine wpList_store_run rfl rfl rfl rfl rfl hr5 ?_))
  refine (stripe_names E _ name _ HQ.out.2.2.2.2 H5.out.1).mono ?_
  rintro e w6 ⟨rfl, h6⟩
  obtain ⟨fa, hfae⟩ : ∃ fa, fa = name ++ dot0 := ⟨_, rfl⟩
  obtain ⟨fb, hfbe⟩ : ∃ fb, fb = name ++ dot1 := ⟨_, rfl⟩
  obtain ⟨fc, hfce⟩ : ∃ fc, fc = name ++ dot2 := ⟨_, rfl⟩
  obtain ⟨fd, hfde⟩ : ∃ fd, fd = name ++ dotP := ⟨_, rfl⟩
  have HF : Aside ((fa.size ≤ maxLen ∧ fb.size ≤ maxLen ∧ fc.size ≤ maxLen ∧ fd.size ≤ maxLen) ∧ stripeF name 0 = fa ∧ stripeF name 1 = fb ∧ stripeF name 2 = fc ∧ stripeF name 3 = fd) := ⟨by
    have h := dot_size name
    have hn := HQ.out.2.2.2.2
    rw [hfae, hfbe, hfce, hfde]
    exact ⟨⟨by rw [h.1]; exact hn, by rw [h.2.1]; exact hn, by rw [h.2.2.1]; exact hn, by rw [h.2.2.2]; exact hn⟩, rfl, rfl, rfl, rfl⟩⟩
  rw [← hfae, ← hfbe, ← hfce, ← hfde]
  have i0 : ∀ w, (Instr.index 104 (.agg #[.string fa, .string fb, .string fc, .string fd]) (.int .i64 0)).run Tryz.prog w = .ok (.string fa) w := fun w => by kernel_rfl
  have i1 : ∀ w, (Instr.index 104 (.agg #[.string fa, .string fb, .string fc, .string fd]) (.int .i64 1)).run Tryz.prog w = .ok (.string fb) w := fun w => by kernel_rfl
  have i2 : ∀ w, (Instr.index 104 (.agg #[.string fa, .string fb, .string fc, .string fd]) (.int .i64 2)).run Tryz.prog w = .ok (.string fc) w := fun w => by kernel_rfl
  have i3 : ∀ w, (Instr.index 104 (.agg #[.string fa, .string fb, .string fc, .string fd]) (.int .i64 3)).run Tryz.prog w = .ok (.string fd) w := fun w => by kernel_rfl
  clear hfae hfbe hfce hfde
  have H6 := Aside.mk (And.intro h6 H5.out.2)
  clear h6 H5 hr5
  obtain ⟨bG, hbG⟩ : ∃ bG, bG = w3.heap.size := ⟨_, rfl⟩
  rw [← hbG] at H6 ⊢
  clear hbG
  go_wp2
  go_loopw [34] (fun v34 wr => ∃ k : Nat, k ≤ 4 ∧ v34 = .int .i64 k ∧ Aside (∀ j, j < k → (slotOf A name gen i j).2 = true) ∧ Aside (Sat E wr (HP.pt bG (.cells (gCells G R n).toArray 115) * (HP.disk d A * q)))) (fun i _ => 4 - (intOf i).toNat)
  case atStart => exact ⟨0, by omega, rfl, ⟨fun j h => by omega⟩, ⟨H6.out.1⟩⟩
  case round =>
    obtain ⟨k, hk, rfl, HR, HS⟩ := hrel
    by_cases hlt : k < 4
    · obtain ⟨f, hf, hff, hix⟩ : ∃ f : ByteArray, f.size ≤ maxLen ∧ stripeF name k = f ∧ ∀ w, (Instr.index 104 (.agg #[.string fa, .string fb, .string fc, .string fd]) (.int .i64 (k : Int))).run Tryz.prog w = .ok (.string f) w := by
        have hc : k = 0 ∨ k = 1 ∨ k = 2 ∨ k = 3 := by omega
        rcases hc with h0 | h0 | h0 | h0 <;> subst h0
        · exact ⟨fa, HF.out.1.1, HF.out.2.1, i0⟩
        · exact ⟨fb, HF.out.1.2.1, HF.out.2.2.1, i1⟩
        · exact ⟨fc, HF.out.1.2.2.1, HF.out.2.2.2.1, i2⟩
        · exact ⟨fd, HF.out.1.2.2.2, HF.out.2.2.2.2, i3⟩
      have hlt2 : (k : Int) < 4 := by omega
      have hG := H6.out.2
      have g2 : wr.cell? ⟨bG, 424 + k, none⟩ = some (.bool (slotOf A name gen i k).2) := by
        rw [HS.out.cell (424 + k)]
        exact gCells_right hG.len (hG.right k hlt)
      have HAT := Aside.mk (stripe_at E (HP.disk d A * q) bG A name gen i G R n k wr hlt hG HQ.out.2.2.1 HS.out)
      have HFF := Aside.mk (And.intro hf hff)
      clear i0 i1 i2 i3 hG hf hff
      by_cases hr : (slotOf A name gen i k).2 = true
      · rw [hr] at g2
        have HR2 : Aside (∀ j, j < k + 1 → (slotOf A name gen i j).2 = true) := ⟨fun j hj => by
          by_cases e : j = k
          · rw [e]; exact hr
          · exact HR.out j (by omega)⟩
        clear hr HAT HR HFF
        go_wp2
        go_roundw
        case rel => exact ⟨k + 1, by omega, by push_cast; rfl, HR2, HS⟩
        case measure => simp [intOf]; omega
      · rw [Bool.not_eq_true] at hr
        rw [hr] at g2
        have hfb := firstBad_at hlt HR.out hr
        have hM := HM.out
        rw [hfb] at hM
        unfold mendK at hM
        dsimp only at hM
        have hAm := atF_miss hlt hr
        have hSl := atF_length A name gen i k
        have hSb := atF_byt hlt HQ.out.2.2.1
        obtain ⟨S, ok, hat⟩ : ∃ S ok, atF A name gen i k = (S, ok) := ⟨_, _, rfl⟩
        rw [hat] at HAT hM hAm hSl hSb
        dsimp only at HAT hM hAm hSl hSb
        clear hr hfb hat HR HS HM
        go_wp2_with fail
        refine HAT.out.mono ?_
        rintro e w7 ⟨rfl, h7⟩
        obtain ⟨w8, hr8, h8⟩ := run_store_zero hSl (h7.right.alloc (.cells Tryz.zeroCells100 100))
        have ld8 := run_load_slot hSl h8
        have H8 := Aside.mk h8
        obtain ⟨CS, hCS⟩ : ∃ CS, CS = (b8s S).toArray := ⟨_, rfl⟩
        rw [← hCS] at hr8 ld8 ⊢
        have HCS := Aside.mk hCS
        clear h7 h8 HAT hCS
        cases ok with
        | false =>
          rw [if_neg (by decide)] at hM
          have HM2 := Aside.mk hM
          clear hM hAm hSb
          go_wp2_with (first | (refine wpList_store_run rfl rfl rfl rfl rfl hr8 ?_))
          go_ret2
          rw [HM2.out]
          exact ⟨rfl, H8.out.right⟩
        | true =>
          rw [if_pos rfl] at hM
          obtain ⟨⟨hg0, hg1⟩, hh5⟩ := hAm rfl
          obtain ⟨gn, rfl⟩ : ∃ gn : Nat, gen = gn := ⟨gen.toNat, by omega⟩
          obtain ⟨ni, rfl⟩ : ∃ ni : Nat, i = ni := ⟨i.toNat, by omega⟩
          rw [Int.toNat_natCast, Int.toNat_natCast, HFF.out.2] at hM
          have HM2 := Aside.mk hM
          have HHD : Aside (k ≠ 3 → 0 ≤ S.headD 0 ∧ S.headD 0 ≤ 105) := ⟨fun hk3 => ⟨by
            cases S with
            | nil => exact Int.le_refl _
            | cons a l => exact (hSb a (List.mem_cons_self ..)).1, hh5 hk3⟩⟩
          have HSB := Aside.mk (And.intro hSl hSb)
          clear hM hAm hh5 hSb hSl
          go_wp2_with (first | (refine wpList_store_run rfl rfl rfl rfl rfl hr8 ?_) | (refine wpList_load_run rfl rfl rfl ld8 ?_))
          rw [HCS.out]
          refine (stripe_payload E _ k S w8 hlt HSB.out.1 HHD.out H8.out).mono ?_
          intro e w9 h9
          obtain ⟨Ap, cp, m, R9, rfl, hm, hm6, hmc, hcm, h9, hx9⟩ := h9
          have hpb : Bytes (payI k S) := fun x hx => by
            unfold payI at hx
            split at hx
            · exact HSB.out.2 x hx
            · exact HSB.out.2 x (List.mem_of_mem_drop (List.mem_of_mem_take hx))
          obtain ⟨p, hpe⟩ : ∃ p, p = payI k S := ⟨_, rfl⟩
          rw [← hpe] at hm hx9 hpb HM2
          have H9 := Aside.mk (And.intro h9 (And.intro hx9 (And.intro hm hpb)))
          clear h9 hx9 hpe hm hpb hr8 ld8 g2
          go_wp2_with fail
          refine (ext_frame E _ f ni gn Ap p m cp _ HFF.out.1 (by omega) hg1 H9.out.2.2.1 hm6 H9.out.2.2.2 (fun w h => ⟨HQ.out.1 _ h.right.right.right, H9.out.2.1 _ _ h⟩) H9.out.1).mono ?_
          rintro e w10 ⟨gx, rfl, h10⟩
          have H10 : Aside (Sat E w10 (HP.disk d A * (HP.pt gx (.cells (b8s (extI f ni gn p)).toArray 162) * (R9 * (HP.pt w7.heap.size (.cells (b8s S).toArray 100) * q))))) := ⟨h10.perm (by ac_rfl)⟩
          clear h10
          go_wp2_with fail
          refine (disk_write E _ d A f ni (some ⟨gx, 0, none⟩) (extI f ni gn p) 128 128 _ HFF.out.1 (extI_length (by rw [H9.out.2.2.1]; exact hm6)) (by decide) (fun w h => Sat.ptCells (off := 0) (l := b8s (extI f ni gn p)) h (by rw [List.drop_zero, List.take_length])) H10.out).mono ?_
          rintro e w11 ⟨rfl, h11⟩
          unfold mend1 at HM2
          obtain ⟨c1, A1, hA1⟩ : ∃ c1 A1, A.write f ni (extI f ni gn p) = (c1, A1) := ⟨_, _, rfl⟩
          rw [hA1] at h11 HM2 ⊢
          dsimp only at h11 HM2 ⊢
          have H11 := Aside.mk h11
          clear h11 hA1
          by_cases hc1 : c1 = 0
          · subst hc1
            rw [if_pos rfl] at HM2
            go_wp2_with fail
            refine (disk_sync E _ d A1 f _ HFF.out.1 H11.out).mono ?_
            rintro e w12 ⟨rfl, h12⟩
            obtain ⟨c2, A2, hA2⟩ : ∃ c2 A2, A1.sync f = (c2, A2) := ⟨_, _, rfl⟩
            rw [hA2] at h12 HM2 ⊢
            dsimp only at h12 HM2 ⊢
            have H12 := Aside.mk (And.intro h12 HM2.out)
            clear h12 hA2 HM2
            by_cases hc2 : c2 = 0
            · subst hc2
              go_wp2
              go_ret2
              rw [H12.out.2]
              exact ⟨rfl, (H12.out.1.perm (by ac_rfl : _ = HP.pt gx (.cells (b8s (extI f ni gn p)).toArray 162) * (R9 * (HP.pt w7.heap.size (.cells (b8s S).toArray 100) * (HP.disk d A2 * q))))).right.right.right⟩
            · have hc3 : (c2 == 0) = false := by rw [beq_eq_false_iff_ne]; exact hc2
              go_wp2
              go_ret2
              rw [H12.out.2, decide_eq_false hc2]
              exact ⟨rfl, (H12.out.1.perm (by ac_rfl : _ = HP.pt gx (.cells (b8s (extI f ni gn p)).toArray 162) * (R9 * (HP.pt w7.heap.size (.cells (b8s S).toArray 100) * (HP.disk d A2 * q))))).right.right.right⟩
          · have hc3 : (c1 == 0) = false := by rw [beq_eq_false_iff_ne]; exact hc1
            rw [if_neg hc1] at HM2
            have HM3 := HM2
            clear HM2
            go_wp2
            go_ret2
            rw [HM3.out]
            exact ⟨rfl, (H11.out.perm (by ac_rfl : _ = HP.pt gx (.cells (b8s (extI f ni gn p)).toArray 162) * (R9 * (HP.pt w7.heap.size (.cells (b8s S).toArray 100) * (HP.disk d A1 * q))))).right.right.right⟩
    · obtain rfl : k = 4 := by omega
      have hM := HM.out
      rw [firstBad_none HR.out] at hM
      unfold mendK at hM
      dsimp only at hM
      have HM2 := Aside.mk hM
      clear hM
      go_wp2
      go_ret2
      rw [HM2.out]
      exact ⟨rfl, HS.out.right⟩
def mendL (i g : Nat) (p : List Int) (wrote : Bool) (A : Dk) : List ByteArray → (Bool × Int) × Dk
  | [] => ((wrote, 0), A)
  | f :: r =>
    if readO A f i = extI f i g p then mendL i g p wrote A r
    else if (A.write f i (extI f i g p)).1 = 0 then
      if ((A.write f i (extI f i g p)).2.sync f).1 = 0 then mendL i g p true ((A.write f i (extI f i g p)).2.sync f).2 r
      else ((false, ((A.write f i (extI f i g p)).2.sync f).1), ((A.write f i (extI f i g p)).2.sync f).2)
    else ((false, (A.write f i (extI f i g p)).1), (A.write f i (extI f i g p)).2)
theorem mendL_cons (i g : Nat) (p : List Int) (wrote : Bool) (A : Dk) (f : ByteArray) (r : List ByteArray) : mendL i g p wrote A (f :: r) =
    if readO A f i = extI f i g p then mendL i g p wrote A r
    else if (A.write f i (extI f i g p)).1 = 0 then
      if ((A.write f i (extI f i g p)).2.sync f).1 = 0 then mendL i g p true ((A.write f i (extI f i g p)).2.sync f).2 r
      else ((false, ((A.write f i (extI f i g p)).2.sync f).1), ((A.write f i (extI f i g p)).2.sync f).2)
    else ((false, (A.write f i (extI f i g p)).1), (A.write f i (extI f i g p)).2) := rfl
def mendP (A : Dk) (name : ByteArray) (i : Int) : (Bool × Int) × Dk :=
  if (getP A name i).1 < 0 then ((false, 50), A) else mendL i.toNat (getP A name i).1.toNat (getP A name i).2 false A (halvesL name)
theorem openI_index {b : List Int} {f : ByteArray} {i : Int} {x : List Int × Nat} (h : openI b f i = some x) : 0 ≤ i ∧ i ≤ 2147483647 := by
  unfold openI at h
  split at h
  · cases h
  · rename_i h1
    omega
structure GotOk (i : Int) (st : Int × List Int) : Prop where
  place : 0 ≤ st.1 → 0 ≤ i ∧ i ≤ 2147483647
  gen : st.1 ≤ 4611686018427387904
  len : st.2.length ≤ 106
theorem getF_ok {A : Dk} {i : Int} {st : Int × List Int} {f : ByteArray} (h : GotOk i st) : GotOk i (getF A i st f) := by
  unfold getF
  cases A.cel f i with
  | none => exact h
  | some c =>
    dsimp only
    cases ho : openI c.read f i with
    | none => exact h
    | some x =>
      dsimp only
      split
      · exact h
      · have h1 := openI_gen (p := x.1) (g := x.2) ho
        exact ⟨fun _ => openI_index ho, h1.1, h1.2⟩
theorem getP_ok (A : Dk) (name : ByteArray) (i : Int) : GotOk i (getP A name i) := by
  unfold getP halvesL
  exact getF_ok (getF_ok ⟨fun h => absurd h (by show ¬ (0 : Int) ≤ -1; omega), by show (-1 : Int) ≤ _; omega, by show 0 ≤ 106; omega⟩)
theorem getF_byt {A : Dk} {i : Int} {st : Int × List Int} {f : ByteArray} (hs : Bytes st.2) (hb : ∀ c, A.cel f i = some c → Bytes c.read) : Bytes (getF A i st f).2 := by
  unfold getF
  cases hc : A.cel f i with
  | none => exact hs
  | some c =>
    dsimp only
    cases ho : openI c.read f i with
    | none => exact hs
    | some x =>
      dsimp only
      split
      · exact hs
      · have h := ho
        unfold openI at h
        split at h
        · cases h
        · split at h
          · cases h
          · split at h
            · cases h
            · simp only [Option.some.injEq] at h
              rw [← h]
              exact fun y hy => hb c hc y (List.mem_of_mem_drop (List.mem_of_mem_take hy))
theorem getP_byt {A : Dk} {name : ByteArray} {i : Int} (hb : ∀ f ∈ halvesL name, ∀ c, A.cel f i = some c → Bytes c.read) : Bytes (getP A name i).2 := by
  unfold getP halvesL
  exact getF_byt (getF_byt (fun x hx => by cases hx) (hb _ (List.mem_cons_self ..))) (hb _ (List.mem_cons_of_mem _ (List.mem_cons_self ..)))
theorem halves_ne (x : ByteArray) : x ++ dotA ≠ x ++ dotB := fun h => by
  have h1 : (x ++ dotA).data = (x ++ dotB).data := by rw [h]
  rw [ByteArray.data_append, ByteArray.data_append] at h1
  have h2 := congrArg Array.toList h1
  simp only [Array.toList_append, List.append_cancel_left_eq] at h2
  exact absurd h2 (by decide)
theorem write_at_ne {A : Dk} (hs : Sorted A.files) {f t : ByteArray} (ht : f ≠ t) (i : Int) (b : List Int) : (A.write f i b).2.at t = A.at t := by
  unfold Dk.write
  have hs2 : Sorted A.burnt.files := hs
  split
  · rfl
  · split
    · rfl
    · split
      · rfl
      · split
        · show (A.burnt.set f _).at t = _
          rw [at_set hs2, if_neg ht]; rfl
        · show (A.burnt.set f _).at t = _
          rw [at_set hs2, if_neg ht]; rfl
theorem sync_at_ne {A : Dk} (hs : Sorted A.files) {f t : ByteArray} (ht : f ≠ t) : (A.sync f).2.at t = A.at t := by
  unfold Dk.sync
  have hs2 : Sorted A.burnt.files := hs
  split
  · rfl
  · split
    · rfl
    · show (A.burnt.set f _).at t = _
      rw [at_set hs2, if_neg ht]; rfl
theorem write_sorted {A : Dk} (hs : Sorted A.files) (f : ByteArray) (i : Int) (b : List Int) : Sorted (A.write f i b).2.files := by
  unfold Dk.write
  have hs2 : Sorted A.burnt.files := hs
  split
  · exact hs
  · split
    · exact hs
    · split
      · exact hs
      · split
        · exact sorted_put f _ hs2
        · exact sorted_put f _ hs2
theorem sync_sorted {A : Dk} (hs : Sorted A.files) (f : ByteArray) : Sorted (A.sync f).2.files := by
  unfold Dk.sync
  have hs2 : Sorted A.burnt.files := hs
  split
  · exact hs
  · split
    · exact hs
    · exact sorted_put f _ hs2
theorem cel_of_at {A B : Dk} {t : ByteArray} (h : A.at t = B.at t) (i : Int) : A.cel t i = B.cel t i := by
  unfold Dk.cel
  rw [h]
theorem readO_of_none {A : Dk} {f : ByteArray} {i : Int} (h : A.cel f i = none) : readO A f i = [] := by unfold readO; rw [h]
theorem readO_of_some {A : Dk} {f : ByteArray} {i : Int} {c : Cel} (h : A.cel f i = some c) : readO A f i = c.read := by unfold readO; rw [h]
set_option maxHeartbeats 4000000 in
set_option maxRecDepth 100000 in
theorem pair_mend (E : Env) (q : HP) (d : Nat) (A : Dk) (name : ByteArray) (i : Int) (w : World) (hname : name.size + 2 ≤ maxLen) (hby : ∀ f ∈ halvesL name, ∀ c, A.cel f i = some c → Bytes c.read)
    (hq : ∀ w, Sat E w q → Quarter w) (hw : Sat E w (HP.disk d A * q)) :
    Calls Tryz.prog 97 #[.pointer (some ⟨d, 0, none⟩), .string name, .int .i64 i] w fun e w' => e = .returned (.tuple #[.bool (mendP A name i).1.1, .int .i64 (mendP A name i).1.2]) ∧ Sat E w' (HP.disk d (mendP A name i).2 * q) := by
  have hfa : (name ++ dotA).size ≤ maxLen := by rw [dotA_size]; exact hname
  have hfb : (name ++ dotB).size ≤ maxLen := by rw [dotB_size]; exact hname
  have HF : Aside (halvesL name = [name ++ dotA, name ++ dotB]) := ⟨rfl⟩
  have HNE := Aside.mk (halves_ne name)
  have HM : Aside (mendP A name i = if (getP A name i).1 < 0 then ((false, 50), A) else mendL i.toNat (getP A name i).1.toNat (getP A name i).2 false A (halvesL name)) := ⟨rfl⟩
  have HQ := Aside.mk (And.intro hq (And.intro hby hw))
  have HG := Aside.mk (And.intro (getP_ok A name i) (getP_byt hby))
  clear hq hby hw
  go_enter Tryz.func97, Tryz.ntmps97
  go_wp2_with fail
  refine (pair_get E q d A name i _ hname HQ.out.2.1 HQ.out.1 HQ.out.2.2).mono ?_
  rintro e w1 ⟨v, rfl, h1⟩
  obtain ⟨Av, cv, rfl, hcv, hcm⟩ := h1.row_slice
  obtain ⟨⟨G0, p⟩, hGp⟩ : ∃ r, r = getP A name i := ⟨_, rfl⟩
  rw [← hGp] at h1 HM HG ⊢
  clear hGp
  dsimp only at h1 HM HG ⊢
  have H1 := Aside.mk h1
  clear h1
  unfold getEnd
  by_cases hneg : G0 < 0
  · rw [if_pos (by exact hneg)]
    rw [if_pos hneg] at HM
    go_wp2
    go_ret2
    rw [HM.out]
    exact ⟨rfl, H1.out.right⟩
  · rw [if_neg (by exact hneg)]
    rw [if_neg hneg] at HM
    obtain ⟨i0, i1⟩ := HG.out.1.place (by show 0 ≤ G0; omega)
    obtain ⟨i, rfl⟩ := Int.eq_ofNat_of_zero_le i0
    obtain ⟨G, rfl⟩ := Int.eq_ofNat_of_zero_le (show 0 ≤ G0 by omega)
    rw [Int.toNat_natCast, Int.toNat_natCast] at HM
    have hG : (G : Int) ≤ 4611686018427387904 := HG.out.1.gen
    have hpl : p.length ≤ 106 := HG.out.1.len
    obtain ⟨n, hn⟩ : ∃ n, n = p.length := ⟨_, rfl⟩
    rw [← hn] at H1 hpl ⊢
    have HPL := Aside.mk (And.intro hn.symm HG.out.2)
    clear hn HG hneg hcv hcm
    go_wp2_with fail
    refine (pair_halves E _ name _ hname H1.out).mono ?_
    rintro e w2 ⟨rfl, h2⟩
    obtain ⟨fa, hfae⟩ : ∃ fa, fa = name ++ dotA := ⟨_, rfl⟩
    obtain ⟨fb, hfbe⟩ : ∃ fb, fb = name ++ dotB := ⟨_, rfl⟩
    rw [← hfae] at hfa HF HNE ⊢
    rw [← hfbe] at hfb HF HNE ⊢
    clear hfae hfbe
    have H2 : Aside (Sat E w2 (HP.disk d A * (HP.row 5 1 (.slice Av n cv) n (b8s p) * q))) := ⟨h2.s2⟩
    clear h2 H1
    have i0' : ∀ w, (Instr.index 195 (.agg #[.string fa, .string fb]) (.int .i64 0)).run Tryz.prog w = .ok (.string fa) w := fun w => by kernel_rfl
    have i1' : ∀ w, (Instr.index 195 (.agg #[.string fa, .string fb]) (.int .i64 1)).run Tryz.prog w = .ok (.string fb) w := fun w => by kernel_rfl
    go_wp2
    go_loopw [11, 33] (fun v11 v33 wr => ∃ (h : Nat) (wrote : Bool) (A' : Dk), h ≤ 2 ∧ v33 = .int .i64 h ∧ v11 = .bool wrote ∧ Aside (mendL i G p wrote A' ((halvesL name).drop h) = mendP A name i) ∧ Aside (∀ f ∈ (halvesL name).drop h, ∀ c, A'.cel f i = some c → Bytes c.read) ∧ Aside (Sat E wr (HP.disk d A' * (HP.row 5 1 (.slice Av n cv) n (b8s p) * q)))) (fun _ x _ => 2 - (intOf x).toNat)
    case atStart => exact ⟨0, false, A, by omega, rfl, rfl, ⟨HM.out.symm⟩, ⟨HQ.out.2.1⟩, H2⟩
    case round =>
      obtain ⟨h, wrote, A', hh, rfl, rfl, HL, HY, HS⟩ := hrel
      by_cases hlt : h < 2
      · obtain ⟨f, hf, hff, hne, hix⟩ : ∃ f : ByteArray, f.size ≤ maxLen ∧ (halvesL name).drop h = f :: (halvesL name).drop (h + 1) ∧ (∀ t ∈ (halvesL name).drop (h + 1), f ≠ t) ∧ ∀ w, (Instr.index 195 (.agg #[.string fa, .string fb]) (.int .i64 (h : Int))).run Tryz.prog w = .ok (.string f) w := by
          rw [HF.out]
          rcases Nat.lt_or_ge h 1 with h0 | h0
          · obtain rfl : h = 0 := by omega
            exact ⟨fa, hfa, rfl, fun t ht => by obtain rfl := List.mem_singleton.1 ht; exact HNE.out, i0'⟩
          · obtain rfl : h = 1 := by omega
            exact ⟨fb, hfb, rfl, fun t ht => (by cases ht), i1'⟩
        rw [hff] at HL HY
        have HNX := Aside.mk hne
        clear hff hne i0' i1'
        have hlt2 : (h : Int) < 2 := by omega
        have hIl : (extI f i G p).length = 128 := extI_length (by rw [HPL.out.1]; exact hpl)
        have hIb : Bytes (extI f i G p) := extI_bytes (by rw [HPL.out.1]; exact hpl) HPL.out.2
        have HX : Aside (mendL i G p wrote A' (f :: (halvesL name).drop (h + 1)) = if readO A' f i = extI f i G p then mendL i G p wrote A' ((halvesL name).drop (h + 1))
          else if (A'.write f i (extI f i G p)).1 = 0 then
            if ((A'.write f i (extI f i G p)).2.sync f).1 = 0 then mendL i G p true ((A'.write f i (extI f i G p)).2.sync f).2 ((halvesL name).drop (h + 1))
            else ((false, ((A'.write f i (extI f i G p)).2.sync f).1), ((A'.write f i (extI f i G p)).2.sync f).2)
          else ((false, (A'.write f i (extI f i G p)).1), (A'.write f i (extI f i G p)).2)) := ⟨rfl⟩
        rw [HL.out] at HX
        go_wp2_with fail
        refine (ext_frame E (HP.disk d A' * (HP.row 5 1 (.slice Av n cv) n (b8s p) * q)) f i G Av p n cv _ hf i1 hG HPL.out.1 hpl HPL.out.2 (fun w h => ⟨HQ.out.1 _ h.right.right, h.right.row_cells⟩) HS.out).mono ?_
        rintro e w3 ⟨gI, rfl, h3⟩
        obtain ⟨I, hIe⟩ : ∃ I, I = extI f i G p := ⟨_, rfl⟩
        rw [← hIe] at hIl hIb h3 HX
        clear hIe
        have HI := Aside.mk (And.intro hIl hIb)
        have H3 := Aside.mk h3.s2
        clear h3 hIl hIb HS HL
        go_wp2_with fail
        refine (disk_read_ok E _ d A' f i _ hf H3.out).mono ?_
        intro e w4 h4
        obtain ⟨Ar, nr, cr, er, hev, hrl, hbr, hcl, h5⟩ : ∃ (Ar : Option Addr) (nr cr : Nat) (er : Int), e = .returned (.tuple #[.slice Ar nr cr, .int .i64 er]) ∧ (readO A' f i).length = nr ∧ Bytes (readO A' f i) ∧ Cells w4 Ar (b8s (readO A' f i)) ∧ Sat E w4 (HP.disk d A' * (HP.pt gI (.cells (b8s I).toArray 162) * (HP.row 5 1 (.slice Av n cv) n (b8s p) * q))) := by
          unfold readEnd at h4
          cases hc : A'.cel f i with
          | none =>
            rw [hc] at h4
            rw [readO_of_none hc]
            exact ⟨none, 0, 0, 30, h4.1, rfl, (fun x hx => by cases hx), Cells.nil _ _, h4.2⟩
          | some cl =>
            rw [hc] at h4
            obtain ⟨vr, h4a, h4⟩ := h4
            obtain ⟨Ar, cr, rfl, -, -⟩ := h4.row_slice
            rw [readO_of_some hc]
            have hl128 := h4.row_cases.1
            rw [b8s_length] at hl128
            exact ⟨Ar, 128, cr, 0, h4a, hl128, HY.out f (List.mem_cons_self ..) cl hc, h4.row_cells, h4.right⟩
        subst hev
        obtain ⟨R, hR⟩ : ∃ R, R = readO A' f i := ⟨_, rfl⟩
        rw [← hR] at hrl hbr hcl HX
        have HR := Aside.mk (And.intro hrl (And.intro hbr hcl))
        have H5 := Aside.mk h5
        clear h4 h5 hR hrl hbr hcl H3
        go_wp2_with fail
        refine (bytesEq_ok Ar (some ⟨gI, 0, none⟩) R I nr 128 cr 128 _ HR.out.1 HI.out.1 HR.out.2.2 (Sat.ptCells (off := 0) H5.out.right (by rw [List.drop_zero, List.take_length])) HR.out.2.1 HI.out.2).mono ?_
        rintro e w5 ⟨rfl, rfl⟩
        clear HR
        by_cases hRI : R = I
        · rw [decide_eq_true hRI]
          rw [if_pos hRI] at HX
          have HZ := Aside.mk (H5.out.s2.right)
          have HY2 : Aside (∀ f ∈ (halvesL name).drop (h + 1), ∀ c, A'.cel f i = some c → Bytes c.read) := ⟨fun t ht => HY.out t (List.mem_cons_of_mem _ ht)⟩
          have HX2 := Aside.mk HX.out.symm
          clear hRI HX HY H5
          go_wp2
          go_roundw
          case rel => exact ⟨h + 1, wrote, A', by omega, by push_cast; rfl, rfl, HX2, HY2, HZ⟩
          case measure => simp [intOf]; omega
        · rw [decide_eq_false hRI]
          rw [if_neg hRI] at HX
          clear hRI
          have hso : Sorted A'.files := H5.out.disk_fine.sorted
          have HSO := Aside.mk hso
          clear hso
          go_wp2_with fail
          refine (disk_write E _ d A' f i (some ⟨gI, 0, none⟩) I 128 128 _ hf HI.out.1 (by unfold maxLen; omega) (fun w h => Sat.ptCells (off := 0) h (by rw [List.drop_zero, List.take_length])) H5.out).mono ?_
          rintro e w6 ⟨rfl, h6⟩
          have H6 := Aside.mk h6.drop2
          clear h6 H5
          by_cases hw0 : (A'.write f (i : Int) I).1 = 0
          · rw [hw0]
            rw [if_pos hw0] at HX
            have HY2 : Aside (∀ t ∈ (halvesL name).drop (h + 1), ∀ c, (A'.write f (i : Int) I).2.cel t i = some c → Bytes c.read) := ⟨fun t ht c hc => HY.out t (List.mem_cons_of_mem _ ht) c (by rw [← cel_of_at (write_at_ne HSO.out (HNX.out t ht) i I)]; exact hc)⟩
            have hso2 : Sorted (A'.write f (i : Int) I).2.files := H6.out.disk_fine.sorted
            have HSO2 := Aside.mk hso2
            clear hso2 hw0 HY HSO
            generalize (A'.write f (i : Int) I).2 = B at *
            go_wp2_with fail
            refine (disk_sync E _ d B f _ hf H6.out).mono ?_
            rintro e w7 ⟨rfl, h7⟩
            have H7 := Aside.mk h7
            clear h7 H6
            by_cases hs0 : (B.sync f).1 = 0
            · rw [hs0]
              rw [if_pos hs0] at HX
              have HY3 : Aside (∀ t ∈ (halvesL name).drop (h + 1), ∀ c, (B.sync f).2.cel t i = some c → Bytes c.read) := ⟨fun t ht c hc => HY2.out t ht c (by rw [← cel_of_at (sync_at_ne HSO2.out (HNX.out t ht)) i]; exact hc)⟩
              have HX2 := Aside.mk HX.out.symm
              clear hs0 HX HY2
              generalize (B.sync f).2 = C at *
              go_wp2
              go_roundw
              case rel => exact ⟨h + 1, true, C, by omega, by push_cast; rfl, rfl, HX2, HY3, H7⟩
              case measure => simp [intOf]; omega
            · rw [if_neg hs0] at HX
              obtain ⟨ec, hec⟩ : ∃ ec, ec = (B.sync f).1 := ⟨_, rfl⟩
              rw [← hec] at hs0 HX ⊢
              clear hec HY2
              go_wp2
              go_ret2
              rw [HX.out]
              exact ⟨rfl, H7.out.drop2⟩
          · rw [if_neg hw0] at HX
            obtain ⟨ec, hec⟩ : ∃ ec, ec = (A'.write f (i : Int) I).1 := ⟨_, rfl⟩
            rw [← hec] at hw0 HX ⊢
            clear hec HY
            go_wp2
            go_ret2
            rw [HX.out]
            exact ⟨rfl, H6.out.drop2⟩
      · obtain rfl : h = 2 := by omega
        rw [HF.out] at HL
        have HX : Aside (mendP A name i = ((wrote, 0), A')) := ⟨by rw [← HL.out]; rfl⟩
        clear HL i0' i1'
        go_wp2
        go_ret2
        rw [HX.out]
        exact ⟨rfl, HS.out.drop2⟩
end Go.Proofs.YtnpinegpajbkeaaGreatDoor
namespace Go.Proofs.YtnpinegpajbkeaaGreatDoor
open Go.RowKit HP
def HP.imgs (L : List (Value × List Int)) : HP := HP.all (L.map fun x => HP.row 5 1 x.1 128 (b8s x.2))
structure RC where
  c : Cel
  vr : Value
  vd : Value
  vs : Value
  vw : Value
def RC.vals (x : RC) : List Value := [x.vr, x.vd, x.vs, x.vw, .bool x.c.waits]
structure RF where
  name : ByteArray
  val : Value
  cs : List RC
def RF.vals (f : RF) : List Value := [.string f.name, f.val]
def HP.rcs (f : RF) : HP := HP.row 176 5 f.val f.cs.length (f.cs.flatMap RC.vals)
def RC.In (L : List (Value × List Int)) (x : RC) : Prop := (x.vr, x.c.read) ∈ L ∧ (x.vd, x.c.durable) ∈ L ∧ (x.vs, x.c.synced) ∈ L ∧ (x.vw, x.c.written) ∈ L
structure RView (A : Dk) (fs : List RF) (L : List (Value × List Int)) : Prop where
  same : fs.map (fun f => (f.name, f.cs.map (·.c))) = A.files
  imgs : ∀ f ∈ fs, ∀ x ∈ f.cs, x.In L
  fine : A.Fine
def HP.rdk (y : Nat) (room fuse : Int) (v : Value) (fs : List RF) (L : List (Value × List Int)) : HP :=
  HP.pt y (.cells #[.int .i64 room, v, .int .i64 fuse] 158) * (HP.row 174 2 v fs.length (fs.flatMap RF.vals) * (HP.all (fs.map HP.rcs) * HP.imgs L))
def HP.rdisk (y : Nat) (A : Dk) : HP := HP.ex fun x : Value × List RF × List (Value × List Int) => HP.fact (RView A x.2.1 x.2.2) * HP.rdk y A.room A.fuse x.1 x.2.1 x.2.2
section
variable {E : Env} {q : HP} {w : World} {y : Nat} {A : Dk} {fs : List RF} {L : List (Value × List Int)} {v : Value}
theorem Sat.rdisk_open (h : Sat E w (HP.rdisk y A * q)) : ∃ v fs L, RView A fs L ∧ Sat E w (HP.rdk y A.room A.fuse v fs L * q) := by
  obtain ⟨⟨v, fs, L⟩, h⟩ := h.ex_elim
  obtain ⟨hv, h⟩ := (h.perm (HP.mul_assoc _ _ _)).fact_elim
  exact ⟨v, fs, L, hv, h⟩
theorem Sat.rdisk_close (hv : RView A fs L) (h : Sat E w (HP.rdk y A.room A.fuse v fs L * q)) : Sat E w (HP.rdisk y A * q) := by
  refine Sat.ex_intro (v, fs, L) ?_
  exact (Sat.fact_intro hv h).perm (HP.mul_assoc _ _ _).symm
theorem Sat.rdk_parts {room fuse : Int} (h : Sat E w (HP.rdk y room fuse v fs L * q)) : Sat E w (HP.pt y (.cells #[.int .i64 room, v, .int .i64 fuse] 158) * (HP.row 174 2 v fs.length (fs.flatMap RF.vals) * (HP.all (fs.map HP.rcs) * (HP.imgs L * q)))) := by
  unfold HP.rdk at h
  exact h.perm (by ac_rfl)
theorem Sat.rdk_join {room fuse : Int} (h : Sat E w (HP.pt y (.cells #[.int .i64 room, v, .int .i64 fuse] 158) * (HP.row 174 2 v fs.length (fs.flatMap RF.vals) * (HP.all (fs.map HP.rcs) * (HP.imgs L * q))))) : Sat E w (HP.rdk y room fuse v fs L * q) := by
  unfold HP.rdk
  exact h.perm (by ac_rfl)
theorem all_mem {l : List HP} {p : HP} (h : p ∈ l) : ∃ r, HP.all l = p * r := by
  obtain ⟨j, hj⟩ := List.getElem?_of_mem h
  exact ⟨_, all_take hj⟩
theorem Sat.img {x : Value} {b : List Int} (hm : (x, b) ∈ L) (h : Sat E w (HP.imgs L * q)) : ∃ A c, x = .slice A 128 c ∧ 128 ≤ c ∧ c ≤ maxLen ∧ Cells w A (b8s b) := by
  obtain ⟨r, hr⟩ := all_mem (List.mem_map.2 ⟨_, hm, rfl⟩ : HP.row 5 1 x 128 (b8s b) ∈ L.map fun x => HP.row 5 1 x.1 128 (b8s x.2))
  unfold HP.imgs at h
  rw [hr] at h
  have h2 := h.perm (HP.mul_assoc _ _ _)
  obtain ⟨A, c, rfl, hc, hm⟩ := h2.row_slice
  exact ⟨A, c, rfl, hc, hm, h2.row_cells⟩
theorem Sat.img_push {x : Value} {b : List Int} (h : Sat E w (HP.row 5 1 x 128 (b8s b) * (HP.imgs L * q))) : Sat E w (HP.imgs ((x, b) :: L) * q) := by
  unfold HP.imgs at h ⊢
  rw [List.map_cons, HP.all_cons]
  exact h.perm (HP.mul_assoc _ _ _).symm
theorem RC.In.push {L : List (Value × List Int)} {x : RC} (h : x.In L) (z : Value × List Int) : x.In (z :: L) := ⟨List.mem_cons_of_mem _ h.1, List.mem_cons_of_mem _ h.2.1, List.mem_cons_of_mem _ h.2.2.1, List.mem_cons_of_mem _ h.2.2.2⟩
end
def strangeC (b : UInt8) : Bool := strangeB (b.toNat : Int)
theorem strange_high {c : Int} (h : 128 ≤ c) : strangeB c = true := by
  unfold strangeB
  simp
  omega
theorem runes_any (s : ByteArray) : ∀ (n pos : Nat) (acc : Array Value), s.size - pos ≤ n → ((Conv.runesFrom s n pos acc).toList.map intOf).any strangeB = ((acc.toList.map intOf).any strangeB || (s.data.toList.drop pos).any strangeC) := by
  intro n
  induction n with
  | zero =>
    intro pos acc h
    unfold Conv.runesFrom
    rw [List.drop_eq_nil_of_le (by rw [Array.length_toList]; show s.size ≤ pos; omega)]
    simp
  | succ n ih =>
    intro pos acc h
    unfold Conv.runesFrom
    by_cases hlt : pos < s.size
    · rw [if_pos hlt]
      have hd : s.data.toList.drop pos = s[pos] :: s.data.toList.drop (pos + 1) := by
        rw [List.drop_eq_getElem_cons (by rw [Array.length_toList]; exact hlt)]
        rfl
      rw [hd, List.any_cons]
      rcases Nat.lt_or_ge (s[pos]).toNat 128 with ha | ha
      · rw [decode_ascii s pos hlt ha]
        dsimp only
        rw [ih (pos + 1) _ (by omega), Array.toList_push, List.map_append, List.any_append]
        simp only [List.map_cons, List.map_nil, List.any_cons, List.any_nil, Bool.or_false, intOf, Int.ofNat_eq_natCast]
        rw [Bool.or_assoc]
        rfl
      · have hh := decode_high s pos hlt ha
        rw [ih _ _ (by omega), Array.toList_push, List.map_append, List.any_append]
        simp only [List.map_cons, List.map_nil, List.any_cons, List.any_nil, Bool.or_false, intOf, Int.ofNat_eq_natCast]
        rw [strange_high (by have := hh.1; omega)]
        have : strangeC s[pos] = true := strange_high (by omega)
        rw [this]
        simp
    · rw [if_neg hlt, List.drop_eq_nil_of_le (by rw [Array.length_toList]; show s.size ≤ pos; omega)]
      simp
theorem named_bytes (s : ByteArray) : namedB s = (decide (1 ≤ s.size) && decide (s.size ≤ 24) && !s.data.toList.any strangeC) := by
  unfold namedB runesOf
  rw [runes_any s s.size 0 #[] (by omega)]
  have e : (!s.toList.isEmpty) = decide (1 ≤ s.size) := by
    rw [ByteArray.toList_eq]
    have : s.data.toList.length = s.size := by rw [Array.length_toList]; rfl
    cases hd : s.data.toList with
    | nil => rw [hd] at this; simp at this; simp [← this]
    | cons a l => rw [hd] at this; simp at this; simp; omega
  rw [e]
  simp
end Go.Proofs.YtnpinegpajbkeaaGreatDoor
namespace Go.Proofs.YtnpinegpajbkeaaGreatDoor
open Go.RowKit HP
set_option maxHeartbeats 2000000 in
set_option maxRecDepth 100000 in
theorem ref_isName (s : ByteArray) (w : World) (hs : s.size ≤ maxLen) :
    Calls Tryz.prog 117 #[.string s] w fun e w' => e = .returned (.bool (namedB s)) ∧ w' = w := by
  obtain ⟨R, hR⟩ : ∃ R, R = namedB s := ⟨_, rfl⟩
  have HR : Aside (R = (decide (1 ≤ s.size) && decide (s.size ≤ 24) && !s.data.toList.any strangeC)) := ⟨by rw [hR, named_bytes]⟩
  rw [← hR]
  clear hR
  have hd : s.data.toList.length = s.size := by rw [Array.length_toList]; rfl
  have HD := Aside.mk hd
  unfold maxLen at hs
  clear hd
  go_enter Tryz.func117, Tryz.ntmps117
  go_wp2
  go_loopw [3] (fun v3 wr => ∃ k : Nat, k ≤ s.size ∧ v3 = .int .i64 k ∧ Aside ((s.data.toList.take k).any strangeC = false) ∧ wr = w) (fun i _ => s.size - (intOf i).toNat)
  case atStart => exact ⟨0, Nat.zero_le _, rfl, ⟨by simp⟩, rfl⟩
  case round =>
    obtain ⟨k, hk, rfl, HS, rfl⟩ := hrel
    by_cases hlt : k < s.size
    · have hlt2 : (k : Int) < (s.size : Int) := by omega
      have h0 : (0 : Int) ≤ (k : Int) := by omega
      have hsk : s.data.toList.take (k + 1) = s.data.toList.take k ++ [s[k]] := by
        rw [List.take_succ_eq_append_getElem (by rw [HD.out]; exact hlt)]
        rfl
      have HSK := Aside.mk hsk
      clear hsk
      go_wp2
      all_goals first
        | (refine ⟨⟨k + 1, by omega, by go_num, ⟨?_⟩, trivial⟩, by simp [intOf]; omega⟩
           rw [HSK.out, List.any_append, HS.out]
           have hst : strangeC s[k] = false := by
             unfold strangeC strangeB
             simp_all
             try omega
           simp [hst])
        | (go_ret
           refine ⟨?_, rfl⟩
           have hst : strangeC s[k] = true := by
             unfold strangeC strangeB
             simp_all
             try omega
           have hany : s.data.toList.any strangeC = true := by
             rw [← List.take_append_drop (k + 1) s.data.toList, HSK.out]
             simp [hst]
           rw [HR.out, hany]
           simp)
    · obtain rfl : k = s.size := by omega
      have hall : s.data.toList.any strangeC = false := by
        have h := HS.out
        rwa [List.take_of_length_le (by rw [HD.out]; exact Nat.le_refl _)] at h
      have HA := Aside.mk hall
      clear hall
      go_wp2
      all_goals
        go_ret
        refine ⟨?_, rfl⟩
        rw [HR.out, HA.out]
        first
          | (have h1 : 1 ≤ s.size := by omega
             have h1' : (1 : Int) ≤ (s.size : Int) := by omega
             by_cases h24 : s.size ≤ 24
             · have h24' : (s.size : Int) ≤ 24 := by omega
               simp [h1, h24, h24', h1']
             · have h24' : ¬ (s.size : Int) ≤ 24 := by omega
               simp [h1, h24, h24', h1'])
          | (have h1 : ¬ 1 ≤ s.size := by omega
             simp [h1])
set_option maxHeartbeats 1000000 in
set_option maxRecDepth 100000 in
theorem ref_new (E : Env) (q : HP) (room : Int) (w : World) (h : 0 ≤ room ∧ room ≤ 100000) (hw : Sat E w q) :
    Calls Tryz.prog 40 #[.int .i64 room] w fun e w' => ∃ y, e = .returned (.tuple #[.pointer (some ⟨y, 0, none⟩), .int .i64 0]) ∧ Sat E w' (HP.rdisk y (Dk.new room) * q) := by
  obtain ⟨h0, h1⟩ := h
  have hb := hw.alloc (.cells #[.int .i64 room, .slice none 0 0, .int .i64 (-1)] 158)
  have HB := Aside.mk hb
  have HR := Aside.mk (And.intro h0 h1)
  clear hb hw
  go_enter Tryz.func40, Tryz.ntmps40
  go_wp2
  go_ret2
  refine ⟨w.heap.size, rfl, ?_⟩
  have h2 := HB.out.row_nil 174 2 none
  refine Sat.rdisk_close (v := .slice none 0 0) (fs := []) (L := []) ⟨rfl, (fun f hf => by cases hf), Dk.new_fine HR.out⟩ (Sat.rdk_join ?_)
  refine h2.perm ?_
  show HP.row _ 2 _ 0 [] * (HP.pt _ _ * q) = HP.pt _ _ * (HP.row _ 2 _ 0 [] * (HP.emp * (HP.emp * q)))
  rw [HP.emp_mul, HP.emp_mul]
  ac_rfl
theorem ref_stops (E : Env) (q : HP) (y : Nat) (A : Dk) (v : Value) (fs : List RF) (L : List (Value × List Int)) (w : World) (hf : -1 ≤ A.fuse ∧ A.fuse ≤ 9223372036854775807) (hw : Sat E w (HP.rdk y A.room A.fuse v fs L * q)) :
    Calls Tryz.prog 118 #[.pointer (some ⟨y, 0, none⟩)] w fun e w' => e = .returned (.bool (!A.goes)) ∧ Sat E w' (HP.rdk y A.room A.burnt.fuse v fs L * q) := by
  have hp := hw.rdk_parts
  have c2 := hp.cell 2
  have z2 := hp.thaw 2
  have HP := Aside.mk hp
  simp only [List.getElem?_toArray, List.getElem?_cons_zero, List.getElem?_cons_succ] at c2
  clear hw hp
  go_enter Tryz.func118, Tryz.ntmps118
  by_cases h0 : A.fuse = 0
  · have hg : A.goes = false := by unfold Dk.goes burnI; simp [h0]
    have hb : A.burnt.fuse = A.fuse := by unfold Dk.burnt burnI; simp [h0]
    rw [hg, hb]
    rw [h0] at c2
    clear hg hb h0
    go_wp2
    go_ret
    exact ⟨rfl, HP.out.rdk_join⟩
  · by_cases h1 : 0 < A.fuse
    · have hg : A.goes = true := by unfold Dk.goes burnI; simp [h1]
      have hb : A.burnt.fuse = A.fuse - 1 := by unfold Dk.burnt burnI; simp [h1]
      rw [hg, hb]
      clear hg hb
      obtain ⟨fu, hfu⟩ : ∃ fu, fu = A.fuse := ⟨_, rfl⟩
      rw [← hfu] at c2 h0 h1 hf ⊢
      have HF := Aside.mk hfu
      clear hfu
      have hs := HP.out.set (i := 2) (.int .i64 (fu - 1))
      simp only [List.setIfInBounds_toArray, List.set_cons_zero, List.set_cons_succ] at hs
      have HS := Aside.mk hs
      have hz : ((fu - 1 : Int)) ≤ 9223372036854775807 := by omega
      have hz1 : (-9223372036854775808 : Int) ≤ fu - 1 := by omega
      clear hs
      go_wp2
      go_ret
      exact ⟨rfl, HS.out.rdk_join⟩
    · have hg : A.goes = true := by unfold Dk.goes burnI; simp [h1]; omega
      have hb : A.burnt.fuse = A.fuse := by unfold Dk.burnt burnI; simp [h1]
      rw [hg, hb]
      clear hg hb
      obtain ⟨fu, hfu⟩ : ∃ fu, fu = A.fuse := ⟨_, rfl⟩
      rw [← hfu] at c2 h0 h1 hf HP ⊢
      clear hfu
      go_wp2
      go_ret
      exact ⟨rfl, HP.out.rdk_join⟩
end Go.Proofs.YtnpinegpajbkeaaGreatDoor
namespace Go.Proofs.YtnpinegpajbkeaaGreatDoor
open Go.RowKit
section
variable {P : Program} {ops : Array Oper} {Q : Exit → Act → World → Prop}
def BR (P : Program) (ops : Array Oper) (Q : Exit → Act → World → Prop) (effs keeps : List Nat) (T : World → Prop) (n : Nat) (l : Array Bool) (a : Act) (w : World) (i : Nat) : Prop :=
  ∃ oi, ops[i]? = some oi ∧ effs.contains i = true ∧ ∀ K : Act → World → Prop, (∀ a' w', (keeps.contains i = true → T w') → wpR P ops Q (RR effs keeps T) n (l.setIfInBounds i true) a' w' → K a' w') → if Region.wanted oi (yielded ops a.tmps) = true then Oper.wp P oi a w K Q else K (a.put oi.dst undef) w
theorem wpR_many {effs keeps : List Nat} {T : World → Prop} {n : Nat} {l : Array Bool} {a : Act} {w : World} (rs : List Nat) (hne : rs.isEmpty = false) (hc : (Region.ready .any ops l == rs) = true) (h : ∀ i ∈ rs, BR P ops Q effs keeps T n l a w i) :
    wpR P ops Q (RR effs keeps T) (n + 1) l a w := by
  have h1 : Region.ready .any ops l = rs := by simpa using hc
  refine ⟨fun h0 => (by rw [h1] at h0; subst h0; cases hne), fun j hj => ?_⟩
  rw [h1] at hj
  obtain ⟨oi, hi, he, hb⟩ := h j hj
  refine wpOp_step hi fun K hK => hb K fun a' w' hT h' => hK a' w' ⟨?_, h'⟩
  unfold RR
  rw [if_pos he]
  split
  · rename_i hk
    exact fun _ => hT hk
  · trivial
theorem br_keep {effs keeps : List Nat} {T : World → Prop} {i : Nat} {oi : Oper} {n : Nat} {l : Array Bool} {a : Act} {w : World} (l' : Array Bool) (hi : ops[i]? = some oi) (hc : (effs.contains i && (l.setIfInBounds i true == l')) = true)
    (h : ∀ K : Act → World → Prop, (∀ a' w', T w' → wpR P ops Q (RR effs keeps T) n l' a' w' → K a' w') → if Region.wanted oi (yielded ops a.tmps) = true then Oper.wp P oi a w K Q else K (a.put oi.dst undef) w) : BR P ops Q effs keeps T n l a w i := by
  simp only [Bool.and_eq_true, beq_iff_eq] at hc
  obtain ⟨h1, h3⟩ := hc
  subst h3
  by_cases hk : keeps.contains i = true
  · exact ⟨oi, hi, h1, fun K hK => h K fun a' w' hT h' => hK a' w' (fun _ => hT) h'⟩
  · exact ⟨oi, hi, h1, fun K hK => h K fun a' w' hT h' => hK a' w' (fun hk' => absurd hk' hk) h'⟩
end
theorem share {S G : Prop} (main : S → G) (pf : S) : G := main pf
end Go.Proofs.YtnpinegpajbkeaaGreatDoor
namespace Go.Proofs.YtnpinegpajbkeaaGreatDoor
open Go.RowKit HP
section
variable {E : Env} {w : World} {q : HP} {e : TypeId} {size n : Nat} {v : Value} {cs : List Value}
theorem wp_append_row {P : Program} {o : Oper} {a : Act} {K : Act → World → Prop} {Q : Exit → Act → World → Prop} {s x : Operand} {t : TypeId} {z : Value} {bytes : Nat}
    (T : SlTy P t e z size bytes)
    (ho : o.op = .call { callee := .builtin .append, args := #[s, x], argTypes := #[t, t] })
    {A : Option Addr} {m c : Nat} {news : List Value} (hs : a.eval s = v) (hx : a.eval x = .slice A m c)
    (h : Sat E w (row e size v n cs * q)) (hnews : Cells w A news) (hl : news.length = m * size) (h1 : news.all Value.oneCell' = true)
    (h63 : n + m ≤ maxLen) (hbytes : (n + m) * bytes ≤ 140737488355328)
    (hk : ∀ v' w', Sat E w' (row e size v' (n + m) (cs ++ news) * q) → K (a.put o.dst v') w') : o.wp P a w K Q := by
  obtain ⟨i, hi, hz, hsize, hby⟩ := info_parts T.info
  obtain ⟨v', w', hr, h2⟩ := run_append_row (P := P) (ty := o.type) T.under hi hz hsize hby T.cells h A m c news hl hnews (List.all_eq_true.1 h1) h63 hbytes (fun _ => T.pos)
  unfold Oper.wp execOp
  simp only [ho, resolve, invoke, builtin, Sem.run_bind, Sem.run_pure, Result.andThen_ok, List.map_toArray, List.map_cons, List.map_nil, hs, hx, hr]
  exact hk v' w' h2
end
end Go.Proofs.YtnpinegpajbkeaaGreatDoor
namespace Go.Proofs.YtnpinegpajbkeaaGreatDoor
open Go.RowKit HP
theorem dk_fileQ {E : Env} {q : HP} {w : World} {d m : Nat} {room fuse : Int} {es : Array MapEntry} {clock : Nat} {fs : List Fil} (hw : Sat E w (HP.dk d room fuse m es clock fs * q)) {j : Nat} {f : Fil} (hj : fs[j]? = some f) :
    ∃ R0 : HP, Sat E w (HP.row 145 1 f.val f.cels.length (celPtrs f.cels) * (HP.cels f.cels * (R0 * q))) ∧
      ∀ (q' : HP) (w' : World) (cels' : List (Nat × Cel)), cels'.map (·.1) = f.cels.map (·.1) → Sat E w' (HP.row 145 1 f.val f.cels.length (celPtrs f.cels) * (HP.cels cels' * (R0 * q'))) →
        Sat E w' (HP.dk d room fuse m es clock (fs.set j ⟨f.name, f.val, cels'⟩) * q') := by
  have h1 := dk_parts hw
  have h2 : Sat E w (HP.all (fs.map HP.fil) * (HP.dsk d room fuse m * (HP.pt m (.map es clock) * q))) := h1.perm (by ac_rfl)
  rw [all_take (l := fs.map HP.fil) (j := j) (p := HP.fil f) (by rw [List.getElem?_map, hj]; rfl)] at h2
  refine ⟨HP.all ((fs.map HP.fil).eraseIdx j) * (HP.dsk d room fuse m * HP.pt m (.map es clock)), h2.perm (by unfold HP.fil HP.cels Fil.ptrs celPtrs; ac_rfl), fun q' w' cels' hfst h => ?_⟩
  have hjl : j < fs.length := (List.getElem?_eq_some_iff.1 hj).1
  have hlen : cels'.length = f.cels.length := by simpa using congrArg List.length hfst
  unfold HP.dk
  rw [all_take (l := (fs.set j (⟨f.name, f.val, cels'⟩ : Fil)).map HP.fil) (j := j) (p := HP.fil ⟨f.name, f.val, cels'⟩) (by rw [List.getElem?_map, List.getElem?_set]; simp [hjl])]
  rw [List.map_set, List.eraseIdx_set_eq]
  have hp : (⟨f.name, f.val, cels'⟩ : Fil).ptrs = celPtrs f.cels := by
    show cels'.map (fun x => Value.pointer (some ⟨x.1, 0, none⟩)) = _
    unfold celPtrs
    have := congrArg (List.map fun b : Nat => Value.pointer (some ⟨b, 0, none⟩)) hfst
    simpa [List.map_map, Function.comp_def] using this
  have e1 : HP.fil ⟨f.name, f.val, cels'⟩ = HP.row 145 1 f.val f.cels.length (celPtrs f.cels) * HP.cels cels' := by
    unfold HP.fil HP.cels
    rw [hp]
    show HP.row 145 1 f.val cels'.length _ * _ = _
    rw [hlen]
  rw [e1]
  exact h.perm (by ac_rfl)
def crc1 (r : Nat) : Nat := if r % 2 = 1 then r / 2 ^^^ 2197175160 else r / 2
def crcJ : Nat → Nat → Nat
  | 0, r => r
  | k + 1, r => crc1 (crcJ k r)
theorem crc1_lt {r : Nat} (h : r < 4294967296) : crc1 r < 4294967296 := by
  unfold crc1
  split
  · exact xor_lt32 (by omega) (by decide)
  · omega
theorem crcJ_lt {r : Nat} (h : r < 4294967296) : ∀ k, crcJ k r < 4294967296
  | 0 => h
  | k + 1 => crc1_lt (crcJ_lt h k)
theorem xor_half (a b : Nat) : (a ^^^ b) / 2 = a / 2 ^^^ b / 2 := by
  have := Nat.shiftRight_xor_distrib (a := a) (b := b) (i := 1)
  simpa [Nat.shiftRight_succ, Nat.shiftRight_zero] using this
theorem xor_par (a b : Nat) (hb : b % 2 = 0) : (a ^^^ b) % 2 = a % 2 := by
  have h := Nat.xor_mod_two_pow (a := a) (b := b) (n := 1)
  rw [Nat.pow_one, hb, Nat.xor_zero] at h
  exact h
theorem crcQ_two (r : Nat) : crcQ r = crc1 (crc1 r) := by
  have hP : (2197175160 : Nat) % 2 = 0 := by decide
  have hH : (2197175160 : Nat) / 2 = 1098587580 := by decide
  have h4 : r % 4 = 0 ∨ r % 4 = 1 ∨ r % 4 = 2 ∨ r % 4 = 3 := by omega
  unfold crcQ
  rcases h4 with h | h | h | h
  · have e1 : crc1 r = r / 2 := by unfold crc1; rw [if_neg (by omega)]
    have e2 : crc1 (r / 2) = r / 2 / 2 := by unfold crc1; rw [if_neg (by omega)]
    rw [h, e1, e2, Nat.div_div_eq_div_mul]
    show r / 4 ^^^ 0 = _
    rw [Nat.xor_zero]
  · have e1 : crc1 r = r / 2 ^^^ 2197175160 := by unfold crc1; rw [if_pos (by omega)]
    have e0 : (r / 2 ^^^ 2197175160) % 2 = 0 := by rw [xor_par _ _ hP]; omega
    have e2 : crc1 (r / 2 ^^^ 2197175160) = (r / 2 ^^^ 2197175160) / 2 := by unfold crc1; rw [if_neg (by omega)]
    rw [h, e1, e2, xor_half, hH, Nat.div_div_eq_div_mul]
    rfl
  · have e1 : crc1 r = r / 2 := by unfold crc1; rw [if_neg (by omega)]
    have e2 : crc1 (r / 2) = r / 2 / 2 ^^^ 2197175160 := by unfold crc1; rw [if_pos (by omega)]
    rw [h, e1, e2, Nat.div_div_eq_div_mul]
    rfl
  · have e1 : crc1 r = r / 2 ^^^ 2197175160 := by unfold crc1; rw [if_pos (by omega)]
    have e0 : (r / 2 ^^^ 2197175160) % 2 = 1 := by rw [xor_par _ _ hP]; omega
    have e2 : crc1 (r / 2 ^^^ 2197175160) = (r / 2 ^^^ 2197175160) / 2 ^^^ 2197175160 := by unfold crc1; rw [if_pos e0]
    rw [h, e1, e2, xor_half, hH, Nat.div_div_eq_div_mul, Nat.xor_assoc]
    rfl
theorem crcJ_I (r : Nat) : ∀ k, crcJ (2 * k) r = crcI k r
  | 0 => rfl
  | k + 1 => by
    show crc1 (crc1 (crcJ (2 * k) r)) = crcQ (crcI k r)
    rw [crcJ_I r k, crcQ_two]
theorem crcB_bits (r x : Nat) : crcB r x = crcJ 8 (r ^^^ x) := (crcJ_I (r ^^^ x) 4).symm
theorem bit_mask {r : Nat} (h : r < 4294967296) : bits .and .u32 (r : Int) 1 = ((r % 2 : Nat) : Int) := by
  have := u32_and_nat r 1 h (by decide)
  rw [Nat.and_one_is_mod] at this
  exact this
set_option maxHeartbeats 1000000 in
set_option maxRecDepth 100000 in
theorem ref_more (A : Option Addr) (l : List Int) (n c : Nat) (s : Nat) (w : World) (hln : l.length = n) (hs : s < 4294967296) (hl : n ≤ maxLen) (hb : Bytes l) (hc : Cells w A (b8s l)) :
    Calls Tryz.prog 144 #[.int .u32 s, .slice A n c] w fun e w' => e = .returned (.int .u32 (crcMore s l)) ∧ w' = w := by
  have x1 : bits BinOp.xor IntKind.u32 IntKind.u32.max (s : Int) = ((4294967295 ^^^ s : Nat) : Int) := u32_xor_nat 4294967295 s (by decide) hs
  have HX : Aside (4294967295 ^^^ s < 4294967296) := ⟨xor_lt32 (by decide) hs⟩
  obtain ⟨y, hy⟩ : ∃ y, y = 4294967295 ^^^ s := ⟨_, rfl⟩
  have HF : Aside (crcMore s l = 4294967295 ^^^ crcL y l) := ⟨by rw [hy]; rfl⟩
  rw [← hy] at x1 HX
  clear hy
  have HLN := Aside.mk hln
  have hl' : (n : Int) ≤ 9223372036854775807 := by have := hl; unfold maxLen at this; omega
  clear hln
  go_enter Tryz.func144, Tryz.ntmps144
  go_wp2
  go_loopw [5, 13] (fun v5 v13 wr => ∃ k : Nat, k ≤ n ∧ v13 = .int .i64 k ∧ (∃ r : Nat, v5 = .int .u32 r ∧ Aside (r = crcL y (l.take k) ∧ r < 4294967296)) ∧ wr = w) (fun _ i _ => n - (intOf i).toNat)
  case atStart => exact ⟨0, Nat.zero_le _, rfl, ⟨y, rfl, ⟨rfl, HX.out⟩⟩, rfl⟩
  case round =>
    obtain ⟨k, hk, rfl, ⟨r, rfl, HR⟩, rfl⟩ := hrel
    by_cases hlt : k < n
    · have hltl : k < l.length := by rw [HLN.out]; exact hlt
      obtain ⟨a, rfl, hcx⟩ := hc.at_ k (by simpa [b8s] using hltl)
      have hxb := hb _ (List.getElem_mem hltl)
      have HN : Aside (l.take (k + 1) = l.take k ++ [l[k]]) := ⟨List.take_succ_eq_append_getElem hltl⟩
      simp only [b8s, List.getElem_map] at hcx
      obtain ⟨m, hm⟩ := Int.eq_ofNat_of_zero_le hxb.1
      rw [hm] at hcx hxb HN
      have hm8 : m < 256 := by omega
      have x2 : bits .xor .u32 (r : Int) (m : Int) = ((r ^^^ m : Nat) : Int) := u32_xor_nat r m HR.out.2 (by omega)
      have HZ : Aside (r ^^^ m < 4294967296 ∧ crcB r m = crcJ 8 (r ^^^ m)) := ⟨xor_lt32 HR.out.2 (by omega), crcB_bits r m⟩
      obtain ⟨z, hz⟩ : ∃ z, z = r ^^^ m := ⟨_, rfl⟩
      rw [← hz] at x2 HZ
      clear hz hm hxb hb
      obtain ⟨wo, rfl⟩ : ∃ wo : World, wo = wr := ⟨_, rfl⟩
      go_wp2
      go_loopw [5, 21] (fun v5 v21 w2 => ∃ j : Nat, j ≤ 8 ∧ v21 = .int .i64 j ∧ (∃ t : Nat, v5 = .int .u32 t ∧ Aside (t = crcJ j z ∧ t < 4294967296)) ∧ w2 = wo) (fun _ i _ => 8 - (intOf i).toNat)
      case atStart => exact ⟨0, Nat.zero_le _, rfl, ⟨z, rfl, ⟨rfl, HZ.out.1⟩⟩, rfl⟩
      case round =>
        obtain ⟨j, hj, rfl, ⟨t, rfl, HT⟩, rfl⟩ := hrel
        by_cases hj8 : j < 8
        · have hj8I : (j : Int) < 8 := by omega
          have x3 := bit_mask HT.out.2
          have HQ := Aside.mk (crc1_lt HT.out.2)
          have HJ : Aside (crcJ (j + 1) z = crc1 t) := ⟨by rw [HT.out.1]; rfl⟩
          obtain ⟨h, hh⟩ : ∃ h, h = t / 2 := ⟨_, rfl⟩
          have x4 : (t : Int) / 2 = (h : Int) := by omega
          have hh32 : h < 4294967296 := by have := HT.out.2; omega
          have x6 : bits .xor .u32 (h : Int) 2197175160 = ((h ^^^ 2197175160 : Nat) : Int) := u32_xor_nat h 2197175160 hh32 (by decide)
          by_cases ho : t % 2 = 1
          · have HO : Aside (crc1 t = h ^^^ 2197175160) := ⟨by unfold crc1; rw [if_pos ho, hh]⟩
            rw [ho] at x3
            have x5 : bits .and .u32 (t : Int) 1 = 1 := x3
            obtain ⟨t', ht'⟩ : ∃ t', t' = h ^^^ 2197175160 := ⟨_, rfl⟩
            rw [← ht'] at x6 HO
            clear ht' ho x3 hh
            go_wp2
            go_roundw
            case rel => exact ⟨j + 1, by omega, by go_num, ⟨t', rfl, ⟨by rw [HJ.out, HO.out], by rw [← HO.out]; exact HQ.out⟩⟩, trivial⟩
            case measure => simp only [intOf]; omega
          · have ho0 : t % 2 = 0 := by omega
            have HO : Aside (crc1 t = h) := ⟨by unfold crc1; rw [if_neg ho, hh]⟩
            rw [ho0] at x3
            have x5 : bits .and .u32 (t : Int) 1 = 0 := x3
            clear ho ho0 x3 hh
            go_wp2
            go_roundw
            case rel => exact ⟨j + 1, by omega, by go_num, ⟨h, rfl, ⟨by rw [HJ.out, HO.out], hh32⟩⟩, trivial⟩
            case measure => simp only [intOf]; omega
        · have hj8' : j = 8 := by omega
          subst hj8'
          go_wp2
          go_roundw
          case rel =>
            refine ⟨k + 1, by omega, by go_num, ⟨t, rfl, ⟨?_, HT.out.2⟩⟩, trivial⟩
            rw [HN.out, crcL_append, ← HR.out.1, HT.out.1, ← HZ.out.2]
            rfl
          case measure => simp only [intOf]; omega
    · have hk' : k = n := by omega
      have x7 : bits BinOp.xor IntKind.u32 IntKind.u32.max (r : Int) = ((4294967295 ^^^ r : Nat) : Int) := u32_xor_nat 4294967295 r (by decide) HR.out.2
      have HE : Aside (crcMore s l = 4294967295 ^^^ r) := ⟨by rw [HF.out, HR.out.1, hk', ← HLN.out, List.take_length]⟩
      clear hk'
      go_wp2
      go_ret
      rw [HE.out]
      exact ⟨rfl, rfl⟩
set_option maxHeartbeats 1000000 in
set_option maxRecDepth 100000 in
theorem ref_sum (A : Option Addr) (l : List Int) (n c : Nat) (w : World) (hln : l.length = n) (hl : n ≤ maxLen) (hb : Bytes l) (hc : Cells w A (b8s l)) :
    Calls Tryz.prog 113 #[.slice A n c] w fun e w' => e = .returned (.int .u32 (crcSum l)) ∧ w' = w := by
  have HS := Aside.mk (And.intro hln (And.intro hl (And.intro hb hc)))
  clear hln hl hb hc
  go_enter Tryz.func113, Tryz.ntmps113
  go_wp2_with fail
  refine (ref_more A l n c 0 _ HS.out.1 (by decide) HS.out.2.1 HS.out.2.2.1 HS.out.2.2.2).mono ?_
  rintro e w1 ⟨rfl, hw1⟩
  subst w1
  go_wp2
  go_ret
  exact ⟨rfl, rfl⟩
set_option maxHeartbeats 1000000 in
set_option maxRecDepth 100000 in
theorem ref_put (E : Env) (q : HP) (n wd : Nat) (w : World) (hwd : wd ≤ 8) (hn : n < 18446744073709551616) (hw : Sat E w q) :
    Calls Tryz.prog 112 #[.int .u64 n, .int .i64 wd] w fun e w' => ∃ g, e = .returned (.slice (some ⟨g, 0, none⟩) wd wd) ∧ Sat E w' (HP.row 5 1 (.slice (some ⟨g, 0, none⟩) wd wd) wd (b8s (putI n wd)) * q) := by
  have hz : (if (0 : Int) > (wd : Int) then (0 : Int) else wd) = wd := by split <;> omega
  have hm : (if (8 : Int) < (wd : Int) then (8 : Int) else wd) = wd := by split <;> omega
  have HW := Aside.mk hw
  clear hw
  go_enter Tryz.func112, Tryz.ntmps112
  go_wp2_with (first
    | (refine wpList_make_row (n := wd) slB8 rfl rfl rfl rfl rfl HW.out (by unfold maxLen; omega) (by omega) (fun g w2 hw2 => ?_); have HW2 := Aside.mk hw2; clear hw2))
  go_loopw [0, 7] (fun v0 v7 wr => ∃ k : Nat, k ≤ wd ∧ (∃ i : Int, v7 = .int .i64 i ∧ i = (wd : Int) - 1 - k) ∧ (∃ m : Nat, v0 = .int .u64 m ∧ m < 18446744073709551616 ∧ Aside (m = n / 256 ^ k)) ∧ Aside (Sat E wr (HP.row 5 1 (.slice (some ⟨g, 0, none⟩) wd wd) wd (b8s (List.replicate (wd - k) 0 ++ (putI n wd).drop (wd - k))) * q))) (fun _ i _ => (intOf i + 1).toNat)
  case atStart => exact ⟨0, Nat.zero_le _, ⟨_, rfl, by omega⟩, ⟨n, rfl, hn, ⟨by simp⟩⟩, ⟨HW2.out.perm (by rw [Nat.sub_zero, List.drop_of_length_le (by rw [putI_length]; exact Nat.le_refl _), List.append_nil]; unfold b8s; rw [List.map_replicate])⟩⟩
  case round =>
    obtain ⟨k, hk, ⟨i, rfl, hi⟩, ⟨m, rfl, hm64, HM⟩, HS⟩ := hrel
    by_cases hlt : k < wd
    · obtain ⟨t, ht⟩ : ∃ t : Nat, i = (t : Int) := ⟨wd - 1 - k, by omega⟩
      subst ht
      have ht2 : t = wd - 1 - k := by omega
      have htl : t < (b8s (List.replicate (wd - k) 0 ++ (putI n wd).drop (wd - k))).length := by rw [b8s_length, List.length_append, List.length_replicate, List.length_drop, putI_length]; omega
      have f1 := HS.out.row_thaw t htl
      rw [Nat.zero_add] at f1
      have c1 := HS.out.row_cell t _ (List.getElem?_eq_getElem htl)
      rw [Nat.zero_add] at c1
      generalize (b8s (List.replicate (wd - k) 0 ++ (putI n wd).drop (wd - k)))[t] = old at c1
      have hr2 : (m : Int) % 256 = putD n k := by unfold putD; rw [← HM.out]; omega
      have hr1 : (m : Int).tmod 256 = putD n k := by rw [Int.tmod_eq_emod_of_nonneg (by omega)]; exact hr2
      have hpd := putD_byte n k
      obtain ⟨m2, hm2⟩ : ∃ m2 : Nat, m2 = m / 256 := ⟨_, rfl⟩
      have hd2 : (m : Int) / 256 = (m2 : Int) := by omega
      have hd1 : (m : Int).tdiv 256 = (m2 : Int) := by rw [Int.tdiv_eq_ediv_of_nonneg (by omega)]; exact hd2
      have HM2 : Aside (m2 = n / 256 ^ (k + 1)) := ⟨by rw [hm2, HM.out, Nat.div_div_eq_div_mul, Nat.pow_succ]⟩
      have hm264 : m2 < 18446744073709551616 := by omega
      have h1 := HS.out.row_set t htl (.int .u8 (putD n k))
      rw [ht2, put_set n wd k hlt, ← ht2, Nat.zero_add] at h1
      have H1 := Aside.mk h1
      have HI : Aside ((t : Int) - 1 = (wd : Int) - 1 - ((k + 1 : Nat) : Int)) := ⟨by push_cast; omega⟩
      have ht3 : (t : Int) < wd := by omega
      have ht4 : (0 : Int) ≤ t := by omega
      clear h1 htl ht2 hi
      generalize putD n k = pd at *
      clear hm2
      go_wp2
      exact ⟨⟨k + 1, by omega, ⟨_, rfl, HI.out⟩, ⟨m2, rfl, hm264, HM2⟩, ⟨H1.out⟩⟩, by simp only [intOf]; omega⟩
    · have hk' : k = wd := by omega
      subst hk'
      have H1 : Aside (Sat E wr (HP.row 5 1 (.slice (some ⟨g, 0, none⟩) k k) k (b8s (putI n k)) * q)) := ⟨by have := HS.out; rw [Nat.sub_self] at this; exact this⟩
      have hi2 : i = -1 := by omega
      subst hi2
      go_wp2
      go_ret
      exact ⟨g, rfl, H1.out⟩
set_option maxHeartbeats 1000000 in
set_option maxRecDepth 100000 in
theorem ref_get (A : Option Addr) (l : List Int) (n c : Nat) (w : World) (hln : l.length = n) (h0 : 0 < n) (h8 : n ≤ 8) (hb : Bytes l) (hc : Cells w A (b8s l)) :
    Calls Tryz.prog 130 #[.slice A n c] w fun e w' => e = .returned (.tuple #[.int .u64 (getN l), .bool true]) ∧ w' = w := by
  have HL := Aside.mk hln
  clear hln
  have h0' : ¬ (n : Int) < 1 := by omega
  have h8' : ¬ (8 : Int) < (n : Int) := by omega
  go_enter Tryz.func130, Tryz.ntmps130
  go_wp2
  go_loopw [4, 17] (fun v4 v17 wr => ∃ k : Nat, k ≤ n ∧ v17 = .int .i64 k ∧ (∃ r : Nat, v4 = .int .u64 r ∧ Aside (r = getN (l.take k) ∧ r < 256 ^ k)) ∧ wr = w) (fun _ i _ => n - (intOf i).toNat)
  case atStart => exact ⟨0, Nat.zero_le _, rfl, ⟨0, rfl, ⟨rfl, by decide⟩⟩, rfl⟩
  case round =>
    obtain ⟨k, hk, rfl, ⟨r, rfl, HR⟩, rfl⟩ := hrel
    by_cases hlt : k < n
    · have hltl : k < l.length := by rw [HL.out]; exact hlt
      have hlt2 : (k : Int) < n := by omega
      obtain ⟨a, rfl, hcx⟩ := hc.at_ k (by simpa [b8s] using hltl)
      have hxb := hb _ (List.getElem_mem hltl)
      have HN : Aside (l.take (k + 1) = l.take k ++ [l[k]]) := ⟨List.take_succ_eq_append_getElem hltl⟩
      simp only [b8s, List.getElem_map] at hcx
      obtain ⟨m, hm⟩ := Int.eq_ofNat_of_zero_le hxb.1
      rw [hm] at hcx hxb HN
      have hm8 : m < 256 := by omega
      have hr7 : r < 72057594037927936 := Nat.lt_of_lt_of_le HR.out.2 (Nat.le_trans (Nat.pow_le_pow_right (by decide) (show k ≤ 7 by omega)) (by decide))
      have HZ : Aside (r * 256 + m = getN (l.take (k + 1)) ∧ r * 256 + m < 256 ^ (k + 1)) := ⟨by
        rw [HN.out, getN_append_one, ← HR.out.1, Int.toNat_natCast, Nat.pow_succ]
        have := HR.out.2
        omega⟩
      obtain ⟨y, hy⟩ : ∃ y : Nat, y = r * 256 := ⟨_, rfl⟩
      obtain ⟨z, hz⟩ : ∃ z : Nat, z = y + m := ⟨_, rfl⟩
      rw [← hy, ← hz] at HZ
      have x1 : (r : Int) * 256 = (y : Int) := by omega
      have x3 : (y : Int) + (m : Int) = (z : Int) := by omega
      have w1 : IntKind.u64.wrap (y : Int) = (y : Int) := by rw [IntKind.wrap_u64]; omega
      have w2 : IntKind.u64.wrap (z : Int) = (z : Int) := by rw [IntKind.wrap_u64]; omega
      clear hm hxb hltl hy hz HN hr7
      go_wp2
      exact ⟨⟨k + 1, by omega, by push_cast; rfl, ⟨z, rfl, HZ⟩, trivial⟩, by simp only [intOf]; omega⟩
    · have hk' : k = n := by omega
      subst hk'
      have HE : Aside (getN l = r) := ⟨by rw [HR.out.1, ← HL.out, List.take_length]⟩
      go_wp2
      go_ret2
      rw [HE.out]
      exact ⟨rfl, rfl⟩
end Go.Proofs.YtnpinegpajbkeaaGreatDoor
