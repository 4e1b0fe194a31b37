/- Texts of one claim, one behind the other: StF, StMf, CopP, FileQ, WpA, Cop, Laid, Tied, IsArg. -/
import Derived.Test.YtnpinegpajbkeaaDoorOn7
import Derived.LaidMore
import Derived.Stop.Joined
/- stripe.group.at, whole: a slot by the others. -/
namespace Go.Proofs.YtnpinegpajbkeaaDoor
open Go.RowKit HP
set_option linter.unusedSimpArgs false
set_option linter.unusedVariables false

theorem run_index_four (w : World) (G : List Int) (k : Nat) (h : G.length = 424) (hk : k < 4) : (Instr.index 101 (.agg (b8s G).toArray) (.int .i64 (k : Int))).run Tryd.prog w = .ok (.agg (b8s (sec G k)).toArray) w := by
  have e0 : (0 : Int) ≤ (k : Int) ∧ (k : Int) < 4 := by omega
  have e6 : (sizeOf 99).run Tryd.prog w = .ok 106 w := by kernel_rfl
  have e7 : (isAgg 99).run Tryd.prog w = .ok true w := by kernel_rfl
  have e8 : List.take 106 (List.drop (k * 106) (b8s G)) = b8s (sec G k) := by
    unfold sec b8s
    rw [List.map_take, List.map_drop, Nat.mul_comm]
  simp [Instr.index, run_underlying Tryd.underlying101, asIntOf, e0, e6, e7, e8, hk, part]
theorem agFourS : AgTy Tryd.prog 101 424 := ⟨⟨_, Tryd.underlying101, rfl⟩, by kernel_rfl⟩
theorem run_slot_from (w : World) (b s0 : Nat) (h : s0 ≤ 105) : (Instr.sliceAt 99 (.pointer (some ⟨b, 0, none⟩)) (some (.int .i64 (1 + (s0 : Int)))) none none).run Tryd.prog w = .ok (.slice (some ⟨b, (if s0 = 105 then 0 else 1 + s0), none⟩) (105 - s0) (105 - s0)) w := by
  have f2 : 0 ≤ 1 + (s0 : Int) ∧ 1 + (s0 : Int) ≤ 106 := by omega
  have e6 : (sizeOf 5).run Tryd.prog w = .ok 1 w := by kernel_rfl
  have e10 : max (1 + (s0 : Int)) 0 = 1 + (s0 : Int) := by omega
  have e11 : (1 + (s0 : Int)).toNat = 1 + s0 := by omega
  have e12 : 106 - (1 + s0) = 105 - s0 := by omega
  by_cases h5 : s0 = 105
  · subst h5
    simp [Instr.sliceAt, run_underlying Tryd.underlying99, Instr.sureAddr, Instr.sliceBounds, Instr.sliceBound, asIntOf, e6]
  · have e5 : ¬ 106 = 1 + s0 := by omega
    simp [Instr.sliceAt, run_underlying Tryd.underlying99, Instr.sureAddr, Instr.sliceBounds, Instr.sliceBound, asIntOf, f2, e5, e6, e10, e11, e12, h5, Addr.add_lit]
theorem run_slotC {E : Env} {q : HP} {w : World} {g : Nat} {S : List Int} {C : Array Value} (hC : C = (b8s S).toArray) (hS : S.length = 106) (h : Sat E w (HP.pt g (.cells C 99) * q)) : (loadVar 99 ⟨g, 0, none⟩).run Tryd.prog w = .ok (.agg C) w := by
  subst hC
  exact run_load_slot hS h
theorem run_storeC {E : Env} {q : HP} {w : World} {g : Nat} {Z S : List Int} {C : Array Value} (hC : C = (b8s S).toArray) (hS : S.length = 106) (hZ : Z.length = 106) (h : Sat E w (HP.pt g (.cells (b8s Z).toArray 99) * q)) :
    ∃ w', (storeVar 99 ⟨g, 0, none⟩ (.agg C)).run Tryd.prog w = .ok () w' ∧ Sat E w' (HP.pt g (.cells C 99) * q) := by
  subst hC
  exact run_store_slot hZ hS h
set_option maxHeartbeats 8000000 in
set_option maxRecDepth 100000 in
theorem stripe_at (E : Env) (q : HP) (b : Nat) (A : Dk) (x : ByteArray) (gen i : Int) (G : List Int) (R : List Bool) (n k : Nat) (w : World) (hk : k < 4) (hG : Looked A x gen i 4 G R n) (hby : ∀ j, j < 4 → Bytes (slotsL A x gen i j)) (hw : Sat E w (HP.pt b (.cells (gCells G R n).toArray 118) * q)) :
    Calls Tryd.prog 64 #[.pointer (some ⟨b, 0, none⟩), .int .i64 k] w fun e w' => e = .returned (.tuple #[.agg (b8s (atF A x gen i k).1).toArray, .bool (atF A x gen i k).2]) ∧ Sat E w' (HP.pt b (.cells (gCells G R n).toArray 118) * q) := by
  by_cases hp : (slotOf A x gen i k).2 = true ∨ 1 < n
  · have e : atF A x gen i k = atP A x gen i k := by
      unfold atF atP
      by_cases h : (slotOf A x gen i k).2 = true
      · rw [if_pos h, if_pos h]
      · rw [if_neg h, if_neg h, if_pos (by rw [← hG.bad]; exact hp.resolve_left h)]
    rw [e]
    exact stripe_at_plain E q b A x gen i G R n k w hk hG hp hw
  have hr : (slotOf A x gen i k).2 = false := by rw [← Bool.not_eq_true]; exact fun h => hp (.inl h)
  have hn : ¬ 1 < n := fun h => hp (.inr h)
  clear hp
  have HAT : Aside (atF A x gen i k = (missP A x gen i k, decide (k = 3) || fineS (missP A x gen i k))) := ⟨by
    unfold atF
    rw [if_neg (by rw [hr]; decide), if_neg (by rw [← hG.bad]; exact hn)]⟩
  have h0 := hw.alloc (.cells Tryd.zeroCells99 99)
  have g1 : (w.alloc (.cells Tryd.zeroCells99 99)).cell? ⟨b, 424 + k, none⟩ = some (.bool false) := by
    rw [h0.s2.cell (424 + k), ← hr]
    exact gCells_right hG.len (hG.right k hk)
  have g2 : (w.alloc (.cells Tryd.zeroCells99 99)).cell? ⟨b, 428, none⟩ = some (.int .i64 n) := by
    rw [h0.s2.cell 428]
    exact gCells_bad n hG.len hG.rlen
  have hk2 : (k : Int) < 4 := by omega
  have hn2 : ¬ (1 : Int) < (n : Int) := by omega
  have h1 := h0.alloc (.cells Tryd.zeroCells99 99)
  rw [show (w.alloc (.cells Tryd.zeroCells99 99)).heap.size = w.heap.size + 1 by simp] at h1
  have ld4 : (loadVar 101 ⟨b, 0, none⟩).run Tryd.prog ((w.alloc (.cells Tryd.zeroCells99 99)).alloc (.cells Tryd.zeroCells99 99)) = .ok (.agg (b8s G).toArray) ((w.alloc (.cells Tryd.zeroCells99 99)).alloc (.cells Tryd.zeroCells99 99)) :=
    run_loadAgg (P := Tryd.prog) agFourS (by rw [b8s_length]; exact hG.len) (Sat.ptCells (off := 0) (l := b8s G) h1.s3 (by unfold gCells; rw [List.drop_zero, List.take_left]))
  obtain ⟨CG, hCG⟩ : ∃ CG, CG = (gCells G R n).toArray := ⟨_, rfl⟩
  rw [← hCG] at h1 ⊢
  obtain ⟨C4, hC4⟩ : ∃ C4, C4 = (b8s G).toArray := ⟨_, rfl⟩
  have HIX : Aside (∀ (w : World) (j : Nat), j < 4 → (Instr.index 101 (.agg C4) (.int .i64 (j : Int))).run Tryd.prog w = .ok (.agg (b8s (slotsL A x gen i j)).toArray) w) := ⟨fun w j hj => by rw [hC4, run_index_four w G j hG.len hj, hG.slot j hj]; rfl⟩
  rw [← hC4] at ld4
  obtain ⟨Z, hZ⟩ : ∃ Z, Z = Tryd.zeroCells99 := ⟨_, rfl⟩
  have HZ : Aside (Z = (b8s slotZ).toArray) := ⟨by rw [hZ]; exact zero_slot.symm⟩
  have HZ9 := Aside.mk hZ
  rw [← hZ] at h1
  have H1 : Aside (Sat E ((w.alloc (.cells Z 99)).alloc (.cells Z 99)) (HP.pt (w.heap.size + 1) (.cells (b8s (xorO (slotsL A x gen i) k 0)).toArray 99) * (HP.pt w.heap.size (.cells Z 99) * (HP.pt b (.cells CG 118) * q)))) := ⟨by
    show Sat E _ (HP.pt (w.heap.size + 1) (.cells (b8s slotZ).toArray 99) * _)
    rw [← HZ.out]
    exact h1⟩
  have HSLen : Aside (∀ j, (slotsL A x gen i j).length = 106) := ⟨slotsL_length A x gen i⟩
  have HBY := Aside.mk hby
  have HMS : Aside (missP A x gen i k = xorO (slotsL A x gen i) k 4) := ⟨rfl⟩
  generalize missP A x gen i k = M at *
  generalize slotsL A x gen i = SL at *
  clear hG hw h0 h1 hC4 hCG hr hn hby hZ
  rw [HZ9.out] at H1
  go_enter Tryd.func64, Tryd.ntmps64
  go_wp2_with (first | (refine wpList_load_run rfl rfl rfl ld4 ?_))
  rw [← HZ9.out] at H1
  clear g1 g2 ld4
  go_loopw [31] (fun v31 wr => ∃ j : Nat, j ≤ 4 ∧ v31 = .int .i64 j ∧ Aside (Sat E wr (HP.pt (w.heap.size + 1) (.cells (b8s (xorO SL k j)).toArray 99) * (HP.pt w.heap.size (.cells Z 99) * (HP.pt b (.cells CG 118) * q))))) (fun i _ => 4 - (intOf i).toNat)
  case atStart => exact ⟨0, by omega, rfl, ⟨by rw [← HZ9.out]; exact H1.out⟩⟩
  case round =>
    clear H1
    obtain ⟨j, hj, rfl, HS⟩ := hrel
    by_cases hlt : j < 4
    · have hlt2 : (j : Int) < 4 := by omega
      have ix := HIX.out wr j hlt
      have hL := HSLen.out j
      obtain ⟨w3, hr3, h3⟩ := run_store_slot (Z := slotZ) (S := SL j) (List.length_replicate ..) hL (by have h := HS.out.alloc (.cells (b8s slotZ).toArray 99); exact h)
      rw [← HZ.out] at hr3
      have ld3 := run_load_slot hL h3
      have hX := xorO_length HSLen.out k j
      have H3 := Aside.mk (And.intro h3 (And.intro hL hX))
      have HXS : Aside (xorO SL k (j + 1) = if j = k then xorO SL k j else zipX (xorO SL k j) (SL j)) := ⟨rfl⟩
      obtain ⟨X1, hX1⟩ : ∃ X1, X1 = xorO SL k (j + 1) := ⟨_, rfl⟩
      have HX1 := Aside.mk hX1
      rw [← hX1] at HXS
      clear hX1
      generalize xorO SL k j = X0 at *
      obtain ⟨CJ, hCJ⟩ : ∃ CJ, CJ = (b8s (SL j)).toArray := ⟨_, rfl⟩
      have HCJ := Aside.mk hCJ
      rw [← hCJ] at ix hr3 ld3
      rw [HZ9.out] at hr3
      clear h3 hL hX hCJ HS
      by_cases hjk : j = k
      · subst hjk
        rw [if_pos rfl] at HXS
        go_wp2_with (first | (refine wpList_store_run rfl rfl rfl rfl rfl hr3 ?_))
        go_roundw
        case rel => exact ⟨j + 1, by omega, by push_cast; rfl, ⟨by rw [← HX1.out, HXS.out]; exact H3.out.1.right⟩⟩
        case measure => simp [intOf]; omega
      · have hjk2 : ¬ (j : Int) = (k : Int) := by omega
        have hjk3 : ((j : Int) == (k : Int)) = false := by rw [beq_eq_false_iff_ne]; exact hjk2
        rw [if_neg hjk] at HXS
        go_wp2_with (first | (refine wpList_store_run rfl rfl rfl rfl rfl hr3 ?_) | (refine wpList_load_run rfl rfl rfl ld3 ?_))
        rw [HCJ.out]
        refine (stripe_mix E _ (w.heap.size + 1) 0 99 X0 (SL j) _ H3.out.2.1 (by rw [H3.out.2.2]; omega) H3.out.1.s2).mono ?_
        rintro e w5 ⟨rfl, h5⟩
        rw [mix_zip H3.out.2.2 H3.out.2.1, ← HXS.out, HX1.out] at h5
        have H5 := Aside.mk h5.drop2
        clear h5 hr3 ld3
        go_wp2
        go_roundw
        case rel => exact ⟨j + 1, by omega, by push_cast; rfl, H5⟩
        case measure => simp [intOf]; omega
    · obtain rfl : j = 4 := by omega
      have hML : (xorO SL k 4).length = 106 := xorO_length HSLen.out k 4
      have hMB : Bytes (xorO SL k 4) := by
        have h4 : xorO SL k 4 = xorO (fun j => if j < 4 then SL j else List.replicate 106 0) k 4 := xorO_ext k 4 fun j hj _ => by rw [if_pos hj]
        rw [h4]
        refine xorO_bytes (fun j => ?_) k 4
        split
        · rename_i h; exact HBY.out j h
        · exact fun x hx => by rw [List.eq_of_mem_replicate hx]; omega
      rw [← HMS.out] at HS hML hMB
      obtain ⟨S, hSe⟩ : ∃ S, S = M := ⟨_, rfl⟩
      rw [← hSe] at HS hML hMB HAT
      clear hSe HMS HBY HIX HSLen
      have HSL := Aside.mk hML
      obtain ⟨CS, hCS⟩ : ∃ CS, CS = (b8s S).toArray := ⟨_, rfl⟩
      have HCS := Aside.mk hCS
      rw [← hCS, HZ.out] at HS
      by_cases hk3 : k = 3
      · subst hk3
        have ld6 := run_slotC HCS.out HSL.out HS.out
        obtain ⟨w9, hr9, h9⟩ := run_storeC HCS.out HSL.out (List.length_replicate ..) (HS.out.perm (by ac_rfl : _ = HP.pt w.heap.size (.cells (b8s slotZ).toArray 99) * (HP.pt (w.heap.size + 1) (.cells CS 99) * (HP.pt b (.cells CG 118) * q))))
        have rl9 := run_slotC HCS.out HSL.out h9
        have H9 := Aside.mk h9.right.right
        clear h9 hML hMB hCS
        go_wp2_with (first | (refine wpList_load_run rfl rfl rfl ld6 ?_) | (refine wpList_store_run rfl rfl rfl rfl rfl hr9 ?_))
        refine bodyPost_ret (results_ct rfl rfl rl9) rfl ?_
        rw [HAT.out, HCS.out]
        exact ⟨rfl, H9.out⟩
      · have hk32 : ¬ (k : Int) = 3 := by omega
        have hk33 : ((k : Int) == 3) = false := by rw [beq_eq_false_iff_ne]; exact hk32
        have hx0 := getD_byte hMB 0
        have hhd : S.headD 0 = S.getD 0 0 := by cases S <;> rfl
        obtain ⟨s0, hs0⟩ : ∃ s0 : Nat, (s0 : Int) = S.getD 0 0 := ⟨(S.getD 0 0).toNat, by omega⟩
        have hs255 : s0 ≤ 255 := by omega
        have g8 : wr.drew.cell? ⟨(w.heap.size + 1), 0, none⟩ = some (.int .u8 (s0 : Int)) := by rw [HS.out.drew.cell 0, hCS, hs0]; exact b8s_getD (by omega)
        have HSD := Aside.mk HS.out.drew
        have HLD := Aside.mk (run_slotC HCS.out HSL.out HS.out.drew)
        have HFI : Aside (fineS S = (decide (s0 ≤ 105) && (S.drop (1 + s0)).all fun x => decide (x = 0))) := ⟨by
          unfold fineS
          rw [hhd, ← hs0, Int.toNat_natCast]
          congr 1
          exact decide_eq_decide.2 (by omega)⟩
        rw [decide_eq_false hk3, Bool.false_or] at HAT
        clear HS hML hMB hCS hx0 hhd hs0
        by_cases h105 : s0 ≤ 105
        · have h105b : (s0 : Int) ≤ 105 := by omega
          have hmin : (if (105 : Int) < (s0 : Int) then 105 else (s0 : Int)) = (s0 : Int) := by rw [if_neg (by omega)]
          obtain ⟨o2, ho2⟩ : ∃ o2, o2 = (if s0 = 105 then 0 else 1 + s0) := ⟨_, rfl⟩
          have sl := run_slot_from wr.drew (w.heap.size + 1) s0 h105
          rw [← ho2] at sl
          have HTL : Aside ((S.drop (1 + s0)).length = 105 - s0) := ⟨by rw [List.length_drop, HSL.out]; omega⟩
          have HTC : Aside (∀ W', Sat E W' (HP.pt (w.heap.size + 1) (.cells CS 99) * (HP.pt w.heap.size (.cells (b8s slotZ).toArray 99) * (HP.pt b (.cells CG 118) * q))) → Cells W' (some ⟨w.heap.size + 1, o2, none⟩) (b8s (S.drop (1 + s0)))) := ⟨fun W' h => by
            by_cases h5 : s0 = 105
            · rw [List.drop_of_length_le (by rw [HSL.out]; omega)]
              exact Cells.nil _ _
            · rw [ho2, if_neg h5]
              rw [HCS.out] at h
              exact Sat.ptCells (off := 1 + s0) (l := b8s (S.drop (1 + s0))) h (by unfold b8s; rw [List.length_map, ← List.map_drop, List.take_of_length_le (by rw [List.length_map]; exact Nat.le_refl _)])⟩
          clear ho2
          go_wp2
          refine region_R [12, 16] [12] (fun W => (loadVar 99 ⟨w.heap.size + 1, 0, none⟩).run Tryd.prog W = .ok (.agg CS) W) #[false, false, false, false, false, false, false, false, false, false, false, false, false, false, false, false, false, false] (by kernel_rfl) rfl rfl ?_
          refine wpR_held (i := 0) (v := .agg CS) #[true, false, false, false, false, false, false, false, false, false, false, false, false, false, false, false, false, false] rfl onlyN_noPanic (by kernel_rfl) HLD.out (.inl ⟨rfl, fun w' hT => exec_load rfl rfl hT⟩) ?_
          simp only [Act.put, List.setIfInBounds_toArray, List.set_cons_zero, List.set_cons_succ]
          refine wpR_rd 1 #[true, true, false, false, false, false, false, false, false, false, false, false, false, false, false, false, false, false] rfl onlyN_noPanic (by kernel_rfl) (fun K hK => ?_); (go_simp; try go_bits); refine hK _ ?_; clear hK K
          refine wpR_rd 2 #[true, true, true, false, false, false, false, false, false, false, false, false, false, false, false, false, false, false] rfl onlyN_noPanic (by kernel_rfl) (fun K hK => ?_); (go_simp; try go_bits); refine hK _ ?_; clear hK K
          refine wpR_rd 3 #[true, true, true, true, false, false, false, false, false, false, false, false, false, false, false, false, false, false] rfl onlyN_noPanic (by kernel_rfl) (fun K hK => ?_); (go_simp; try go_bits); refine hK _ ?_; clear hK K
          refine wpR_rd 4 #[true, true, true, true, true, false, false, false, false, false, false, false, false, false, false, false, false, false] rfl onlyN_noPanic (by kernel_rfl) (fun K hK => ?_); (go_simp; try go_bits); refine hK _ ?_; clear hK K
          refine wpR_rd 5 #[true, true, true, true, true, true, false, false, false, false, false, false, false, false, false, false, false, false] rfl onlyN_noPanic (by kernel_rfl) (fun K hK => ?_); (go_simp; try go_bits); refine hK _ ?_; clear hK K
          refine wpR_rd 6 #[true, true, true, true, true, true, true, false, false, false, false, false, false, false, false, false, false, false] rfl onlyN_noPanic (by kernel_rfl) (fun K hK => ?_); (go_simp; try go_bits); refine hK _ ?_; clear hK K
          refine wpR_rd 7 #[true, true, true, true, true, true, true, true, false, false, false, false, false, false, false, false, false, false] rfl onlyN_noPanic (by kernel_rfl) (fun K hK => ?_); (go_simp; try go_bits); refine hK _ ?_; clear hK K
          refine wpR_rd 8 #[true, true, true, true, true, true, true, true, true, false, false, false, false, false, false, false, false, false] rfl onlyN_noPanic (by kernel_rfl) (fun K hK => ?_); (go_simp; try go_bits); refine hK _ ?_; clear hK K
          refine wpR_rd 9 #[true, true, true, true, true, true, true, true, true, true, false, false, false, false, false, false, false, false] rfl onlyN_noPanic (by kernel_rfl) (fun K hK => ?_); (go_simp; try go_bits); refine hK _ ?_; clear hK K
          refine wpR_rd 10 #[true, true, true, true, true, true, true, true, true, true, true, false, false, false, false, false, false, false] rfl onlyN_noPanic (by kernel_rfl) (fun K hK => ?_); (go_simp; try go_bits); refine hK _ ?_; clear hK K
          refine wpR_rd 11 #[true, true, true, true, true, true, true, true, true, true, true, true, false, false, false, false, false, false] rfl onlyN_noPanic (by kernel_rfl) (fun K hK => ?_); (go_simp; try go_bits); refine hK _ ?_; clear hK K
          refine wpR_keep #[true, true, true, true, true, true, true, true, true, true, true, true, true, false, false, false, false, false] (i := 12) rfl (by kernel_rfl) (fun K hK => ?_)
          go_simp
          refine (trim0_ok E _ (w.heap.size + 1) o2 (S.drop (1 + s0)) (105 - s0) (105 - s0) _ HTL.out (Nat.le_refl _) (by omega) HTC.out HSD.out).mono ?_
          rintro e wt ⟨⟨At, rt, dt, rfl, hrt⟩, ht⟩
          have HRT := Aside.mk hrt
          have HT0 := Aside.mk ht
          refine hK _ _ (run_slotC HCS.out HSL.out ht) ?_
          clear hK K ht hrt g8 sl HSD
          rcases Nat.eq_zero_or_pos rt with hz | hz
          · subst hz
            refine wpR_pu 13 #[true, true, true, true, true, true, true, true, true, true, true, true, true, true, false, false, false, false] rfl onlyN_noPanic (by kernel_rfl) (fun K hK => ?_); (go_simp; try go_bits); refine hK _ ?_; clear hK K
            refine wpR_pu 14 #[true, true, true, true, true, true, true, true, true, true, true, true, true, true, true, false, false, false] rfl onlyN_noPanic (by kernel_rfl) (fun K hK => ?_); (go_simp; try go_bits); refine hK _ ?_; clear hK K
            refine wpR_pu 15 #[true, true, true, true, true, true, true, true, true, true, true, true, true, true, true, true, false, false] rfl onlyN_noPanic (by kernel_rfl) (fun K hK => ?_); (go_simp; try go_bits); refine hK _ ?_; clear hK K
            refine wpR_eff #[true, true, true, true, true, true, true, true, true, true, true, true, true, true, true, true, true, false] (i := 16) rfl (by kernel_rfl) (fun K hK => ?_)
            obtain ⟨w9, hr9, h9⟩ := run_storeC HCS.out HSL.out (List.length_replicate ..) (HT0.out.perm (by ac_rfl : _ = HP.pt w.heap.size (.cells (b8s slotZ).toArray 99) * (HP.pt (w.heap.size + 1) (.cells CS 99) * (HP.pt b (.cells CG 118) * q))))
            have HR9 := Aside.mk h9.drop2
            have rl9 := run_slotC HCS.out HSL.out h9
            clear h9
            refine Eq.mpr (if_pos (by rfl)) ?_; refine wp_store_run rfl rfl rfl rfl hr9 ?_; refine hK _ _ ?_; clear hK K hr9
            refine wpR_rd 17 #[true, true, true, true, true, true, true, true, true, true, true, true, true, true, true, true, true, true] rfl onlyN_noPanic (by kernel_rfl) (fun K hK => ?_); (go_simp; try go_bits); refine hK _ ?_; clear hK K
            refine wpR_done (by kernel_rfl) ?_ _
            simp only [OnlyN]
            have hall : ((S.drop (1 + s0)).all fun x => decide (x = 0)) = true := by rw [List.all_eq_true]; exact fun x hx => decide_eq_true (HRT.out.1 rfl x hx)
            go_wp2
            refine bodyPost_ret (results_ct rfl rfl rl9) rfl ?_
            rw [HAT.out, HFI.out, decide_eq_true h105, hall, HCS.out]
            exact ⟨rfl, HR9.out.right⟩
          · have hz2 : ¬ (rt : Int) = 0 := by omega
            have hz3 : ((rt : Int) == 0) = false := by rw [beq_eq_false_iff_ne]; exact hz2
            refine wpR_pu 13 #[true, true, true, true, true, true, true, true, true, true, true, true, true, true, false, false, false, false] rfl onlyN_noPanic (by kernel_rfl) (fun K hK => ?_); (go_simp; try go_bits); refine hK _ ?_; clear hK K
            refine wpR_pu 14 #[true, true, true, true, true, true, true, true, true, true, true, true, true, true, true, false, false, false] rfl onlyN_noPanic (by kernel_rfl) (fun K hK => ?_); (go_simp; try go_bits); refine hK _ ?_; clear hK K
            refine wpR_pu 15 #[true, true, true, true, true, true, true, true, true, true, true, true, true, true, true, true, false, false] rfl onlyN_noPanic (by kernel_rfl) (fun K hK => ?_); (go_simp; try go_bits); refine hK _ ?_; clear hK K
            refine wpR_eff #[true, true, true, true, true, true, true, true, true, true, true, true, true, true, true, true, true, false] (i := 16) rfl (by kernel_rfl) (fun K hK => ?_)
            obtain ⟨w9, hr9, h9⟩ := run_storeC HCS.out HSL.out (List.length_replicate ..) (HT0.out.perm (by ac_rfl : _ = HP.pt w.heap.size (.cells (b8s slotZ).toArray 99) * (HP.pt (w.heap.size + 1) (.cells CS 99) * (HP.pt b (.cells CG 118) * q))))
            have HR9 := Aside.mk h9.drop2
            have rl9 := run_slotC HCS.out HSL.out h9
            clear h9
            refine Eq.mpr (if_pos (by rfl)) ?_; refine wp_store_run rfl rfl rfl rfl hr9 ?_; refine hK _ _ ?_; clear hK K hr9
            refine wpR_rd 17 #[true, true, true, true, true, true, true, true, true, true, true, true, true, true, true, true, true, true] rfl onlyN_noPanic (by kernel_rfl) (fun K hK => ?_); (go_simp; try go_bits); refine hK _ ?_; clear hK K
            refine wpR_done (by kernel_rfl) ?_ _
            simp only [OnlyN]
            have hall : ((S.drop (1 + s0)).all fun x => decide (x = 0)) = false := by rw [← Bool.not_eq_true, List.all_eq_true]; exact fun h => absurd (HRT.out.2 fun x hx => of_decide_eq_true (h x hx)) (by omega)
            go_wp2
            refine bodyPost_ret (results_ct rfl rfl rl9) rfl ?_
            rw [HAT.out, HFI.out, decide_eq_true h105, hall, HCS.out]
            exact ⟨rfl, HR9.out.right⟩
        · have h105b : ¬ (s0 : Int) ≤ 105 := by omega
          have h105c : ((s0 : Int) ≤ 105) = False := eq_false h105b
          have h105d : decide ((s0 : Int) ≤ 105) = false := decide_eq_false h105b
          go_wp2
          refine region_R [12, 16] [12] (fun W => (loadVar 99 ⟨w.heap.size + 1, 0, none⟩).run Tryd.prog W = .ok (.agg CS) W) #[false, false, false, false, false, false, false, false, false, false, false, false, false, false, false, false, false, false] (by kernel_rfl) rfl rfl ?_
          refine wpR_held (i := 0) (v := .agg CS) #[true, false, false, false, false, false, false, false, false, false, false, false, false, false, false, false, false, false] rfl onlyN_noPanic (by kernel_rfl) HLD.out (.inl ⟨rfl, fun w' hT => exec_load rfl rfl hT⟩) ?_
          simp only [Act.put, List.setIfInBounds_toArray, List.set_cons_zero, List.set_cons_succ]
          refine wpR_rd 1 #[true, true, false, false, false, false, false, false, false, false, false, false, false, false, false, false, false, false] rfl onlyN_noPanic (by kernel_rfl) (fun K hK => ?_); (go_simp; try go_bits); refine hK _ ?_; clear hK K
          refine wpR_rd 2 #[true, true, true, false, false, false, false, false, false, false, false, false, false, false, false, false, false, false] rfl onlyN_noPanic (by kernel_rfl) (fun K hK => ?_); (go_simp; try go_bits); refine hK _ ?_; clear hK K
          refine wpR_rd 3 #[true, true, true, true, false, false, false, false, false, false, false, false, false, false, false, false, false, false] rfl onlyN_noPanic (by kernel_rfl) (fun K hK => ?_); (go_simp; try go_bits); refine hK _ ?_; clear hK K
          refine wpR_rd 4 #[true, true, true, true, true, false, false, false, false, false, false, false, false, false, false, false, false, false] rfl onlyN_noPanic (by kernel_rfl) (fun K hK => ?_); (go_simp; try go_bits); refine hK _ ?_; clear hK K
          refine wpR_rd 5 #[true, true, true, true, true, true, false, false, false, false, false, false, false, false, false, false, false, false] rfl onlyN_noPanic (by kernel_rfl) (fun K hK => ?_); (go_simp; try go_bits); refine hK _ ?_; clear hK K
          refine wpR_rd 6 #[true, true, true, true, true, true, true, false, false, false, false, false, false, false, false, false, false, false] rfl onlyN_noPanic (by kernel_rfl) (fun K hK => ?_); (go_simp; try go_bits); refine hK _ ?_; clear hK K
          refine wpR_rd 7 #[true, true, true, true, true, true, true, true, false, false, false, false, false, false, false, false, false, false] rfl onlyN_noPanic (by kernel_rfl) (fun K hK => ?_); (go_simp; try go_bits); refine hK _ ?_; clear hK K
          refine wpR_rd 8 #[true, true, true, true, true, true, true, true, true, false, false, false, false, false, false, false, false, false] rfl onlyN_noPanic (by kernel_rfl) (fun K hK => ?_); (go_simp; try go_bits); refine hK _ ?_; clear hK K
          refine wpR_rd 9 #[true, true, true, true, true, true, true, true, true, true, false, false, false, false, false, false, false, false] rfl onlyN_noPanic (by kernel_rfl) (fun K hK => ?_); (go_simp; try go_bits); refine hK _ ?_; clear hK K
          refine wpR_rd 10 #[true, true, true, true, true, true, true, true, true, true, true, false, false, false, false, false, false, false] rfl onlyN_noPanic (by kernel_rfl) (fun K hK => ?_); (go_simp; try go_bits); refine hK _ ?_; clear hK K
          refine wpR_rd 11 #[true, true, true, true, true, true, true, true, true, true, true, true, false, false, false, false, false, false] rfl onlyN_noPanic (by kernel_rfl) (fun K hK => ?_); (go_simp; try go_bits); refine hK _ ?_; clear hK K
          refine wpR_keep #[true, true, true, true, true, true, true, true, true, true, true, true, true, false, false, false, false, false] (i := 12) rfl (by kernel_rfl) (fun K hK => ?_)
          go_simp
          refine hK _ _ HLD.out ?_
          clear hK K
          refine wpR_pu 13 #[true, true, true, true, true, true, true, true, true, true, true, true, true, true, false, false, false, false] rfl onlyN_noPanic (by kernel_rfl) (fun K hK => ?_); (go_simp; try go_bits); refine hK _ ?_; clear hK K
          refine wpR_pu 14 #[true, true, true, true, true, true, true, true, true, true, true, true, true, true, true, false, false, false] rfl onlyN_noPanic (by kernel_rfl) (fun K hK => ?_); (go_simp; try go_bits); refine hK _ ?_; clear hK K
          refine wpR_pu 15 #[true, true, true, true, true, true, true, true, true, true, true, true, true, true, true, true, false, false] rfl onlyN_noPanic (by kernel_rfl) (fun K hK => ?_); (go_simp; try go_bits); refine hK _ ?_; clear hK K
          refine wpR_eff #[true, true, true, true, true, true, true, true, true, true, true, true, true, true, true, true, true, false] (i := 16) rfl (by kernel_rfl) (fun K hK => ?_)
          obtain ⟨w9, hr9, h9⟩ := run_storeC HCS.out HSL.out (List.length_replicate ..) (HSD.out.perm (by ac_rfl : _ = HP.pt w.heap.size (.cells (b8s slotZ).toArray 99) * (HP.pt (w.heap.size + 1) (.cells CS 99) * (HP.pt b (.cells CG 118) * q))))
          have HR9 := Aside.mk h9.drop2
          have rl9 := run_slotC HCS.out HSL.out h9
          clear h9
          refine Eq.mpr (if_pos (by rfl)) ?_; refine wp_store_run rfl rfl rfl rfl hr9 ?_; refine hK _ _ ?_; clear hK K hr9
          refine wpR_rd 17 #[true, true, true, true, true, true, true, true, true, true, true, true, true, true, true, true, true, true] rfl onlyN_noPanic (by kernel_rfl) (fun K hK => ?_); (go_simp; try go_bits); refine hK _ ?_; clear hK K
          refine wpR_done (by kernel_rfl) ?_ _
          simp only [OnlyN]
          go_wp2
          refine bodyPost_ret (results_ct rfl rfl rl9) rfl ?_
          rw [HAT.out, HFI.out, decide_eq_false h105, HCS.out]
          exact ⟨rfl, HR9.out.right⟩
end Go.Proofs.YtnpinegpajbkeaaDoor
/- stripe.Mend, whole. -/
namespace Go.Proofs.YtnpinegpajbkeaaDoor
open Go.RowKit HP
set_option linter.unusedSimpArgs false
set_option linter.unusedVariables false

set_option maxHeartbeats 4000000 in
set_option maxRecDepth 100000 in
theorem stripe_mend_arg (E : Env) (q : HP) (d : Nat) (A : Dk) (name : ByteArray) (gen i : Int) (w : World) (hi64 : wf64 i) (hi : i < 0 ∨ 2147483647 < i) (hw : Sat E w (HP.disk d A * q)) :
    Calls Tryd.prog 23 #[.pointer (some ⟨d, 0, none⟩), .string name, .int .i64 gen, .int .i64 i] w fun e w' => e = .returned (.tuple #[.bool false, .int .i64 1]) ∧ Sat E w' (HP.disk d A * q) := by
  have H := Aside.mk hw
  have hd : i < 0 ∨ (¬ i < 0 ∧ 2147483647 < i) := by omega
  clear hw hi
  rcases hd with h0 | ⟨h0, h1⟩
  all_goals
    go_enter Tryd.func23, Tryd.ntmps23
    go_wp2_with fail
    refine (stripe_none E q d A _ H.out).mono ?_
    rintro e w1 ⟨rfl, h1⟩
    have H1 := Aside.mk h1
    clear h1
    go_wp2
    go_ret2
    exact ⟨rfl, H1.out⟩
set_option maxHeartbeats 8000000 in
set_option maxRecDepth 100000 in
theorem stripe_mend (E : Env) (q : HP) (d : Nat) (A : Dk) (name : ByteArray) (gen i : Int) (w : World) (hname : name.size + 2 ≤ maxLen) (hi64 : wf64 i) (hby : ∀ k, k < 4 → ∀ (i : Int) c, A.cel (stripeF name k) i = some c → Bytes c.read)
    (hq : ∀ w, Sat E w q → Quarter w) (hw : Sat E w (HP.disk d A * q)) :
    Calls Tryd.prog 23 #[.pointer (some ⟨d, 0, none⟩), .string name, .int .i64 gen, .int .i64 i] w fun e w' => e = .returned (.tuple #[.bool (mendS A name gen i).1.1, .int .i64 (mendS A name gen i).1.2]) ∧ Sat E w' (HP.disk d (mendS A name gen i).2 * q) := by
  by_cases hi : i < 0 ∨ 2147483647 < i
  · have e : mendS A name gen i = ((false, 1), A) := by unfold mendS; rw [if_pos hi]
    rw [e]
    exact stripe_mend_arg E q d A name gen i w hi64 hi hw
  have HM : Aside (mendS A name gen i = mendK A name gen i (firstBad A name gen i)) := ⟨by unfold mendS; rw [if_neg hi]⟩
  generalize mendS A name gen i = RES at *
  have hbs : ∀ j, j < 4 → Bytes (slotsL A name gen i j) := fun j hj => readS_byt (hby j hj i)
  have HQ := Aside.mk (And.intro hq (And.intro hby (And.intro hbs (And.intro hw hname))))
  have i0 : ¬ i < 0 := fun h => hi (.inl h)
  have i1 : ¬ 2147483647 < i := fun h => hi (.inr h)
  clear hq hby hbs hw hname hi
  go_enter Tryd.func23, Tryd.ntmps23
  go_wp2_with fail
  refine (stripe_none E q d A _ HQ.out.2.2.2.1).mono ?_
  rintro e w1 ⟨rfl, h1⟩
  have H1 := Aside.mk h1
  clear h1
  go_wp2_with fail
  refine (stripe_look E q d A name gen i _ HQ.out.2.2.2.2 (fun k hk c => HQ.out.2.1 k hk _ c) HQ.out.1 H1.out).mono ?_
  intro e w3 h3
  obtain ⟨G, R, n, rfl, hG, h3⟩ := h3
  have h4 := h3.alloc (.cells Tryd.zeroCells118 118)
  obtain ⟨w5, hr5, h5⟩ := run_store_grp (n := n) hG.len hG.rlen h4
  have H5 := Aside.mk (And.intro h5 hG)
  obtain ⟨C, hC⟩ : ∃ C, C = (gCells G R n).toArray := ⟨_, rfl⟩
  rw [← hC] at hr5 ⊢
  clear h3 h4 h5 hG hC H1
  go_wp2_with (first | (refine wpList_store_run rfl rfl rfl rfl rfl hr5 ?_))
  refine (stripe_names E _ name _ HQ.out.2.2.2.2 H5.out.1).mono ?_
  rintro e w6 ⟨rfl, h6⟩
  obtain ⟨fa, hfae⟩ : ∃ fa, fa = name ++ dot0 := ⟨_, rfl⟩
  obtain ⟨fb, hfbe⟩ : ∃ fb, fb = name ++ dot1 := ⟨_, rfl⟩
  obtain ⟨fc, hfce⟩ : ∃ fc, fc = name ++ dot2 := ⟨_, rfl⟩
  obtain ⟨fd, hfde⟩ : ∃ fd, fd = name ++ dotP := ⟨_, rfl⟩
  have HF : Aside ((fa.size ≤ maxLen ∧ fb.size ≤ maxLen ∧ fc.size ≤ maxLen ∧ fd.size ≤ maxLen) ∧ stripeF name 0 = fa ∧ stripeF name 1 = fb ∧ stripeF name 2 = fc ∧ stripeF name 3 = fd) := ⟨by
    have h := dot_size name
    have hn := HQ.out.2.2.2.2
    rw [hfae, hfbe, hfce, hfde]
    exact ⟨⟨by rw [h.1]; exact hn, by rw [h.2.1]; exact hn, by rw [h.2.2.1]; exact hn, by rw [h.2.2.2]; exact hn⟩, rfl, rfl, rfl, rfl⟩⟩
  rw [← hfae, ← hfbe, ← hfce, ← hfde]
  have i0 : ∀ w, (Instr.index 103 (.agg #[.string fa, .string fb, .string fc, .string fd]) (.int .i64 0)).run Tryd.prog w = .ok (.string fa) w := fun w => by kernel_rfl
  have i1 : ∀ w, (Instr.index 103 (.agg #[.string fa, .string fb, .string fc, .string fd]) (.int .i64 1)).run Tryd.prog w = .ok (.string fb) w := fun w => by kernel_rfl
  have i2 : ∀ w, (Instr.index 103 (.agg #[.string fa, .string fb, .string fc, .string fd]) (.int .i64 2)).run Tryd.prog w = .ok (.string fc) w := fun w => by kernel_rfl
  have i3 : ∀ w, (Instr.index 103 (.agg #[.string fa, .string fb, .string fc, .string fd]) (.int .i64 3)).run Tryd.prog w = .ok (.string fd) w := fun w => by kernel_rfl
  clear hfae hfbe hfce hfde
  have H6 := Aside.mk (And.intro h6 H5.out.2)
  clear h6 H5 hr5
  obtain ⟨bG, hbG⟩ : ∃ bG, bG = w3.heap.size := ⟨_, rfl⟩
  rw [← hbG] at H6 ⊢
  clear hbG
  go_wp2
  go_loopw [34] (fun v34 wr => ∃ k : Nat, k ≤ 4 ∧ v34 = .int .i64 k ∧ Aside (∀ j, j < k → (slotOf A name gen i j).2 = true) ∧ Aside (Sat E wr (HP.pt bG (.cells (gCells G R n).toArray 118) * (HP.disk d A * q)))) (fun i _ => 4 - (intOf i).toNat)
  case atStart => exact ⟨0, by omega, rfl, ⟨fun j h => by omega⟩, ⟨H6.out.1⟩⟩
  case round =>
    obtain ⟨k, hk, rfl, HR, HS⟩ := hrel
    by_cases hlt : k < 4
    · obtain ⟨f, hf, hff, hix⟩ : ∃ f : ByteArray, f.size ≤ maxLen ∧ stripeF name k = f ∧ ∀ w, (Instr.index 103 (.agg #[.string fa, .string fb, .string fc, .string fd]) (.int .i64 (k : Int))).run Tryd.prog w = .ok (.string f) w := by
        have hc : k = 0 ∨ k = 1 ∨ k = 2 ∨ k = 3 := by omega
        rcases hc with h0 | h0 | h0 | h0 <;> subst h0
        · exact ⟨fa, HF.out.1.1, HF.out.2.1, i0⟩
        · exact ⟨fb, HF.out.1.2.1, HF.out.2.2.1, i1⟩
        · exact ⟨fc, HF.out.1.2.2.1, HF.out.2.2.2.1, i2⟩
        · exact ⟨fd, HF.out.1.2.2.2, HF.out.2.2.2.2, i3⟩
      have hlt2 : (k : Int) < 4 := by omega
      have hG := H6.out.2
      have g2 : wr.cell? ⟨bG, 424 + k, none⟩ = some (.bool (slotOf A name gen i k).2) := by
        rw [HS.out.cell (424 + k)]
        exact gCells_right hG.len (hG.right k hlt)
      have HAT := Aside.mk (stripe_at E (HP.disk d A * q) bG A name gen i G R n k wr hlt hG HQ.out.2.2.1 HS.out)
      have HFF := Aside.mk (And.intro hf hff)
      clear i0 i1 i2 i3 hG hf hff
      by_cases hr : (slotOf A name gen i k).2 = true
      · rw [hr] at g2
        have HR2 : Aside (∀ j, j < k + 1 → (slotOf A name gen i j).2 = true) := ⟨fun j hj => by
          by_cases e : j = k
          · rw [e]; exact hr
          · exact HR.out j (by omega)⟩
        clear hr HAT HR HFF
        go_wp2
        go_roundw
        case rel => exact ⟨k + 1, by omega, by push_cast; rfl, HR2, HS⟩
        case measure => simp [intOf]; omega
      · rw [Bool.not_eq_true] at hr
        rw [hr] at g2
        have hfb := firstBad_at hlt HR.out hr
        have hM := HM.out
        rw [hfb] at hM
        unfold mendK at hM
        dsimp only at hM
        have hAm := atF_miss hlt hr
        have hSl := atF_length A name gen i k
        have hSb := atF_byt hlt HQ.out.2.2.1
        obtain ⟨S, ok, hat⟩ : ∃ S ok, atF A name gen i k = (S, ok) := ⟨_, _, rfl⟩
        rw [hat] at HAT hM hAm hSl hSb
        dsimp only at HAT hM hAm hSl hSb
        clear hr hfb hat HR HS HM
        go_wp2_with fail
        refine HAT.out.mono ?_
        rintro e w7 ⟨rfl, h7⟩
        obtain ⟨w8, hr8, h8⟩ := run_store_zero hSl (h7.right.alloc (.cells Tryd.zeroCells99 99))
        have ld8 := run_load_slot hSl h8
        have H8 := Aside.mk h8
        obtain ⟨CS, hCS⟩ : ∃ CS, CS = (b8s S).toArray := ⟨_, rfl⟩
        rw [← hCS] at hr8 ld8 ⊢
        have HCS := Aside.mk hCS
        clear h7 h8 HAT hCS
        cases ok with
        | false =>
          rw [if_neg (by decide)] at hM
          have HM2 := Aside.mk hM
          clear hM hAm hSb
          go_wp2_with (first | (refine wpList_store_run rfl rfl rfl rfl rfl hr8 ?_))
          go_ret2
          rw [HM2.out]
          exact ⟨rfl, H8.out.right⟩
        | true =>
          rw [if_pos rfl] at hM
          obtain ⟨⟨hg0, hg1⟩, hh5⟩ := hAm rfl
          obtain ⟨gn, rfl⟩ : ∃ gn : Nat, gen = gn := ⟨gen.toNat, by omega⟩
          obtain ⟨ni, rfl⟩ : ∃ ni : Nat, i = ni := ⟨i.toNat, by omega⟩
          rw [Int.toNat_natCast, Int.toNat_natCast, HFF.out.2] at hM
          have HM2 := Aside.mk hM
          have HHD : Aside (k ≠ 3 → 0 ≤ S.headD 0 ∧ S.headD 0 ≤ 105) := ⟨fun hk3 => ⟨by
            cases S with
            | nil => exact Int.le_refl _
            | cons a l => exact (hSb a (List.mem_cons_self ..)).1, hh5 hk3⟩⟩
          have HSB := Aside.mk (And.intro hSl hSb)
          clear hM hAm hh5 hSb hSl
          go_wp2_with (first | (refine wpList_store_run rfl rfl rfl rfl rfl hr8 ?_) | (refine wpList_load_run rfl rfl rfl ld8 ?_))
          rw [HCS.out]
          refine (stripe_payload E _ k S w8 hlt HSB.out.1 HHD.out H8.out).mono ?_
          intro e w9 h9
          obtain ⟨Ap, cp, m, R9, rfl, hm, hm6, hmc, hcm, h9, hx9⟩ := h9
          have hpb : Bytes (payI k S) := fun x hx => by
            unfold payI at hx
            split at hx
            · exact HSB.out.2 x hx
            · exact HSB.out.2 x (List.mem_of_mem_drop (List.mem_of_mem_take hx))
          obtain ⟨p, hpe⟩ : ∃ p, p = payI k S := ⟨_, rfl⟩
          rw [← hpe] at hm hx9 hpb HM2
          have H9 := Aside.mk (And.intro h9 (And.intro hx9 (And.intro hm hpb)))
          clear h9 hx9 hpe hm hpb hr8 ld8 g2
          go_wp2_with fail
          refine (ext_frame E _ f ni gn Ap p m cp _ HFF.out.1 (by omega) hg1 H9.out.2.2.1 hm6 H9.out.2.2.2 (fun w h => ⟨HQ.out.1 _ h.right.right.right, H9.out.2.1 _ _ h⟩) H9.out.1).mono ?_
          rintro e w10 ⟨gx, rfl, h10⟩
          have H10 : Aside (Sat E w10 (HP.disk d A * (HP.pt gx (.cells (b8s (extI f ni gn p)).toArray 136) * (R9 * (HP.pt w7.heap.size (.cells (b8s S).toArray 99) * q))))) := ⟨h10.perm (by ac_rfl)⟩
          clear h10
          go_wp2_with fail
          refine (disk_write E _ d A f ni (some ⟨gx, 0, none⟩) (extI f ni gn p) 128 128 _ HFF.out.1 (extI_length (by rw [H9.out.2.2.1]; exact hm6)) (by decide) (fun w h => Sat.ptCells (off := 0) (l := b8s (extI f ni gn p)) h (by rw [List.drop_zero, List.take_length])) H10.out).mono ?_
          rintro e w11 ⟨rfl, h11⟩
          unfold mend1 at HM2
          obtain ⟨c1, A1, hA1⟩ : ∃ c1 A1, A.write f ni (extI f ni gn p) = (c1, A1) := ⟨_, _, rfl⟩
          rw [hA1] at h11 HM2 ⊢
          dsimp only at h11 HM2 ⊢
          have H11 := Aside.mk h11
          clear h11 hA1
          by_cases hc1 : c1 = 0
          · subst hc1
            rw [if_pos rfl] at HM2
            go_wp2_with fail
            refine (disk_sync E _ d A1 f _ HFF.out.1 H11.out).mono ?_
            rintro e w12 ⟨rfl, h12⟩
            obtain ⟨c2, A2, hA2⟩ : ∃ c2 A2, A1.sync f = (c2, A2) := ⟨_, _, rfl⟩
            rw [hA2] at h12 HM2 ⊢
            dsimp only at h12 HM2 ⊢
            have H12 := Aside.mk (And.intro h12 HM2.out)
            clear h12 hA2 HM2
            by_cases hc2 : c2 = 0
            · subst hc2
              go_wp2
              go_ret2
              rw [H12.out.2]
              exact ⟨rfl, (H12.out.1.perm (by ac_rfl : _ = HP.pt gx (.cells (b8s (extI f ni gn p)).toArray 136) * (R9 * (HP.pt w7.heap.size (.cells (b8s S).toArray 99) * (HP.disk d A2 * q))))).right.right.right⟩
            · have hc3 : (c2 == 0) = false := by rw [beq_eq_false_iff_ne]; exact hc2
              go_wp2
              go_ret2
              rw [H12.out.2, decide_eq_false hc2]
              exact ⟨rfl, (H12.out.1.perm (by ac_rfl : _ = HP.pt gx (.cells (b8s (extI f ni gn p)).toArray 136) * (R9 * (HP.pt w7.heap.size (.cells (b8s S).toArray 99) * (HP.disk d A2 * q))))).right.right.right⟩
          · have hc3 : (c1 == 0) = false := by rw [beq_eq_false_iff_ne]; exact hc1
            rw [if_neg hc1] at HM2
            have HM3 := HM2
            clear HM2
            go_wp2
            go_ret2
            rw [HM3.out]
            exact ⟨rfl, (H11.out.perm (by ac_rfl : _ = HP.pt gx (.cells (b8s (extI f ni gn p)).toArray 136) * (R9 * (HP.pt w7.heap.size (.cells (b8s S).toArray 99) * (HP.disk d A1 * q))))).right.right.right⟩
    · obtain rfl : k = 4 := by omega
      have hM := HM.out
      rw [firstBad_none HR.out] at hM
      unfold mendK at hM
      dsimp only at hM
      have HM2 := Aside.mk hM
      clear hM
      go_wp2
      go_ret2
      rw [HM2.out]
      exact ⟨rfl, HS.out.right⟩
end Go.Proofs.YtnpinegpajbkeaaDoor
/- What a copy of a disk has, so far: plain. -/
namespace Go.Proofs.YtnpinegpajbkeaaDoor
open Go.RowKit HP
set_option linter.unusedSimpArgs false
set_option linter.unusedVariables false

def leftN (L : List (MapEntry × Fil)) : Nat := (L.map fun x => x.2.cels.length).sum
structure Copied (A O : Dk) (L : List (MapEntry × Fil)) : Prop where
  room : O.room = A.room
  fuse : O.fuse = A.fuse
  sorted : Sorted O.files
  hit : ∀ x ∈ L, lk O.files x.2.name = none
  rest : ∀ s, (∀ x ∈ L, x.2.name ≠ s) → lk O.files s = lk A.files s
  size : sizeF O.files + leftN L = sizeF A.files
def copyK (O : Dk) (s : ByteArray) (l : List Cel) (k : Nat) : Dk := if k = 0 then O else O.set s (l.take k)
theorem leftZ_names {es : Array MapEntry} {seen : Array Nat} {fs : List Fil} (hn : (fs.map (·.name)).Nodup) (hl : es.toList.length = fs.length) : ((leftZ es seen fs).map fun x => x.2.name).Nodup := by
  have h1 : (leftZ es seen fs).Sublist (es.toList.zip fs) := List.filter_sublist
  have h2 := (h1.map fun x => x.2.name)
  have e : ((es.toList.zip fs).map fun x => x.2.name) = fs.map (·.name) := by
    rw [show (fun x : MapEntry × Fil => x.2.name) = (fun x : Fil => x.name) ∘ Prod.snd from rfl, ← List.map_map, List.map_snd_zip (by omega)]
  rw [e] at h2
  exact hn.sublist h2
theorem copied_start {A : Dk} {es : Array MapEntry} {clock : Nat} {fs : List Fil} (hv : View A es clock fs) : Copied A ⟨A.room, A.fuse, []⟩ (leftZ es #[] fs) := by
  have hlen : es.toList.length = fs.length := by simpa using congrArg List.length hv.map.2.1
  have hm := leftZ_start hlen
  refine ⟨rfl, rfl, List.Pairwise.nil, fun _ _ => rfl, fun s hs => ?_, ?_⟩
  · rw [← hv.same]
    unfold lkF
    rw [List.find?_eq_none.2 (fun f hf => ?_)]
    · rfl
    · rw [← hm] at hf
      obtain ⟨x, hx, rfl⟩ := List.mem_map.1 hf
      simpa using hs x hx
  · have e : sortF fs = A.files := sorted_ext (sortF_sorted fs) hv.fine.sorted fun s => by rw [sortF_lk, hv.same]
    have h2 := sortF_size hv.map.2.2.1
    rw [e] at h2
    have h3 : leftN (leftZ es #[] fs) = total fs := by
      unfold leftN total
      conv => rhs; rw [← hm]
      rw [List.map_map]
      rfl
    rw [h3, h2]
    show 0 + _ = _
    omega
theorem copied_end {A O : Dk} (h : Copied A O []) (hs : Sorted A.files) : O = A := by
  obtain ⟨r, f, fs⟩ := O
  obtain ⟨r2, f2, fs2⟩ := A
  obtain ⟨h1, h2, h3, -, h5, -⟩ := h
  simp only at h1 h2 h3 h5 hs
  subst h1
  subst h2
  rw [sorted_ext h3 hs (fun s => h5 s (by simp))]
theorem set_set {O : Dk} (hs : Sorted O.files) (s : ByteArray) (l l' : List Cel) : (O.set s l).set s l' = O.set s l' := by
  unfold Dk.set
  simp only [Dk.mk.injEq, true_and]
  refine sorted_ext (sorted_put _ _ (sorted_put _ _ hs)) (sorted_put _ _ hs) fun t => ?_
  rw [lk_put _ _ _ (sorted_put _ _ hs), lk_put _ _ _ hs, lk_put _ _ _ hs]
  split <;> rfl
structure CopyAt (A O : Dk) (s : ByteArray) (l : List Cel) (k : Nat) : Prop where
  at_ : (copyK O s l k).at s = l.take k
  free : k < l.length → 0 < (copyK O s l k).free
  room : (copyK O s l k).room = A.room
  next : ∀ c, l[k]? = some c → (copyK O s l k).set s ((copyK O s l k).at s ++ [c]) = copyK O s l (k + 1)
theorem copyAt {A O : Dk} {e : MapEntry} {f : Fil} {L L' : List (MapEntry × Fil)} (hA : (sizeF A.files : Int) ≤ A.room) (h : Copied A O L) (hp : L.Perm ((e, f) :: L')) {k : Nat} (hk : k ≤ f.cs.length) : CopyAt A O f.name f.cs k := by
  have hno : lk O.files f.name = none := h.hit (e, f) (hp.symm.subset (List.mem_cons_self ..))
  have hat0 : O.at f.name = [] := by unfold Dk.at; rw [hno]; rfl
  have hsz : sizeF O.files + f.cs.length ≤ sizeF A.files := by
    have h1 := h.size
    have h2 : leftN L = f.cels.length + leftN L' := by
      unfold leftN
      rw [(hp.map fun x => x.2.cels.length).sum_nat, List.map_cons, List.sum_cons]
    have h3 : f.cs.length = f.cels.length := by unfold Fil.cs; rw [List.length_map]
    omega
  have hat : (copyK O f.name f.cs k).at f.name = f.cs.take k := by
    unfold copyK
    split
    · rename_i h0
      subst h0
      rw [hat0, List.take_zero]
    · rw [at_set h.sorted, if_pos rfl]
  refine ⟨hat, fun hlt => ?_, ?_, fun c hc => ?_⟩
  · have hr := h.room
    unfold copyK Dk.free
    split
    · omega
    · rename_i h0
      have h2 := sizeF_put h.sorted f.name (f.cs.take k)
      rw [hno] at h2
      simp only [Option.getD_none, List.length_nil, List.length_take] at h2
      show 0 < O.room - (sizeF (putF O.files f.name (f.cs.take k)) : Int)
      omega
  · unfold copyK
    split
    · exact h.room
    · exact h.room
  · rw [hat]
    have ht : f.cs.take k ++ [c] = f.cs.take (k + 1) := by
      rw [List.take_add_one, hc]
      rfl
    rw [ht]
    unfold copyK
    rw [if_neg (show ¬ k + 1 = 0 by omega)]
    split
    · rfl
    · exact set_set h.sorted _ _ _
theorem copied_step {A O : Dk} {e : MapEntry} {f : Fil} {L L' : List (MapEntry × Fil)} (h : Copied A O L) (hp : L.Perm ((e, f) :: L')) (hn : (L.map fun x => x.2.name).Nodup) (hf : lk A.files f.name = some f.cs) (h0 : f.cs ≠ []) : Copied A (copyK O f.name f.cs f.cs.length) L' := by
  have hno : lk O.files f.name = none := h.hit (e, f) (hp.symm.subset (List.mem_cons_self ..))
  have hlen : ¬ f.cs.length = 0 := fun h => h0 (List.eq_nil_of_length_eq_zero h)
  have hc : copyK O f.name f.cs f.cs.length = O.set f.name f.cs := by
    unfold copyK
    rw [if_neg hlen, List.take_length]
  have hnd : (((e, f) :: L').map fun x => x.2.name).Nodup := (hp.map fun x => x.2.name).nodup hn
  rw [List.map_cons, List.nodup_cons] at hnd
  rw [hc]
  refine ⟨h.room, h.fuse, sorted_put _ _ h.sorted, fun x hx => ?_, fun s hs => ?_, ?_⟩
  · have hne : f.name ≠ x.2.name := fun he => hnd.1 (List.mem_map.2 ⟨x, hx, he.symm⟩)
    rw [lk_set h.sorted, if_neg hne]
    exact h.hit x (hp.symm.subset (List.mem_cons_of_mem _ hx))
  · rw [lk_set h.sorted]
    split
    · rename_i he
      subst he
      exact hf.symm
    · rename_i hne
      refine h.rest s fun x hx => ?_
      rcases List.mem_cons.1 (hp.subset hx) with rfl | hx2
      · exact hne
      · exact hs x hx2
  · have h1 := h.size
    have h2 : leftN L = f.cels.length + leftN L' := by
      unfold leftN
      rw [(hp.map fun x => x.2.cels.length).sum_nat, List.map_cons, List.sum_cons]
    have h3 : f.cs.length = f.cels.length := by unfold Fil.cs; rw [List.length_map]
    have h4 := sizeF_put h.sorted f.name f.cs
    rw [hno] at h4
    simp only [Option.getD_none, List.length_nil] at h4
    show sizeF (putF O.files f.name f.cs) + leftN L' = _
    omega
end Go.Proofs.YtnpinegpajbkeaaDoor
/- A disk's file taken out, what lies beside left open. -/
namespace Go.Proofs.YtnpinegpajbkeaaDoor
open Go.RowKit HP
set_option linter.unusedSimpArgs false
set_option linter.unusedVariables false

/-- The file at a place, and what becomes of the disk when its extents are laid anew. -/
theorem dk_fileQ {E : Env} {q : HP} {w : World} {d m : Nat} {room fuse : Int} {es : Array MapEntry} {clock : Nat} {fs : List Fil} (hw : Sat E w (HP.dk d room fuse m es clock fs * q)) {j : Nat} {f : Fil} (hj : fs[j]? = some f) :
    ∃ R0 : HP, Sat E w (HP.row 110 1 f.val f.cels.length (celPtrs f.cels) * (HP.cels f.cels * (R0 * q))) ∧
      ∀ (q' : HP) (w' : World) (cels' : List (Nat × Cel)), cels'.map (·.1) = f.cels.map (·.1) → Sat E w' (HP.row 110 1 f.val f.cels.length (celPtrs f.cels) * (HP.cels cels' * (R0 * q'))) →
        Sat E w' (HP.dk d room fuse m es clock (fs.set j ⟨f.name, f.val, cels'⟩) * q') := by
  have h1 := dk_parts hw
  have h2 : Sat E w (HP.all (fs.map HP.fil) * (HP.dsk d room fuse m * (HP.pt m (.map es clock) * q))) := h1.perm (by ac_rfl)
  rw [all_take (l := fs.map HP.fil) (j := j) (p := HP.fil f) (by rw [List.getElem?_map, hj]; rfl)] at h2
  refine ⟨HP.all ((fs.map HP.fil).eraseIdx j) * (HP.dsk d room fuse m * HP.pt m (.map es clock)), h2.perm (by unfold HP.fil HP.cels Fil.ptrs celPtrs; ac_rfl), fun q' w' cels' hfst h => ?_⟩
  have hjl : j < fs.length := (List.getElem?_eq_some_iff.1 hj).1
  have hlen : cels'.length = f.cels.length := by simpa using congrArg List.length hfst
  unfold HP.dk
  rw [all_take (l := (fs.set j (⟨f.name, f.val, cels'⟩ : Fil)).map HP.fil) (j := j) (p := HP.fil ⟨f.name, f.val, cels'⟩) (by rw [List.getElem?_map, List.getElem?_set]; simp [hjl])]
  rw [List.map_set, List.eraseIdx_set_eq]
  have hp : (⟨f.name, f.val, cels'⟩ : Fil).ptrs = celPtrs f.cels := by
    show cels'.map (fun x => Value.pointer (some ⟨x.1, 0, none⟩)) = _
    unfold celPtrs
    have := congrArg (List.map fun b : Nat => Value.pointer (some ⟨b, 0, none⟩)) hfst
    simpa [List.map_map, Function.comp_def] using this
  have e1 : HP.fil ⟨f.name, f.val, cels'⟩ = HP.row 110 1 f.val f.cels.length (celPtrs f.cels) * HP.cels cels' := by
    unfold HP.fil HP.cels
    rw [hp]
    show HP.row 110 1 f.val cels'.length _ * _ = _
    rw [hlen]
  rw [e1]
  exact h.perm (by ac_rfl)

theorem cel_whole {E : Env} {q : HP} {w : World} {b : Nat} {c : Cel} (h : Sat E w (HP.cel b c * q)) : Cells w (some ⟨b, 0, none⟩) c.vals := fun j u hj => ⟨_, rfl, by
  rw [addr_add, Nat.zero_add]
  have h1 : Sat E w (HP.pt b (.cells c.vals.toArray 114) * q) := h
  rw [h1.cell]
  simpa using hj⟩
end Go.Proofs.YtnpinegpajbkeaaDoor
/- append as an operation of a region. -/
namespace Go.Proofs.YtnpinegpajbkeaaDoor
open Go.RowKit HP
set_option linter.unusedSimpArgs false
set_option linter.unusedVariables false

section
variable {E : Env} {w : World} {q : HP} {e : TypeId} {size n : Nat} {v : Value} {cs : List Value}
theorem wp_append_row {P : Program} {o : Oper} {a : Act} {K : Act → World → Prop} {Q : Exit → Act → World → Prop} {s x : Operand} {t : TypeId} {z : Value} {bytes : Nat}
    (T : SlTy P t e z size bytes)
    (ho : o.op = .call { callee := .builtin .append, args := #[s, x], argTypes := #[t, t] })
    {A : Option Addr} {m c : Nat} {news : List Value} (hs : a.eval s = v) (hx : a.eval x = .slice A m c)
    (h : Sat E w (row e size v n cs * q)) (hnews : Cells w A news) (hl : news.length = m * size) (h1 : news.all Value.oneCell' = true)
    (h63 : n + m ≤ maxLen) (hbytes : (n + m) * bytes ≤ 140737488355328)
    (hk : ∀ v' w', Sat E w' (row e size v' (n + m) (cs ++ news) * q) → K (a.put o.dst v') w') : o.wp P a w K Q := by
  obtain ⟨i, hi, hz, hsize, hby⟩ := info_parts T.info
  obtain ⟨v', w', hr, h2⟩ := run_append_row (P := P) (ty := o.type) T.under hi hz hsize hby T.cells h A m c news hl hnews (List.all_eq_true.1 h1) h63 hbytes (fun _ => T.pos)
  unfold Oper.wp execOp
  simp only [ho, resolve, invoke, builtin, Sem.run_bind, Sem.run_pure, Result.andThen_ok, List.map_toArray, List.map_cons, List.map_nil, hs, hx, hr]
  exact hk v' w' h2
end
end Go.Proofs.YtnpinegpajbkeaaDoor
/- (*Disk).Copy: the walk. -/
namespace Go.Proofs.YtnpinegpajbkeaaDoor
open Go.RowKit HP
set_option linter.unusedSimpArgs false
set_option linter.unusedVariables false

theorem wp_mapUpdate_run {P : Program} {o : Oper} {a : Act} {w w' : World} {K : Act → World → Prop} {Q : Exit → Act → World → Prop} {m x v : Operand} {t : TypeId} (hop : o.op = Op.mapUpdate t m x v)
    {M X V : Value} (hm : a.eval m = M) (hx : a.eval x = X) (hv : a.eval v = V) (hr : (Instr.mapUpdate t M X V).run P w = .ok () w')
    (h : K (a.put o.dst undef) w') : o.wp P a w K Q := by
  unfold Oper.wp
  simp [execOp, hop, hm, hx, hv, hr, Result.andThen]
  exact h
/-- What a lookup of a file finds, of the map alone. -/
def valF (fs : List Fil) (s : ByteArray) : Value := match fs.find? (fun f => decide (f.name = s)) with | none => .slice none 0 0 | some f => f.val
theorem look_valF {w : World} {m : Nat} {es : Array MapEntry} {clock : Nat} {fs : List Fil} (hm : MapOf es clock fs) (hb : w.heap[m]? = some (.map es clock)) (name : ByteArray) (hn : name.size ≤ maxLen) : (Instr.lookup 36 (.map (some m)) (.string name) false).run Tryd.prog w = .ok (valF fs name) w := by
  unfold valF
  rcases lookup_str (P := Tryd.prog) (t := 36) Tryd.underlying9 Tryd.underlying36 (zero_cells w) hb hm.1 name hn with ⟨h1, h2, h3⟩ | ⟨j, x, h1, h2, h3, h4⟩
  · have : fs.find? (fun f => decide (f.name = name)) = none := by
      rw [List.find?_eq_none]
      intro f hf he
      simp only [decide_eq_true_eq] at he
      have hmem : (Value.string f.name, f.val) ∈ fs.map (fun f => (Value.string f.name, f.val)) := List.mem_map.2 ⟨f, hf, rfl⟩
      rw [← hm.2.1] at hmem
      obtain ⟨x, hx, hxe⟩ := List.mem_map.1 hmem
      simp only [Prod.mk.injEq] at hxe
      exact h3 x hx (by rw [hxe.1, he])
    rw [this]
    exact h1
  · have hj : (es.toList.map (fun x => (x.key, x.val)))[j]? = some (x.key, x.val) := by rw [List.getElem?_map, h1]; rfl
    rw [hm.2.1, List.getElem?_map] at hj
    obtain ⟨f, hf, hfe⟩ := Option.map_eq_some_iff.1 hj
    simp only [Prod.mk.injEq] at hfe
    have hname : f.name = name := by
      have := hfe.1.trans h2
      injection this
    have : fs.find? (fun f => decide (f.name = name)) = some f := by rw [← hname]; exact find_at hm.2.2.1 hf
    rw [this, h3, ← hfe.2]
theorem View.empty {A : Dk} (h : A.Fine) : View ⟨A.room, A.fuse, []⟩ #[] 0 [] :=
  ⟨⟨(fun x hx => by simp at hx), rfl, by simp, (fun x hx => by simp at hx), by simp⟩, fun s => rfl, ⟨List.Pairwise.nil, (fun x hx => by cases hx), (fun x hx => by cases hx), h.room, h.fuse, h.room.1⟩⟩
set_option maxHeartbeats 4000000 in
set_option maxRecDepth 100000 in
theorem disk_copy (E : Env) (q : HP) (d : Nat) (A : Dk) (w : World) (hw : Sat E w (HP.disk d A * q)) :
    Calls Tryd.prog 18 #[.pointer (some ⟨d, 0, none⟩)] w fun e w' => ∃ d', e = .returned (.pointer (some ⟨d', 0, none⟩)) ∧ Sat E w' (HP.disk d' A * (HP.disk d A * q)) := by
  obtain ⟨m, es, clock, fs, hv, hd⟩ := hw.disk_open
  clear hw
  go_enter Tryd.func18, Tryd.ntmps18
  go_wp2_with fail
  refine (disk_none E _ d _ _ m w (dk_parts hd)).mono ?_
  rintro e w1 ⟨rfl, rfl⟩
  have k0 := (dk_parts hd).drew.cell 0
  have k2 := (dk_parts hd).drew.cell 2
  have k0m := ((dk_parts hd).drew.alloc (.map #[] 0)).s2.cell 0
  have k2m := ((dk_parts hd).drew.alloc (.map #[] 0)).s2.cell 2
  simp only [List.getElem?_toArray, List.getElem?_cons_zero, List.getElem?_cons_succ] at k0 k2 k0m k2m
  have hS := ((dk_parts hd).drew.alloc (.map #[] 0)).alloc (.cells #[.int .i64 A.room, .map (some w1.heap.size), .int .i64 A.fuse] 38)
  rw [show (w1.drew.alloc (.map #[] 0)).heap.size = w1.heap.size + 1 by rw [World.size_alloc]; rfl] at hS
  rw [show w1.drew.heap.size = w1.heap.size from rfl] at hS
  have hS2 : Sat E ((w1.drew.alloc (.map #[] 0)).alloc (.cells #[.int .i64 A.room, .map (some w1.heap.size), .int .i64 A.fuse] 38)) (HP.disk (w1.heap.size + 1) ⟨A.room, A.fuse, []⟩ * (HP.dk d A.room A.fuse m es clock fs * q)) := Sat.disk_close (m := w1.heap.size) (View.empty hv.fine) (hS.perm (by
    unfold HP.dk HP.dsk
    simp only [List.map_nil, HP.all, HP.mul_emp]
    ac_rfl))
  clear hd hS
  go_wp2
  refine region_R [4, 10] [4] (fun w' => w'.cell? ⟨d, 0, none⟩ = some (.int .i64 A.room) ∧ w'.cell? ⟨d, 2, none⟩ = some (.int .i64 A.fuse)) #[false, false, false, false, false, false, false, false, false, false, false, false] (by kernel_rfl) rfl rfl ?_
  refine wpR_pu 0 #[true, false, false, false, false, false, false, false, false, false, false, false] rfl onlyN_noPanic (by kernel_rfl) (fun K hK => ?_); (go_simp; try go_bits); refine hK _ ?_; clear hK K
  refine wpR_pu 1 #[true, true, false, false, false, false, false, false, false, false, false, false] rfl onlyN_noPanic (by kernel_rfl) (fun K hK => ?_); (go_simp; try go_bits); refine hK _ ?_; clear hK K
  refine wpR_pu 2 #[true, true, true, false, false, false, false, false, false, false, false, false] rfl onlyN_noPanic (by kernel_rfl) (fun K hK => ?_); (go_simp; try go_bits); refine hK _ ?_; clear hK K
  refine wpR_held (i := 3) (v := .int .i64 A.room) #[true, true, true, true, false, false, false, false, false, false, false, false] rfl onlyN_noPanic (by kernel_rfl) ⟨k0, k2⟩ (.inl ⟨rfl, fun w' hT => ?_⟩) ?_
  · obtain ⟨t0, t2⟩ := hT; go_simp
  simp only [Act.put, List.setIfInBounds_toArray, List.set_cons_zero, List.set_cons_succ]
  refine wpR_pu 5 #[true, true, true, true, false, true, false, false, false, false, false, false] rfl onlyN_noPanic (by kernel_rfl) (fun K hK => ?_); (go_simp; try go_bits); refine hK _ ?_; clear hK K
  refine wpR_pu 6 #[true, true, true, true, false, true, true, false, false, false, false, false] rfl onlyN_noPanic (by kernel_rfl) (fun K hK => ?_); (go_simp; try go_bits); refine hK _ ?_; clear hK K
  refine wpR_pu 7 #[true, true, true, true, false, true, true, true, false, false, false, false] rfl onlyN_noPanic (by kernel_rfl) (fun K hK => ?_); (go_simp; try go_bits); refine hK _ ?_; clear hK K
  refine wpR_held (i := 8) (v := .int .i64 A.fuse) #[true, true, true, true, false, true, true, true, true, false, false, false] rfl onlyN_noPanic (by kernel_rfl) ⟨k0, k2⟩ (.inl ⟨rfl, fun w' hT => ?_⟩) ?_
  · obtain ⟨t0, t2⟩ := hT; go_simp
  simp only [Act.put, List.setIfInBounds_toArray, List.set_cons_zero, List.set_cons_succ]
  refine wpR_keep #[true, true, true, true, true, true, true, true, true, false, false, false] (i := 4) rfl (by kernel_rfl) (fun K hK => ?_)
  go_simp; refine hK _ _ ⟨k0m, k2m⟩ ?_; clear hK K
  refine wpR_rd 9 #[true, true, true, true, true, true, true, true, true, true, false, false] rfl onlyN_noPanic (by kernel_rfl) (fun K hK => ?_); (go_simp; try go_bits); refine hK _ ?_; clear hK K
  refine wpR_eff #[true, true, true, true, true, true, true, true, true, true, true, false] (i := 10) rfl (by kernel_rfl) (fun K hK => ?_)
  go_simp; refine hK _ _ ?_; clear hK K
  refine wpR_rd 11 #[true, true, true, true, true, true, true, true, true, true, true, true] rfl onlyN_noPanic (by kernel_rfl) (fun K hK => ?_); (go_simp; try go_bits); refine hK _ ?_; clear hK K
  refine wpR_done (by kernel_rfl) ?_ _
  simp only [OnlyN]
  show Exit.then _ _ Exit.normal _ ((w1.drew.alloc (.map #[] 0)).alloc (.cells #[.int .i64 A.room, .map (some w1.heap.size), .int .i64 A.fuse] 38))
  generalize (w1.drew.alloc (.map #[] 0)).alloc (.cells #[.int .i64 A.room, .map (some w1.heap.size), .int .i64 A.fuse] 38) = w2 at *
  clear k0 k2 k0m k2m
  generalize w1.heap.size = b0 at *
  have c1 := (dk_parts hS2.right).cell 1
  simp only [List.getElem?_toArray, List.getElem?_cons_zero, List.getElem?_cons_succ] at c1
  have hrg := run_range_map (P := Tryd.prog) (t := 36) Tryd.underlying36 (dk_parts hS2.right).s2.get
  have HS0 := Aside.mk (hS2.alloc (.mapIter (some m) clock #[] clock))
  have HM := Aside.mk hv.map
  have hlen : es.toList.length = fs.length := by simpa using congrArg List.length hv.map.2.1
  have HV := Aside.mk (And.intro hv hlen)
  have HC0 := Aside.mk (copied_start hv)
  clear hv hlen hS2
  go_wp2
  obtain ⟨g, hg⟩ : ∃ g, g = w2.heap.size := ⟨_, rfl⟩
  obtain ⟨w0, hw0⟩ : ∃ w0, w0 = w2.alloc (.mapIter (some m) clock #[] clock) := ⟨_, rfl⟩
  rw [← hg, ← hw0] at HS0
  rw [← hg, ← hw0]
  clear hrg c1 hg hw0
  obtain ⟨d', hd'⟩ : ∃ d', d' = b0 + 1 := ⟨_, rfl⟩
  rw [← hd'] at HS0
  rw [← hd']
  clear hd'
  go_loopw [8] (fun v8 wr => ∃ (seen : Array Nat) (c0 : Nat) (O : Dk), clock ≤ c0 ∧ Aside (Copied A O (leftZ es seen fs)) ∧ Aside (Sat E wr (HP.pt g (.mapIter (some m) clock seen c0) * (HP.dk d A.room A.fuse m es clock fs * (HP.disk d' O * q)))))
    (fun _ wr => match wr.heap[g]? with | some (.mapIter _ _ seen _) => (leftL es seen).length | _ => 0)
  case atStart => exact ⟨#[], clock, _, Nat.le_refl _, HC0, ⟨HS0.out.perm (by ac_rfl)⟩⟩
  case round =>
    clear HS0 HC0
    obtain ⟨seen, c0, O, hc0, HO, HS⟩ := hrel
    rcases next_file HM.out hc0 HS.out 0 with ⟨hend, hnext⟩ | ⟨j, f, e, w2, hj, hje, hel, hnext, hent, h2⟩
    · have hcp := HO.out
      rw [leftZ_end hend] at hcp
      have hOA := copied_end hcp HV.out.1.fine.sorted
      have H2 : Aside (Sat E wr (HP.disk d' A * (HP.disk d A * q))) := ⟨by
        have h3 := HS.out.right
        rw [hOA] at h3
        exact (Sat.disk_close (q := HP.disk d' A * q) HV.out.1 h3).s2⟩
      clear hcp hOA HO HS hend
      go_wp2
      go_ret
      exact ⟨d', rfl, H2.out⟩
    · obtain ⟨R0, h3, hback⟩ := dk_fileQ (h2.perm (by ac_rfl : _ = HP.dk d A.room A.fuse m es clock fs * (HP.pt g (.mapIter (some m) clock (seen.push e.born) clock) * (HP.disk d' O * q)))) hj
      obtain ⟨B, cc, hvB, -, -⟩ := h3.row_slice
      have hfm := HV.out.1.mem (List.mem_of_getElem? hj)
      have hfl : lk A.files f.name = some f.cs := lk_of_mem HV.out.1.fine.sorted hfm
      have hfs : f.cels.length ≤ 100000 := by
        have h7 := at_small HV.out.1.fine f.name
        rw [Dk.at, hfl] at h7
        simpa [Fil.cs] using h7
      have HFine : Aside (∀ x ∈ f.cels, x.2.Fine) := ⟨fun x hx => HV.out.1.cel_fine (List.mem_of_getElem? hj) hx⟩
      have hnm1 := HV.out.1.fine.named _ hfm
      have hnm : f.name.size ≤ maxLen := by
        have h7 := hnm1.1
        unfold namedB at h7
        simp only [Bool.and_eq_true, decide_eq_true_eq] at h7
        unfold maxLen
        omega
      have hset : fs.set j ⟨f.name, f.val, f.cels⟩ = fs := by
        obtain ⟨h1, h2⟩ := List.getElem?_eq_some_iff.1 hj
        rw [show (⟨f.name, f.val, f.cels⟩ : Fil) = fs[j] from h2.symm]
        exact List.set_getElem_self h1
      have he2 : seen.contains e.born = false := by
        have := (List.mem_filter.1 hel).2
        simpa using this
      have hst := leftZ_step HM.out.2.2.2.2 HV.out.2 hje hj he2
      have hstep := copied_step HO.out hst (leftZ_names HM.out.2.2.1 HV.out.2) hfl hnm1.2
      have hfr : (sizeF A.files : Int) ≤ A.room := HV.out.1.fine.fits
      have hca : ∀ k, k ≤ f.cs.length → CopyAt A O f.name f.cs k := fun k hk => copyAt hfr HO.out hst hk
      have HC := Aside.mk (And.intro hback (And.intro hset (And.intro hstep (And.intro hel (And.intro hca hnm1.1)))))
      have hce : f.cs.length = f.cels.length := by unfold Fil.cs; rw [List.length_map]
      rw [hvB] at hnext hent h3
      have H3 := Aside.mk h3
      have HG1 := Aside.mk HS.out.get
      clear HS h2 hback h3 hj hje hel hfm hset hst hstep hfr hca hnm1 he2 hfl HO
      obtain ⟨n, hnn⟩ : ∃ n, n = f.cels.length := ⟨_, rfl⟩
      rw [← hnn] at H3 hfs hnext hent hce
      have HN := Aside.mk (And.intro hnn hce)
      clear hnn hce
      go_wp2
      obtain ⟨wo, rfl⟩ : ∃ wo : World, wo = wr := ⟨_, rfl⟩
      go_loopw [34] (fun v34 wi => ∃ k : Nat, v34 = .int .i64 k ∧ k ≤ n ∧ Aside (Sat E wi (HP.disk d' (copyK O f.name f.cs k) * (HP.row 110 1 (.slice B n cc) n (celPtrs f.cels) * (HP.cels f.cels * (R0 * (HP.pt g (.mapIter (some m) clock (seen.push e.born) clock) * q))))))) (fun x _ => n - (intOf x).toNat)
      case atStart => exact ⟨0, rfl, Nat.zero_le _, ⟨H3.out.perm (by rw [show copyK O f.name f.cs 0 = O from rfl]; ac_rfl)⟩⟩
      case round =>
        clear H3 hnext hent
        obtain ⟨k, rfl, hk, HR⟩ := hrel
        by_cases hlt : k < n
        · have hkf : k < f.cels.length := by have := HN.out.1; omega
          have hrow := HR.out.right
          obtain ⟨pa, hpa, hcx⟩ := hrow.row_cells.at_ k (by simp [celPtrs, hkf])
          obtain ⟨pg, po, rfl⟩ : ∃ g o, pa = ⟨g, o, none⟩ := slice_addr hrow.row_cells hpa (k := k) (by simp [celPtrs, hkf])
          subst hpa
          rw [addr_add] at hcx
          simp only [celPtrs, List.getElem_map] at hcx
          obtain ⟨Rk, h5, -, -⟩ := cels_take (hrow.s2) (List.getElem?_eq_getElem hkf)
          have hxf : (f.cels[k]).2.Fine := HFine.out _ (List.getElem_mem hkf)
          have hcs : f.cs[k]? = some (f.cels[k]).2 := by unfold Fil.cs; rw [List.getElem?_map, List.getElem?_eq_getElem hkf]; rfl
          have CA := HC.out.2.2.2.2.1 k (by rw [HN.out.2]; exact hk)
          have hnx := CA.next _ hcs
          generalize f.cels[k] = x at *
          obtain ⟨bk, c⟩ := x
          dsimp only at *
          have hk0 : (0 : Int) ≤ (k : Int) := by omega
          have hk1 : (k : Int) < (n : Int) := by omega
          have rl := run_loadAgg (P := Tryd.prog) agCel (Cel.vals_length hxf) (cel_whole h5)
          obtain ⟨Ok, hOk⟩ : ∃ Ok, Ok = copyK O f.name f.cs k := ⟨_, rfl⟩
          have hfree := CA.free (by rw [HN.out.2]; exact hlt)
          have hatl : (Ok.at f.name).length = k := by rw [hOk, CA.at_, List.length_take, HN.out.2]; omega
          have hR := HR.out
          rw [← hOk] at hR hfree hnx
          have HOk := Aside.mk hOk
          obtain ⟨m2, es2, clock2, fs2, hv2, hd2⟩ := hR.disk_open
          obtain ⟨v, Bv, cv, hvv, hlook, -, hcase⟩ := find_file hv2 hd2 f.name hnm
          obtain ⟨ptrs, R, es', clock', hpl, hRq, hopen, hmu, hclose⟩ := new_cel hv2 hnm HC.out.2.2.2.2.2 hfree hcase
          have hval : v = valF fs2 f.name := by
            have h7 := look_valF (w := wr) hv2.map (dk_parts hd2).s2.get f.name hnm
            rw [hlook] at h7
            injection h7
          rw [hatl] at hpl hopen hclose
          have h6 := (hopen _ hd2).alloc (.cells Tryd.zeroCells114 114)
          have h6' : Sat E (wr.alloc (.cells Tryd.zeroCells114 114)) (HP.cel wr.heap.size Cel.zero * (HP.row 110 1 v k ptrs * (HP.dsk d' Ok.room Ok.fuse m2 * (HP.pt m2 (.map es2 clock2) * R)))) := by
            unfold HP.cel
            rw [zero_cel]
            exact h6
          obtain ⟨w7, hr7, h7⟩ := cel_store_all h6' Cel.zero_fine hxf
          have H8 : Aside (Sat E w7.drew (HP.cel wr.heap.size c * (HP.row 110 1 v k ptrs * (HP.dsk d' Ok.room Ok.fuse m2 * (HP.pt m2 (.map es2 clock2) * R))))) := ⟨h7.drew⟩
          have HLK : Aside (∀ w', w'.heap[m2]? = some (.map es2 clock2) → (Instr.lookup 36 (.map (some m2)) (.string f.name) false).run Tryd.prog w' = .ok v w') := ⟨fun w' hb => by rw [hval]; exact look_valF hv2.map hb f.name hnm⟩
          have HMU := Aside.mk hmu
          have HCL : Aside (∀ w v' b0, Sat E w (HP.cel b0 c * (HP.row 110 1 v' (k + 1) (ptrs ++ [.pointer (some ⟨b0, 0, none⟩)]) * (HP.dsk d' Ok.room Ok.fuse m2 * (HP.pt m2 (.map (es' v') clock') * R)))) → Sat E w (HP.disk d' (copyK O f.name f.cs (k + 1)) * (HP.row 110 1 (.slice (some ⟨pg, po, none⟩) n cc) n (celPtrs f.cels) * (HP.cels f.cels * (R0 * (HP.pt g (.mapIter (some m) clock (seen.push e.born) clock) * q)))))) := ⟨fun w v' b0 h => by
            rw [← hnx]
            exact hclose w v' b0 c hxf h⟩
          have hkm : k ≤ 100000 := by omega
          obtain ⟨C, hC⟩ : ∃ C, C = c.vals.toArray := ⟨_, rfl⟩
          rw [← hC] at rl hr7
          clear h5 h6 h6' h7 hC hR hd2 hv2 hopen hmu hclose hcase hlook hval hvv hRq hrow HR hnx CA hcs hOk hatl hfree hxf
          go_wp2_with (first | (refine wpList_load_run rfl rfl rfl rl ?_) | (refine wpList_store_run rfl rfl rfl rfl rfl hr7 ?_))
          obtain ⟨bn, hbn⟩ : ∃ bn, bn = wr.heap.size := ⟨_, rfl⟩
          rw [← hbn] at H8 ⊢
          clear hbn hr7 rl hcx
          refine region_R [11, 12, 13] [11, 12] (fun w' => w'.cell? ⟨d', 1, none⟩ = some (.map (some m2)) ∧ w'.heap[m2]? = some (.map es2 clock2)) #[false, false, false, false, false, false, false, false, false, false, false, false, false, false] (by kernel_rfl) rfl rfl ?_
          generalize w7.drew = w8 at *
          have t1 := H8.out.s3.cell 1
          have t2 := H8.out.s4.get
          have s1 := (H8.out.alloc (.cells #[.pointer (some ⟨bn, 0, none⟩)] 110)).right.s3.cell 1
          have s2 := (H8.out.alloc (.cells #[.pointer (some ⟨bn, 0, none⟩)] 110)).right.s4.get
          simp only [List.getElem?_toArray, List.getElem?_cons_zero, List.getElem?_cons_succ] at t1 s1
          refine wpR_pu 0 #[true, false, false, false, false, false, false, false, false, false, false, false, false, false] rfl onlyN_noPanic (by kernel_rfl) (fun K hK => ?_); (go_simp; try go_bits); refine hK _ ?_; clear hK K
          refine wpR_pu 1 #[true, true, false, false, false, false, false, false, false, false, false, false, false, false] rfl onlyN_noPanic (by kernel_rfl) (fun K hK => ?_); (go_simp; try go_bits); refine hK _ ?_; clear hK K
          refine wpR_pu 2 #[true, true, true, false, false, false, false, false, false, false, false, false, false, false] rfl onlyN_noPanic (by kernel_rfl) (fun K hK => ?_); (go_simp; try go_bits); refine hK _ ?_; clear hK K
          refine wpR_held (i := 3) (v := .map (some m2)) #[true, true, true, true, false, false, false, false, false, false, false, false, false, false] rfl onlyN_noPanic (by kernel_rfl) ⟨t1, t2⟩ (.inl ⟨rfl, fun w' hT => ?_⟩) ?_
          · have c1 := hT.1; go_simp
          simp only [Act.put, List.setIfInBounds_toArray, List.set_cons_zero, List.set_cons_succ]
          refine wpR_pu 4 #[true, true, true, true, true, false, false, false, false, false, false, false, false, false] rfl onlyN_noPanic (by kernel_rfl) (fun K hK => ?_); (go_simp; try go_bits); refine hK _ ?_; clear hK K
          refine wpR_pu 5 #[true, true, true, true, true, true, false, false, false, false, false, false, false, false] rfl onlyN_noPanic (by kernel_rfl) (fun K hK => ?_); (go_simp; try go_bits); refine hK _ ?_; clear hK K
          refine wpR_pu 6 #[true, true, true, true, true, true, true, false, false, false, false, false, false, false] rfl onlyN_noPanic (by kernel_rfl) (fun K hK => ?_); (go_simp; try go_bits); refine hK _ ?_; clear hK K
          refine wpR_pu 7 #[true, true, true, true, true, true, true, true, false, false, false, false, false, false] rfl onlyN_noPanic (by kernel_rfl) (fun K hK => ?_); (go_simp; try go_bits); refine hK _ ?_; clear hK K
          refine wpR_held (i := 8) (v := .map (some m2)) #[true, true, true, true, true, true, true, true, true, false, false, false, false, false] rfl onlyN_noPanic (by kernel_rfl) ⟨t1, t2⟩ (.inl ⟨rfl, fun w' hT => ?_⟩) ?_
          · have c1 := hT.1; go_simp
          simp only [Act.put, List.setIfInBounds_toArray, List.set_cons_zero, List.set_cons_succ]
          refine wpR_pu 9 #[true, true, true, true, true, true, true, true, true, true, false, false, false, false] rfl onlyN_noPanic (by kernel_rfl) (fun K hK => ?_); (go_simp; try go_bits); refine hK _ ?_; clear hK K
          refine wpR_held (i := 10) (v := v) #[true, true, true, true, true, true, true, true, true, true, true, false, false, false] rfl onlyN_noPanic (by kernel_rfl) ⟨t1, t2⟩ (.inl ⟨rfl, fun w' hT => ?_⟩) ?_
          · have hl := HLK.out w' hT.2; go_simp
          simp only [Act.put, List.setIfInBounds_toArray, List.set_cons_zero, List.set_cons_succ]
          refine wpR_keep #[true, true, true, true, true, true, true, true, true, true, true, true, false, false] (i := 11) rfl (by kernel_rfl) (fun K hK => ?_)
          go_simp; refine hK _ _ ⟨s1, s2⟩ ?_; clear hK K
          refine wpR_keep #[true, true, true, true, true, true, true, true, true, true, true, true, true, false] (i := 12) rfl (by kernel_rfl) (fun K hK => ?_)
          refine Eq.mpr (if_pos (by rfl)) ?_; refine wp_append_row (n := k) (m := 1) (c := 1) slPC rfl rfl (by rfl) (H8.out.alloc _).right.s2 (Cells.fresh w8 [.pointer (some ⟨bn, 0, none⟩)] 110 (0, 0)) rfl rfl (by unfold maxLen; omega) (by omega) (fun v' w9 hw9 => ?_); have y1 := hw9.s3.cell 1; simp only [List.getElem?_toArray, List.getElem?_cons_zero, List.getElem?_cons_succ] at y1; refine hK _ _ ⟨y1, hw9.s4.get⟩ ?_; clear hK K
          refine wpR_eff #[true, true, true, true, true, true, true, true, true, true, true, true, true, true] (i := 13) rfl (by kernel_rfl) (fun K hK => ?_)
          refine Eq.mpr (if_pos (by rfl)) ?_; refine wp_mapUpdate_run rfl rfl rfl rfl (HMU.out w9 v' hw9.s4.get) ?_; refine hK _ _ ?_; clear hK K
          simp only [Act.put, List.setIfInBounds_toArray, List.set_cons_zero, List.set_cons_succ]
          refine wpR_done (by kernel_rfl) ?_ _
          simp only [OnlyN]
          have h9 := (HCL.out _ v' bn ((hw9.s4.setBlk (.map (es' v') clock')).perm (by ac_rfl)))
          have H9 := Aside.mk h9
          clear h9 hw9 y1 t1 t2 s1 s2 H8 HLK HMU HCL HOk hpl
          go_wp2
          go_roundw
          case rel => exact ⟨k + 1, by go_num, by omega, H9⟩
          case measure => simp [intOf]; omega
        · have hkn : k = n := by omega
          subst hkn
          have HT : Aside (Sat E wr (HP.pt g (.mapIter (some m) clock (seen.push e.born) clock) * (HP.dk d A.room A.fuse m es clock fs * (HP.disk d' (copyK O f.name f.cs f.cs.length) * q)))) := ⟨by
            obtain ⟨hback, hset, -⟩ := HC.out
            rw [HN.out.2]
            have h8 := hback (HP.pt g (.mapIter (some m) clock (seen.push e.born) clock) * (HP.disk d' (copyK O f.name f.cs k) * q)) wr f.cels rfl (by rw [hvB, ← HN.out.1]; exact HR.out.perm (by ac_rfl))
            rw [hset] at h8
            exact h8.perm (by ac_rfl)⟩
          have HO2 := Aside.mk HC.out.2.2.1
          have HLS : Aside ((leftL es (seen.push e.born)).length < (leftL es seen).length) := ⟨left_less HM.out.2.2.2.2 HC.out.2.2.2.1⟩
          clear HR HC HFine HN
          go_wp2
          go_roundw
          case rel => exact ⟨seen.push e.born, clock, _, Nat.le_refl _, HO2, HT⟩
          case measure =>
            have h8 := HT.out.get
            rw [h8, HG1.out]
            exact HLS.out
end Go.Proofs.YtnpinegpajbkeaaDoor
/- The listed table: what the condition gives a walk; the door's own heap meets it. -/
namespace Go.Proofs.YtnpinegpajbkeaaDoor
open Go.ChangeShapes Go.WideShapes Go.ChangeAt Go.WideMaps Go.WideElems Go.RowKit HP
set_option linter.unusedVariables false

def laidAll : List (String × DataW Unit) := [("dryrot/crc.quarter", Rows.laid_dryrot_crc_quarter)]
theorem gQuarter : Tryd.prog.globalNamed "dryrot/crc.quarter" = some 0 := by kernel_rfl
theorem tQuarter : (Tryd.prog.globals[0]?).map (·.type) = some 191 := by kernel_rfl
theorem door_met (os : Os) (args : Array Value) : laidMetH Tryd.prog laidAll ((World.doorLaid Tryd.prog 400 os).forCall (fun _ _ => 0) ⟨#[], args, []⟩).memory :=
  laidMetH_of_parts3 (fuel := 8) (laidMet_of_run' 8 (by kernel_rfl) (by kernel_rfl)) (by kernel_rfl) (by kernel_rfl)
theorem quarter_of_laid {W : World} (h : laidMetH Tryd.prog laidAll W) : Quarter W := by
  rw [MakeChecks.laidMetH_plain _ _ _ (by kernel_rfl)] at h
  obtain ⟨ps, ⟨g0, t0, cs0, f0, p0, q0, hg0, ht0, hv0, hd0, _, _⟩, _, _⟩ := h
  obtain rfl := Option.some.inj (gQuarter.symm.trans hg0)
  obtain rfl := Option.some.inj (tQuarter.symm.trans ht0)
  obtain ⟨xs, m1, rfl, hx1, hlen, hn3, hel⟩ := DataW.trod_array Tryd.underlying191 hd0
  have c3 : Tryd.prog.cellsOf 155 = 1 := by kernel_rfl
  simp only [Prod.mk.injEq, DataW.agg.injEq, Rows.laid_dryrot_crc_quarter] at hx1
  intro i hi
  have hi' := hel i hi
  rw [c3, Nat.mul_one] at hi'
  have hxl : i < xs.length := by omega
  rw [List.getElem?_eq_getElem hxl] at hi'
  obtain ⟨k, e1, e2, _⟩ := DataW.trod_int Tryd.underlying155 hi'
  have e3 : (xs.map (·.1))[i]? = some (DataW.lit (.int .u32 k)) := by
    rw [List.getElem?_map, List.getElem?_eq_getElem hxl]
    simp [e2]
  rw [← hx1.1] at e3
  have hk : k = quarterN i := by
    match i, hi with
    | 0, _ => simpa [quarterN] using e3.symm
    | 1, _ => simpa [quarterN] using e3.symm
    | 2, _ => simpa [quarterN] using e3.symm
    | 3, _ => simpa [quarterN] using e3.symm
  have e4 := World.var?_cell hg0 hv0 i
  have e5 : cs0.toList[i]? = some (.int .u32 k) := by
    have := congrArg (fun l => l[0]?) e1
    simpa [List.getElem?_take] using this
  rw [Array.getElem?_toList, hk] at e5
  rw [← e5, ← e4]
end Go.Proofs.YtnpinegpajbkeaaDoor
/- What the laws' cards share. -/
namespace Go.Proofs.YtnpinegpajbkeaaDoor
open Go.ChangeShapes Go.WideShapes Go.ChangeAt Go.RowKit HP
set_option linter.unusedVariables false

theorem old_carry {E : Env} {W w : World} (h : Sat E w (HP.old W)) : ∀ k, k < W.heap.size → w.heap[k]? = W.heap[k]? := fun k hk => Sat.old_block (p := HP.emp) (by rw [HP.mul_emp]; exact h) k hk
theorem quarter_old {E : Env} {W w : World} (hQ : Quarter W) (h : Sat E w (HP.old W)) : Quarter w := fun i hi => by
  rw [World.cell?_of_block (w := W) (old_carry h _ (World.block_lt_of_cell? W _ (hQ i hi)))]
  exact hQ i hi
theorem trodAll_five {H : Type} {enc : TypeId × Value → H} {P : Program} {w : World} {base : Nat} {spare : Nat → Bool} {held : Bool} {t t' t'' t3 t4 : TypeId} {args : Array Value} {ds : List (DataW H)} {ps : List MemPlace} (h : DataW.TrodAll enc P w base spare held [t, t', t'', t3, t4] args.toList ds ps) :
    ∃ v v' v'' v3 v4 d d' d'' d3 d4 p p' p'' p3 p4, args = #[v, v', v'', v3, v4] ∧ ds = [d, d', d'', d3, d4] ∧ ps = p ++ p' ++ p'' ++ p3 ++ p4 ∧ DataW.Trod enc P w base spare held t v d p ∧ DataW.Trod enc P w base spare held t' v' d' p' ∧ DataW.Trod enc P w base spare held t'' v'' d'' p'' ∧ DataW.Trod enc P w base spare held t3 v3 d3 p3 ∧ DataW.Trod enc P w base spare held t4 v4 d4 p4 := by
  obtain ⟨v, vs, d, ds', p, q, hargs, rfl, rfl, hd, hrest⟩ := trodAll_cons h
  obtain ⟨v', vs', d', ds'', p', q', rfl, rfl, rfl, hd', hrest'⟩ := trodAll_cons hrest
  obtain ⟨v'', vs'', d'', ds''', p'', q'', rfl, rfl, rfl, hd'', hrest''⟩ := trodAll_cons hrest'
  obtain ⟨v3, vs3, d3, ds3, p3, q3, rfl, rfl, rfl, hd3, hrest3⟩ := trodAll_cons hrest''
  obtain ⟨v4, vs4, d4, ds4, p4, q4, rfl, rfl, rfl, hd4, hrest4⟩ := trodAll_cons hrest3
  obtain ⟨rfl, rfl, rfl⟩ := trodAll_nil hrest4
  exact ⟨v, v', v'', v3, v4, d, d', d'', d3, d4, p, p', p'', p3, p4, by cases args; simp_all, rfl, by simp, hd, hd', hd'', hd3, hd4⟩
theorem rdB_at : (rdSl (rdInt .u8)).At Tryd.prog 47 := rdSl_at (n := 1) Tryd.underlying47 (by kernel_rfl) (rdInt_at Tryd.underlying5)
end Go.Proofs.YtnpinegpajbkeaaDoor
/- A slice of integers as an argument. -/
namespace Go.Proofs.YtnpinegpajbkeaaDoor
open Go.ChangeShapes Go.WideShapes Go.ChangeAt Go.RowKit HP
set_option linter.unusedVariables false

theorem rdIs_at : (rdSl (rdInt .i64)).At Tryd.prog 48 := rdSl_at (n := 1) Tryd.underlying48 (by kernel_rfl) (rdInt_at Tryd.underlying3)
theorem is_ok {W : World} {s : Sl Int} (h : (rdSl (rdInt .i64)).ok W s) : s.l.length ≤ s.cap ∧ s.cap ≤ maxLen ∧ Cells W s.A (s.l.map (Value.int .i64)) ∧ ∀ x ∈ s.l, wf64 x := ⟨h.1, h.2.1, by
  have h3 := h.2.2.1
  have e : s.l.flatMap (rdInt .i64).cells = s.l.map (Value.int .i64) := by
    induction s.l with
    | nil => rfl
    | cons x l ih => rw [List.flatMap_cons, ih]; rfl
  rw [e] at h3; exact h3, fun x hx => wf64_of (h.2.2.2 x hx)⟩
end Go.Proofs.YtnpinegpajbkeaaDoor
