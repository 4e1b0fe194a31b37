/- Texts of one claim, one behind the other: Rf6C, Rf6I, BytP, StSx, BytS, Spo. -/
import Derived.Test.YtnpinegpajbkeaaGreatDoorLv16
set_option linter.unusedSimpArgs false
set_option linter.unusedVariables false
namespace Go.Proofs.YtnpinegpajbkeaaGreatDoor
open Go.RowKit HP
theorem p3_box {E : Env} {w : World} {g5 : Nat} {x y z : Value} {e : TypeId} {q : HP} (h : Sat E w (HP.pt g5 (.cells #[x, y, z] e) * q)) : w.cell? ⟨g5, 0, none⟩ = some x ∧ w.cell? ⟨g5, 1, none⟩ = some y ∧ w.cell? ⟨g5, 2, none⟩ = some z :=
  ⟨by rw [h.cell 0]; rfl, by rw [h.cell 1]; rfl, by rw [h.cell 2]; rfl⟩
theorem slots3_len {B0 B1 B2 : Option Addr} {d0 d1 d2 : Nat} {b : List Int} {g : Nat} {s : Sl Int} (h : s ∈ ([⟨B0, d0, slotI (partI b (3 * g + 0))⟩, ⟨B1, d1, slotI (partI b (3 * g + 1))⟩, ⟨B2, d2, slotI (partI b (3 * g + 2))⟩] : List (Sl Int))) : s.l.length = 106 := by
  simp only [List.mem_cons, List.not_mem_nil, or_false] at h
  rcases h with rfl | rfl | rfl <;> exact slotI_length (partI_le _ _)
theorem slots3_cells {E : Env} {w : World} {u : Nat} {e : TypeId} {B0 B1 B2 : Option Addr} {d0 d1 d2 : Nat} {b : List Int} {g : Nat} {q : HP}
    (h : Sat E w (HP.pt u (.cells #[.slice B0 106 d0, .slice B1 106 d1, .slice B2 106 d2] e) * (HP.row 5 1 (.slice B2 106 d2) 106 (b8s (slotI (partI b (3 * g + 2)))) * (HP.row 5 1 (.slice B1 106 d1) 106 (b8s (slotI (partI b (3 * g + 1)))) * (HP.row 5 1 (.slice B0 106 d0) 106 (b8s (slotI (partI b (3 * g + 0)))) * q))))) :
    Cells w (some ⟨u, 0, none⟩) (([⟨B0, d0, slotI (partI b (3 * g + 0))⟩, ⟨B1, d1, slotI (partI b (3 * g + 1))⟩, ⟨B2, d2, slotI (partI b (3 * g + 2))⟩] : List (Sl Int)).map Sl.val8) ∧ ∀ s ∈ ([⟨B0, d0, slotI (partI b (3 * g + 0))⟩, ⟨B1, d1, slotI (partI b (3 * g + 1))⟩, ⟨B2, d2, slotI (partI b (3 * g + 2))⟩] : List (Sl Int)), Cells w s.A (b8s s.l) := by
  have hl : ∀ k, (slotI (partI b (3 * g + k))).length = 106 := fun k => slotI_length (partI_le _ _)
  constructor
  · have h0 := Sat.ptCells (off := 0) (l := [.slice B0 106 d0, .slice B1 106 d1, .slice B2 106 d2]) h (by rfl)
    simp only [List.map_cons, List.map_nil, Sl.val8, hl]
    exact h0
  · intro s hs
    simp only [List.mem_cons, List.not_mem_nil, or_false] at hs
    rcases hs with rfl | rfl | rfl
    · exact h.right.right.right.row_cells
    · exact h.right.right.row_cells
    · exact h.right.row_cells
set_option maxHeartbeats 8000000 in
set_option maxRecDepth 100000 in
theorem ref6_payloads (E : Env) (P0 q : HP) (A : Option Addr) (b : List Int) (n c g : Nat) (w : World) (hbn : b.length = n) (hnc : n ≤ c) (hcm : c ≤ maxLen) (hg : g ≤ 1000000000000000) (hq : ∀ w, Sat E w q → Cells w A (b8s b)) (hw : Sat E w (P0 * q)) :
    Calls Tryz.prog 67 #[.slice A n c, .int .i64 g] w fun e w' => ∃ V c' R, ∃ ss : List (Sl Int), e = .returned (.slice V 4 c') ∧ 4 ≤ c' ∧ ss.map (·.l) = [payS b g 0, payS b g 1, payS b g 2, payS b g 3] ∧ Sat E w' (R * (P0 * q)) ∧ ∀ w'' P, Sat E w'' (R * (P * q)) → Cells w'' V (ss.map Sl.val8) ∧ ∀ s ∈ ss, Cells w'' s.A (b8s s.l) := by
  have HW0 := Aside.mk hw
  have HQ := Aside.mk hq
  have hbn2 := Aside.mk hbn
  have hnc2 := Aside.mk hnc
  have hcm2 := Aside.mk hcm
  clear hw hq hbn hnc hcm
  have hgi : (g : Int) ≤ 1000000000000000 := by omega
  go_enter Tryz.func67, Tryz.ntmps67
  go_wp2_with fail
  refine (ref6_part E (P0 * q) A b n c (3 * g + 0) _ _ (by omega) hbn2.out hnc2.out hcm2.out (by omega) (fun w => ∃ P, Sat E w (P * q)) (fun w h => HQ.out w h.choose_spec.right) ⟨P0, HW0.out⟩ HW0.out).mono ?_
  rintro e w1 ⟨⟨A0, m0, c0, rfl, hm0, hmc0, hcm0, hx0⟩, h0⟩
  have HS0 := Aside.mk h0
  have HM0 : Aside ((partI b (3 * g + 0)).length = m0 ∧ m0 ≤ c0 ∧ ∀ w, (∃ P, Sat E w (P * q)) → Cells w A0 (b8s (partI b (3 * g + 0)))) := ⟨hm0, hmc0, hx0⟩
  clear hm0 hmc0 hcm0 hx0 h0
  go_wp2_with fail
  refine (ref6_part E (P0 * q) A b n c (3 * g + 1) _ _ (by omega) hbn2.out hnc2.out hcm2.out (by omega) (fun w => ∃ P, Sat E w (P * q)) (fun w h => HQ.out w h.choose_spec.right) ⟨P0, HS0.out⟩ HS0.out).mono ?_
  rintro e w2 ⟨⟨A1, m1, c1, rfl, hm1, hmc1, hcm1, hx1⟩, h1⟩
  have HS1 := Aside.mk h1
  have HM1 : Aside ((partI b (3 * g + 1)).length = m1 ∧ m1 ≤ c1 ∧ ∀ w, (∃ P, Sat E w (P * q)) → Cells w A1 (b8s (partI b (3 * g + 1)))) := ⟨hm1, hmc1, hx1⟩
  clear hm1 hmc1 hcm1 hx1 h1
  go_wp2_with fail
  refine (ref6_part E (P0 * q) A b n c (3 * g + 2) _ _ (by omega) hbn2.out hnc2.out hcm2.out (by omega) (fun w => ∃ P, Sat E w (P * q)) (fun w h => HQ.out w h.choose_spec.right) ⟨P0, HS1.out⟩ HS1.out).mono ?_
  rintro e w3 ⟨⟨A2, m2, c2, rfl, hm2, hmc2, hcm2, hx2⟩, h2⟩
  have HS2 := Aside.mk h2
  have HM2 : Aside ((partI b (3 * g + 2)).length = m2 ∧ m2 ≤ c2 ∧ ∀ w, (∃ P, Sat E w (P * q)) → Cells w A2 (b8s (partI b (3 * g + 2)))) := ⟨hm2, hmc2, hx2⟩
  clear hm2 hmc2 hcm2 hx2 h2
  have HS5 : Aside (Sat E (w3.alloc (.cells #[.slice A0 m0 c0, .slice A1 m1 c1, .slice A2 m2 c2] 43)) (HP.pt w3.heap.size (.cells #[.slice A0 m0 c0, .slice A1 m1 c1, .slice A2 m2 c2] 43) * (P0 * q))) := ⟨HS2.out.alloc _⟩
  clear HS0 HS1 HS2
  go_wp2
  refine region_R [4, 8, 12, 13, 14, 15, 16] [4, 8] (fun W => W.cell? ⟨w3.heap.size, 0, none⟩ = some (.slice A0 m0 c0) ∧ W.cell? ⟨w3.heap.size, 1, none⟩ = some (.slice A1 m1 c1) ∧ W.cell? ⟨w3.heap.size, 2, none⟩ = some (.slice A2 m2 c2)) #[false, false, false, false, false, false, false, false, false, false, false, false, false, false, false, false, false, false] (by kernel_rfl) rfl rfl ?_
  refine wpR_pu 0 #[true, false, false, false, false, false, false, false, false, false, false, false, false, false, false, false, false, false] rfl onlyN_noPanic (by kernel_rfl) (fun K hK => ?_); (go_simp; try go_bits); refine hK _ ?_; clear hK K
  refine wpR_rd 1 #[true, true, false, false, false, false, false, false, false, false, false, false, false, false, false, false, false, false] rfl onlyN_noPanic (by kernel_rfl) (fun K hK => ?_); (go_simp; try go_bits); refine hK _ ?_; clear hK K
  refine wpR_rd 2 #[true, true, true, false, false, false, false, false, false, false, false, false, false, false, false, false, false, false] rfl onlyN_noPanic (by kernel_rfl) (fun K hK => ?_); (go_simp; try go_bits); refine hK _ ?_; clear hK K
  refine wpR_rd 3 #[true, true, true, true, false, false, false, false, false, false, false, false, false, false, false, false, false, false] rfl onlyN_noPanic (by kernel_rfl) (fun K hK => ?_); (go_simp; try go_bits); refine hK _ ?_; clear hK K
  refine wpR_pu 5 #[true, true, true, true, false, true, false, false, false, false, false, false, false, false, false, false, false, false] rfl onlyN_noPanic (by kernel_rfl) (fun K hK => ?_); (go_simp; try go_bits); refine hK _ ?_; clear hK K
  refine wpR_pu 6 #[true, true, true, true, false, true, true, false, false, false, false, false, false, false, false, false, false, false] rfl onlyN_noPanic (by kernel_rfl) (fun K hK => ?_); (go_simp; try go_bits); refine hK _ ?_; clear hK K
  refine wpR_held (i := 7) (v := .slice A1 m1 c1) #[true, true, true, true, false, true, true, true, false, false, false, false, false, false, false, false, false, false] rfl onlyN_noPanic (by kernel_rfl) (p3_box HS5.out.drew) (.inl ⟨rfl, fun w' hT => ?_⟩) ?_
  · obtain ⟨z0, z1, z2⟩ := hT; go_simp
  simp only [Act.put, List.setIfInBounds_toArray, List.set_cons_zero, List.set_cons_succ]
  refine wpR_pu 9 #[true, true, true, true, false, true, true, true, false, true, false, false, false, false, false, false, false, false] rfl onlyN_noPanic (by kernel_rfl) (fun K hK => ?_); (go_simp; try go_bits); refine hK _ ?_; clear hK K
  refine wpR_pu 10 #[true, true, true, true, false, true, true, true, false, true, true, false, false, false, false, false, false, false] rfl onlyN_noPanic (by kernel_rfl) (fun K hK => ?_); (go_simp; try go_bits); refine hK _ ?_; clear hK K
  refine wpR_held (i := 11) (v := .slice A2 m2 c2) #[true, true, true, true, false, true, true, true, false, true, true, true, false, false, false, false, false, false] rfl onlyN_noPanic (by kernel_rfl) (p3_box HS5.out.drew) (.inl ⟨rfl, fun w' hT => ?_⟩) ?_
  · obtain ⟨z0, z1, z2⟩ := hT; go_simp
  simp only [Act.put, List.setIfInBounds_toArray, List.set_cons_zero, List.set_cons_succ]
  refine wpR_keep #[true, true, true, true, true, true, true, true, false, true, true, true, false, false, false, false, false, false] (i := 4) rfl (by kernel_rfl) (fun K hK => ?_)
  go_simp
  refine (ref6_slot E _ A0 (partI b (3 * g + 0)) m0 c0 _ HM0.out.1 (by rw [← HM0.out.1]; exact partI_le _ _) HM0.out.2.1 (fun w h => HM0.out.2.2 w ⟨P0, h.right⟩) HS5.out.drew).mono ?_
  rintro e u0 ⟨v0, rfl, hu0⟩
  obtain ⟨B0, d0, rfl, hd0, hdm0⟩ := hu0.row_slice
  have HU0 := Aside.mk hu0
  refine hK _ _ (p3_box hu0.right) ?_
  clear hK K hu0
  refine wpR_keep #[true, true, true, true, true, true, true, true, true, true, true, true, false, false, false, false, false, false] (i := 8) rfl (by kernel_rfl) (fun K hK => ?_)
  go_simp
  refine (ref6_slot E _ A1 (partI b (3 * g + 1)) m1 c1 _ HM1.out.1 (by rw [← HM1.out.1]; exact partI_le _ _) HM1.out.2.1 (fun w h => HM1.out.2.2 w ⟨P0, h.right.right⟩) HU0.out).mono ?_
  rintro e u1 ⟨v1, rfl, hu1⟩
  obtain ⟨B1, d1, rfl, hd1, hdm1⟩ := hu1.row_slice
  have HU1 := Aside.mk hu1
  refine hK _ _ (p3_box hu1.right.right) ?_
  clear hK K hu1
  refine wpR_eff #[true, true, true, true, true, true, true, true, true, true, true, true, true, false, false, false, false, false] (i := 12) rfl (by kernel_rfl) (fun K hK => ?_)
  go_simp
  refine (ref6_slot E _ A2 (partI b (3 * g + 2)) m2 c2 _ HM2.out.1 (by rw [← HM2.out.1]; exact partI_le _ _) HM2.out.2.1 (fun w h => HM2.out.2.2 w ⟨P0, h.right.right.right⟩) HU1.out).mono ?_
  rintro e u2 ⟨v2, rfl, hu2⟩
  obtain ⟨B2, d2, rfl, hd2, hdm2⟩ := hu2.row_slice
  have HU2 := Aside.mk hu2
  refine hK _ _ ?_
  clear hK K hu2
  refine wpR_eff #[true, true, true, true, true, true, true, true, true, true, true, true, true, true, false, false, false, false] (i := 13) rfl (by kernel_rfl) (fun K hK => ?_)
  go_simp; refine hK _ _ ?_; clear hK K
  have HX1 : Aside (Sat E (u2.alloc (.cells #[.slice B0 106 d0, .slice B1 106 d1, .slice B2 106 d2] 43)) (HP.pt u2.heap.size (.cells #[.slice B0 106 d0, .slice B1 106 d1, .slice B2 106 d2] 43) * (HP.row 5 1 (.slice B2 106 d2) 106 (b8s (slotI (partI b (3 * g + 2)))) * (HP.row 5 1 (.slice B1 106 d1) 106 (b8s (slotI (partI b (3 * g + 1)))) * (HP.row 5 1 (.slice B0 106 d0) 106 (b8s (slotI (partI b (3 * g + 0)))) * (HP.pt w3.heap.size (.cells #[.slice A0 m0 c0, .slice A1 m1 c1, .slice A2 m2 c2] 43) * (P0 * q))))))) := ⟨HU2.out.alloc _⟩
  clear HU0 HU1 HU2
  refine wpR_eff #[true, true, true, true, true, true, true, true, true, true, true, true, true, true, true, false, false, false] (i := 14) rfl (by kernel_rfl) (fun K hK => ?_)
  go_simp
  refine (ref6_xor E _ (some ⟨u2.heap.size, 0, none⟩) ([⟨B0, d0, slotI (partI b (3 * g + 0))⟩, ⟨B1, d1, slotI (partI b (3 * g + 1))⟩, ⟨B2, d2, slotI (partI b (3 * g + 2))⟩] : List (Sl Int)) 3 3 _ rfl (by omega) (fun s hs => slots3_len hs) (fun w h => slots3_cells h) HX1.out).mono ?_
  rintro e u3 ⟨v3, rfl, hu3⟩
  obtain ⟨B3, d3, rfl, hd3, hdm3⟩ := hu3.row_slice
  have HU3 := Aside.mk hu3
  refine hK _ _ ?_; clear hK K hu3 HX1
  refine wpR_eff #[true, true, true, true, true, true, true, true, true, true, true, true, true, true, true, true, false, false] (i := 15) rfl (by kernel_rfl) (fun K hK => ?_)
  go_simp; refine hK _ _ ?_; clear hK K
  have HX2 : Aside (Sat E (u3.alloc (.cells #[.slice B3 106 d3] 43)) (HP.row 43 1 (.slice (some ⟨w3.heap.size, 0, none⟩) 3 3) 3 [.slice A0 m0 c0, .slice A1 m1 c1, .slice A2 m2 c2] * (HP.row 5 1 (.slice B3 106 d3) 106 (b8s (xorLs [slotI (partI b (3 * g + 0)), slotI (partI b (3 * g + 1)), slotI (partI b (3 * g + 2))])) * (P0 * q)))) := ⟨by
    have h := (HU3.out.alloc (.cells #[.slice B3 106 d3] 43)).right
    have h2 := (h.perm (by ac_rfl : _ = HP.pt u2.heap.size (.cells #[.slice B0 106 d0, .slice B1 106 d1, .slice B2 106 d2] 43) * (HP.row 5 1 (.slice B2 106 d2) 106 (b8s (slotI (partI b (3 * g + 2)))) * (HP.row 5 1 (.slice B1 106 d1) 106 (b8s (slotI (partI b (3 * g + 1)))) * (HP.row 5 1 (.slice B0 106 d0) 106 (b8s (slotI (partI b (3 * g + 0)))) * (HP.pt w3.heap.size (.cells #[.slice A0 m0 c0, .slice A1 m1 c1, .slice A2 m2 c2] 43) * (HP.row 5 1 (.slice B3 106 d3) 106 (b8s (xorLs [slotI (partI b (3 * g + 0)), slotI (partI b (3 * g + 1)), slotI (partI b (3 * g + 2))])) * (P0 * q)))))))).right.right.right.right
    exact h2.row_mk (off := 0) (n := 3) (cap := 3) (size := 1) (Nat.le_refl _) (by unfold maxLen; omega) (by simp) (by rfl)⟩
  have HF : Aside (Cells (u3.alloc (.cells #[.slice B3 106 d3] 43)) (some ⟨u3.heap.size, 0, none⟩) [.slice B3 106 d3]) := ⟨Cells.fresh u3 [.slice B3 106 d3] 43 (0, 0)⟩
  refine wpR_eff #[true, true, true, true, true, true, true, true, true, true, true, true, true, true, true, true, true, false] (i := 16) rfl (by kernel_rfl) (fun K hK => ?_)
  refine Eq.mpr (if_pos (by rfl)) ?_; refine wp_append_row (n := 3) (m := 1) (c := 1) slBB5 rfl rfl (by rfl) HX2.out HF.out rfl rfl (by unfold maxLen; omega) (by omega) (fun v9 w9 hw9 => ?_)
  obtain ⟨V9, c9, rfl, hc9, hcm9⟩ := hw9.row_slice
  have HW9 := Aside.mk hw9
  refine hK _ _ ?_; clear hK K hw9 HX2 HF HU3 HS5
  refine wpR_rd 17 #[true, true, true, true, true, true, true, true, true, true, true, true, true, true, true, true, true, true] rfl onlyN_noPanic (by kernel_rfl) (fun K hK => ?_); (go_simp; try go_bits); refine hK _ ?_; clear hK K
  refine wpR_done (by kernel_rfl) ?_ _
  simp only [OnlyN]
  go_wp2
  go_ret
  have HL3 : Aside (xorLs [slotI (partI b (3 * g + 0)), slotI (partI b (3 * g + 1)), slotI (partI b (3 * g + 2))] = payS b g 3) := ⟨rfl⟩
  rw [HL3.out] at HW9
  refine ⟨V9, c9, HP.row 43 1 (.slice V9 4 c9) 4 [.slice A0 m0 c0, .slice A1 m1 c1, .slice A2 m2 c2, .slice B3 106 d3] * HP.row 5 1 (.slice B3 106 d3) 106 (b8s (payS b g 3)), [⟨A0, c0, payS b g 0⟩, ⟨A1, c1, payS b g 1⟩, ⟨A2, c2, payS b g 2⟩, ⟨B3, d3, payS b g 3⟩], rfl, hc9, rfl, ?_, fun w'' P h => ?_⟩
  · have h := HW9.out
    rw [HP.mul_assoc]
    exact h
  · rw [HP.mul_assoc] at h
    have l3 : (payS b g 3).length = 106 := by unfold payS; rw [if_pos rfl, parI_length]
    constructor
    · have hc := h.row_cells
      simp only [List.map_cons, List.map_nil, Sl.val8]
      rw [show (payS b g 0).length = m0 from HM0.out.1, show (payS b g 1).length = m1 from HM1.out.1, show (payS b g 2).length = m2 from HM2.out.1, l3]
      exact hc
    · intro s hs
      simp only [List.mem_cons, List.not_mem_nil, or_false] at hs
      have hP : Sat E w'' (P * q) := h.right.right
      rcases hs with rfl | rfl | rfl | rfl
      · exact HM0.out.2.2 w'' ⟨P, hP⟩
      · exact HM1.out.2.2 w'' ⟨P, hP⟩
      · exact HM2.out.2.2 w'' ⟨P, hP⟩
      · exact h.right.row_cells
def storeX (A : Dk) (name : ByteArray) (gen : Int) (l : List Int) : Int × Dk := if 0 ≤ gen ∧ gen ≤ 4611686018427387904 then storeS A name gen.toNat l else (1, A)
set_option maxHeartbeats 8000000 in
set_option maxRecDepth 100000 in
theorem ref6_store_arg (E : Env) (q : HP) (y : Nat) (A : Dk) (name : ByteArray) (gen : Int) (v : Value) (w : World) (hg : ¬ (0 ≤ gen ∧ gen ≤ 4611686018427387904)) (hw : Sat E w (HP.rdisk y A * q)) :
    Calls Tryz.prog 15 #[.pointer (some ⟨y, 0, none⟩), .string name, .int .i64 gen, v] w fun e w' => e = .returned (.int .i64 1) ∧ Sat E w' (HP.rdisk y A * q) := by
  have H := Aside.mk hw
  have hd : gen < 0 ∨ (¬ gen < 0 ∧ 4611686018427387904 < gen) := by omega
  clear hw hg
  rcases hd with h0 | ⟨h0, h1⟩
  all_goals
    go_enter Tryz.func15, Tryz.ntmps15
    go_wp2
    go_ret
    exact ⟨rfl, H.out⟩
set_option maxHeartbeats 8000000 in
set_option maxRecDepth 100000 in
theorem ref6_store (E : Env) (q : HP) (y : Nat) (A : Dk) (name : ByteArray) (gen : Nat) (Ap : Option Addr) (l : List Int) (m c : Nat) (w : World) (hname : name.size + 2 ≤ maxLen) (hgen : (gen : Int) ≤ 4611686018427387904) (hlm : l.length = m) (hmc : m ≤ c) (hcm : c ≤ maxLen) (hm9 : m ≤ 140737488351232) (hl : Bytes l)
    (hq : ∀ w, Sat E w q → Cells w Ap (b8s l)) (hw : Sat E w (HP.rdisk y A * q)) :
    Calls Tryz.prog 15 #[.pointer (some ⟨y, 0, none⟩), .string name, .int .i64 gen, .slice Ap m c] w fun e w' => e = .returned (.int .i64 (storeS A name gen l).1) ∧ Sat E w' (HP.rdisk y (storeS A name gen l).2 * q) := by
  have HS : Aside (storeS A name gen l = if (dropS A name).1 = 0 then wrT (dropS A name).2 gen (fsS name l) else dropS A name) := ⟨rfl⟩
  have HQ := Aside.mk (And.intro hq (And.intro hl (And.intro hlm (And.intro hw (And.intro hname (And.intro hcm hmc))))))
  have g0 : ¬ (gen : Int) < 0 := by omega
  have g1 : ¬ 4611686018427387904 < (gen : Int) := by omega
  obtain ⟨n, hn⟩ : ∃ n, n = groupsN m := ⟨_, rfl⟩
  have hn9 : n ≤ 600000000000 := by
    have := groupsN_bounds m
    omega
  have HN := Aside.mk hn
  have HGI : Aside (groupsI (m : Int) = (n : Int)) := ⟨by rw [groupsI_nat, hn]⟩
  have HF : Aside (fsS name l = [(name ++ dot0, paysS l n 0), (name ++ dot1, paysS l n 1), (name ++ dot2, paysS l n 2), (name ++ dotP, paysS l n 3)]) := ⟨by unfold fsS; rw [hlm, ← hn]⟩
  clear hq hl hlm hw hcm hn
  go_enter Tryz.func15, Tryz.ntmps15
  go_wp2_with fail
  refine (ref6_drop E q y A name _ hname HQ.out.2.2.2.1).mono ?_
  rintro e w2 ⟨rfl, h2⟩
  obtain ⟨cd, B, hdr⟩ : ∃ cd B, dropS A name = (cd, B) := ⟨_, _, rfl⟩
  rw [hdr] at h2 HS ⊢
  dsimp only at h2 HS ⊢
  have H2 := Aside.mk h2
  clear h2 hdr
  by_cases h0 : cd = 0
  · subst h0
    rw [if_pos rfl] at HS
    have hfa : (name ++ dot0).size ≤ maxLen := by rw [(dot_size name).1]; exact hname
    have hfb : (name ++ dot1).size ≤ maxLen := by rw [(dot_size name).2.1]; exact hname
    have hfc : (name ++ dot2).size ≤ maxLen := by rw [(dot_size name).2.2.1]; exact hname
    have hfd : (name ++ dotP).size ≤ maxLen := by rw [(dot_size name).2.2.2]; exact hname
    go_wp2_with fail
    refine (ref6_files E _ name _ hname H2.out).mono ?_
    rintro e w3 ⟨gF, rfl, h3⟩
    obtain ⟨fa, hfae⟩ : ∃ fa, fa = name ++ dot0 := ⟨_, rfl⟩
    obtain ⟨fb, hfbe⟩ : ∃ fb, fb = name ++ dot1 := ⟨_, rfl⟩
    obtain ⟨fc, hfce⟩ : ∃ fc, fc = name ++ dot2 := ⟨_, rfl⟩
    obtain ⟨fd, hfde⟩ : ∃ fd, fd = name ++ dotP := ⟨_, rfl⟩
    rw [← hfae] at hfa HF h3
    rw [← hfbe] at hfb HF h3
    rw [← hfce] at hfc HF h3
    rw [← hfde] at hfd HF h3
    clear hfae hfbe hfce hfde hname H2
    have H3 := Aside.mk h3
    clear h3
    go_wp2
    go_loopw [32] (fun v32 wr => ∃ (h : Nat) (B' : Dk), h ≤ 4 ∧ v32 = .int .i64 h ∧ Aside (wrT B' gen ((fsS name l).drop h) = wrT B gen (fsS name l)) ∧ Aside (Sat E wr (HP.pt gF (.cells #[.string fa, .string fb, .string fc, .string fd] 9) * (HP.rdisk y B' * q)))) (fun i _ => 4 - (intOf i).toNat)
    case atStart => exact ⟨0, B, by omega, rfl, ⟨rfl⟩, H3⟩
    case round =>
      clear H3
      obtain ⟨h, B', hh, rfl, HA, HX⟩ := hrel
      by_cases hlt : h < 4
      · obtain ⟨f, hf, hff, hix⟩ : ∃ f : ByteArray, f.size ≤ maxLen ∧ (fsS name l).drop h = (f, paysS l n h) :: (fsS name l).drop (h + 1) ∧ (#[Value.string fa, Value.string fb, Value.string fc, Value.string fd] : Array Value)[h]? = some (.string f) := by
          rw [HF.out]
          have hc : h = 0 ∨ h = 1 ∨ h = 2 ∨ h = 3 := by omega
          rcases hc with h0 | h0 | h0 | h0 <;> subst h0
          · exact ⟨fa, hfa, rfl, rfl⟩
          · exact ⟨fb, hfb, rfl, rfl⟩
          · exact ⟨fc, hfc, rfl, rfl⟩
          · exact ⟨fd, hfd, rfl, rfl⟩
        have kf : wr.cell? ⟨gF, h, none⟩ = some (.string f) := by rw [HX.out.cell]; exact hix
        rw [hff] at HA
        clear hff hix
        have hlt2 : (h : Int) < 4 := by omega
        have HW : Aside (wrT B' gen ((f, paysS l n h) :: (fsS name l).drop (h + 1)) = if (wrF B' f gen 0 (paysS l n h)).1 = 0 then wrT (wrF B' f gen 0 (paysS l n h)).2 gen ((fsS name l).drop (h + 1)) else wrF B' f gen 0 (paysS l n h)) := ⟨rfl⟩
        go_wp2_with fail
        refine (ref6_groups m _ (by unfold wf64; omega)).mono ?_
        rintro e w4 ⟨rfl, hw4⟩
        subst w4
        rw [HGI.out]
        go_wp2
        go_loopw [40] (fun v40 w2 => ∃ (i : Nat) (B2 : Dk), i ≤ n ∧ v40 = .int .i64 i ∧ Aside (wrF B2 f gen i ((paysS l n h).drop i) = wrF B' f gen 0 (paysS l n h)) ∧ Aside (Sat E w2 (HP.pt gF (.cells #[.string fa, .string fb, .string fc, .string fd] 9) * (HP.rdisk y B2 * q)))) (fun i _ => n - (intOf i).toNat)
        case atStart => exact ⟨0, B', by omega, rfl, ⟨rfl⟩, HX⟩
        case round =>
          clear HX
          obtain ⟨i, B2, hi, rfl, HB, HT⟩ := hrel
          by_cases hin : i < n
          · have hpk := paysS_drop l n h hin
            rw [hpk] at HB
            have hin2 : (i : Int) < n := by omega
            have HT2 : Aside (Sat E wr ((HP.pt gF (.cells #[.string fa, .string fb, .string fc, .string fd] 9) * HP.rdisk y B2) * q)) := ⟨by rw [HP.mul_assoc]; exact HT.out⟩
            clear hpk HT
            go_wp2_with fail
            refine (ref6_payloads E _ q Ap l m c i _ HQ.out.2.2.1 HQ.out.2.2.2.2.2.2 HQ.out.2.2.2.2.2.1 (by omega) HQ.out.1 HT2.out).mono ?_
            rintro e w5 ⟨V, cV, R, ss, rfl, hcV, hss, h5, hR⟩
            have h6 : Sat E w5 (R * (HP.pt gF (.cells #[.string fa, .string fb, .string fc, .string fd] 9) * (HP.rdisk y B2 * q))) := by rw [← HP.mul_assoc (HP.pt gF _)]; exact h5
            have hc5 := hR w5 _ h5
            have hsl : ss.length = 4 := by have := congrArg List.length hss; simpa using this
            have hhs : h < ss.length := by omega
            obtain ⟨s, hs⟩ : ∃ s, ss[h]? = some s := ⟨_, List.getElem?_eq_getElem hhs⟩
            have hsp : s.l = payS l i h := by
              have e1 : (ss.map (·.l))[h]? = some s.l := by rw [List.getElem?_map, hs]; rfl
              rw [hss] at e1
              have hc : h = 0 ∨ h = 1 ∨ h = 2 ∨ h = 3 := by omega
              rcases hc with h0 | h0 | h0 | h0 <;> subst h0 <;> simpa using e1.symm
            have hV : ∃ gV oV, V = some ⟨gV, oV, none⟩ := by
              obtain ⟨a, ha, -⟩ := hc5.1.at_ 0 (by rw [List.length_map]; omega)
              obtain ⟨gs, os, rfl⟩ := slice_addr hc5.1 ha (k := 0) (by rw [List.length_map]; omega)
              exact ⟨gs, os, ha⟩
            obtain ⟨gV, oV, rfl⟩ := hV
            have kc : w5.cell? ⟨gV, oV + h, none⟩ = some (.slice s.A s.l.length s.cap) := by
              have := hc5.1.some_ h s.val8 (by rw [List.getElem?_map, hs]; rfl)
              rwa [addr_add] at this
            have HSC : Aside (∀ w P, Sat E w (R * (P * q)) → Cells w s.A (b8s s.l)) := ⟨fun w P h => (hR w P h).2 s (List.mem_of_getElem? hs)⟩
            obtain ⟨SA, sc, p⟩ := s
            dsimp only at hsp kc HSC
            have HZ : Aside (p.length ≤ 106 ∧ Bytes p) := ⟨by rw [hsp]; exact ⟨payS_length l i h, payS_bytes HQ.out.2.1 i h⟩⟩
            rw [← hsp] at HB
            have HN2 : Aside (wrF B2 f gen i (p :: (paysS l n h).drop (i + 1)) = if ¬ FrameOk i gen p.length then (1, B2) else if (B2.write f i (extI f i gen p)).1 = 0 then wrF (B2.write f i (extI f i gen p)).2 f gen (i + 1) ((paysS l n h).drop (i + 1)) else B2.write f i (extI f i gen p)) := ⟨rfl⟩
            rw [HB.out] at HN2
            have H6 := Aside.mk h6
            have H5 := Aside.mk h5
            have hh0 : (0 : Int) ≤ (h : Int) := by omega
            clear h5 h6 hR hc5 hss hs hhs hsl hsp HT2
            by_cases hfo : FrameOk (i : Int) gen p.length
            · rw [if_neg (fun hn => hn hfo)] at HN2
              have hi31 : (i : Int) ≤ 2147483647 := hfo.2.1
              go_wp2_with fail
              refine (ref_frame E _ f i gen SA p p.length sc _ hf hi31 hgen rfl HZ.out.1 HZ.out.2 (fun w h => HSC.out w _ h) H5.out).mono ?_
              rintro e w7 ⟨v7, rfl, h7⟩
              obtain ⟨A7, c7, rfl, -, -⟩ := h7.row_slice
              have hIl : (extI f i gen p).length = 128 := extI_length HZ.out.1
              generalize extI f i gen p = I at *
              have H7 : Aside (Sat E w7 (HP.rdisk y B2 * (HP.row 5 1 (.slice A7 128 c7) 128 (b8s I) * (R * (HP.pt gF (.cells #[.string fa, .string fb, .string fc, .string fd] 9) * q))))) := ⟨by
                have h := h7
                rw [HP.mul_assoc] at h
                exact h.perm (by ac_rfl)⟩
              clear h7 H5 H6 HSC hfo
              go_wp2_with fail
              refine (ref_write E _ y B2 f i A7 I 128 c7 _ hf hIl (by decide) (fun w h => h.row_cells) H7.out).mono ?_
              rintro e w8 ⟨rfl, h8⟩
              obtain ⟨c1, B3, hA1⟩ : ∃ c1 B3, B2.write f i I = (c1, B3) := ⟨_, _, rfl⟩
              rw [hA1] at h8 HN2 ⊢
              dsimp only at h8 HN2 ⊢
              have H8 : Aside (Sat E w8 (HP.pt gF (.cells #[.string fa, .string fb, .string fc, .string fd] 9) * (HP.rdisk y B3 * q))) := ⟨(h8.perm (by ac_rfl : _ = HP.row 5 1 (.slice A7 128 c7) 128 (b8s I) * (R * (HP.pt gF (.cells #[.string fa, .string fb, .string fc, .string fd] 9) * (HP.rdisk y B3 * q))))).right.right⟩
              clear h8 H7 hA1
              by_cases hc1 : c1 = 0
              · subst hc1
                rw [if_pos rfl] at HN2
                have HX2 : Aside (wrF B3 f gen (i + 1) ((paysS l n h).drop (i + 1)) = wrF B' f gen 0 (paysS l n h)) := ⟨by rw [HN2.out]⟩
                clear HN2 HB
                go_wp2
                go_roundw
                case rel => exact ⟨i + 1, B3, by omega, by push_cast; rfl, HX2, H8⟩
                case measure => simp [intOf]; omega
              · have hc3 : (c1 == 0) = false := by rw [beq_eq_false_iff_ne]; exact hc1
                rw [if_neg hc1] at HN2
                have HX2 : Aside (storeS A name gen l = (c1, B3)) := ⟨by rw [HS.out, ← HA.out, HW.out, HN2.out, if_neg hc1]⟩
                clear HN2 HB HA HW
                go_wp2
                go_ret
                rw [HX2.out]
                exact ⟨rfl, H8.out.right⟩
            · rw [if_pos hfo] at HN2
              have HX2 : Aside (storeS A name gen l = (1, B2)) := ⟨by rw [HS.out, ← HA.out, HW.out, HN2.out, if_neg (show ¬ (1 : Int) = 0 by decide)]⟩
              have HBW : Aside (B2.write f i [] = (1, B2)) := ⟨by unfold Dk.write; rw [if_pos (.inr (.inl (by decide)))]⟩
              have H7 : Aside (Sat E w5 (HP.rdisk y B2 * (R * (HP.pt gF (.cells #[.string fa, .string fb, .string fc, .string fd] 9) * q)))) := ⟨H6.out.perm (by ac_rfl)⟩
              have HFO := Aside.mk hfo
              clear H5 H6 HSC HN2 HB HA HW hfo
              go_wp2_with fail
              refine (ref_frame_bad f i gen SA p.length sc _ HFO.out).mono ?_
              rintro e w7 ⟨rfl, hw7⟩
              subst w7
              go_wp2_with fail
              refine (ref_write E _ y B2 f i none [] 0 0 _ hf rfl (by decide) (fun w h => Cells.nil _ _) H7.out).mono ?_
              rintro e w8 ⟨rfl, h8⟩
              rw [HBW.out] at h8 ⊢
              dsimp only at h8 ⊢
              have H8 : Aside (Sat E w8 (HP.rdisk y B2 * q)) := ⟨(h8.perm (by ac_rfl : _ = R * (HP.pt gF (.cells #[.string fa, .string fb, .string fc, .string fd] 9) * (HP.rdisk y B2 * q)))).right.right⟩
              clear h8 H7
              go_wp2
              go_ret
              rw [HX2.out]
              exact ⟨rfl, H8.out⟩
          · obtain rfl : i = n := by omega
            have hpl : (paysS l i h).drop i = [] := List.drop_eq_nil_of_le (by unfold paysS; rw [List.length_map, List.length_range]; exact Nat.le_refl _)
            rw [hpl] at HB
            clear hpl
            have HB2 : Aside (wrF B' f gen 0 (paysS l i h) = B2.sync f) := ⟨by rw [← HB.out]; rfl⟩
            rw [HB2.out] at HW
            clear HB
            go_wp2_with fail
            refine (ref_sync E _ y B2 f _ HT.out.s2).mono ?_
            rintro e w7 ⟨rfl, h7⟩
            obtain ⟨c2, B3, hA2⟩ : ∃ c2 B3, B2.sync f = (c2, B3) := ⟨_, _, rfl⟩
            rw [hA2] at h7 HW ⊢
            dsimp only at h7 HW ⊢
            have H7 : Aside (Sat E w7 (HP.pt gF (.cells #[.string fa, .string fb, .string fc, .string fd] 9) * (HP.rdisk y B3 * q))) := ⟨h7.s2⟩
            clear h7 HT hA2 HB2
            by_cases hc2 : c2 = 0
            · subst hc2
              rw [if_pos rfl] at HW
              have HX2 : Aside (wrT B3 gen ((fsS name l).drop (h + 1)) = wrT B gen (fsS name l)) := ⟨by rw [← HA.out, HW.out]⟩
              clear HW HA
              go_wp2
              go_roundw
              case rel => exact ⟨h + 1, B3, by omega, by push_cast; rfl, HX2, H7⟩
              case measure => simp [intOf]; omega
            · have hc3 : (c2 == 0) = false := by rw [beq_eq_false_iff_ne]; exact hc2
              rw [if_neg hc2] at HW
              have HX2 : Aside (storeS A name gen l = (c2, B3)) := ⟨by rw [HS.out, ← HA.out, HW.out]⟩
              clear HA HW
              go_wp2
              go_ret
              rw [HX2.out]
              exact ⟨rfl, H7.out.right⟩
      · obtain rfl : h = 4 := by omega
        rw [HF.out] at HA
        have HX2 : Aside (storeS A name gen l = (0, B')) := ⟨by rw [HS.out, HF.out, ← HA.out]; rfl⟩
        clear HA
        go_wp2
        go_ret
        rw [HX2.out]
        exact ⟨rfl, HX.out.right⟩
  · have hc3 : (cd == 0) = false := by rw [beq_eq_false_iff_ne]; exact h0
    rw [if_neg h0] at HS
    have HS3 := HS
    clear HS
    go_wp2
    go_ret
    rw [HS3.out]
    exact ⟨rfl, H2.out⟩
theorem Dk.Byt.wrF {f : ByteArray} {gen : Nat} : ∀ (ps : List (List Int)) {A : Dk} (i : Nat), A.Byt → (∀ p ∈ ps, Bytes p) → (wrF A f gen i ps).2.Byt
  | [], A, i, h, _ => h.sync f
  | p :: ps, A, i, h, hp => by
    show (if ¬ FrameOk i gen p.length then ((1 : Int), A) else if (A.write f i (extI f i gen p)).1 = 0 then Go.Proofs.YtnpinegpajbkeaaGreatDoor.wrF (A.write f i (extI f i gen p)).2 f gen (i + 1) ps else A.write f i (extI f i gen p)).2.Byt
    by_cases hf : FrameOk i gen p.length
    · rw [if_neg (by simpa using hf)]
      have hw := h.write f i (extI_bytes (name := f) (index := i) (gen := gen) hf.2.2.2.2 (hp p (List.mem_cons_self ..)))
      split
      · exact Dk.Byt.wrF ps (i + 1) hw fun x hx => hp x (List.mem_cons_of_mem _ hx)
      · exact hw
    · rw [if_pos hf]; exact h
theorem Dk.Byt.wrL {i gen : Nat} {ps : List (List Int)} (hp : ∀ p ∈ ps, Bytes p) : ∀ (fs : List ByteArray) {A : Dk}, A.Byt → (wrL A i gen ps fs).2.Byt
  | [], A, h => h
  | f :: fs, A, h => by
    show (if (Go.Proofs.YtnpinegpajbkeaaGreatDoor.wrF A f gen i ps).1 = 0 then Go.Proofs.YtnpinegpajbkeaaGreatDoor.wrL (Go.Proofs.YtnpinegpajbkeaaGreatDoor.wrF A f gen i ps).2 i gen ps fs else Go.Proofs.YtnpinegpajbkeaaGreatDoor.wrF A f gen i ps).2.Byt
    have hw := Dk.Byt.wrF (f := f) (gen := gen) ps i h hp
    split
    · exact Dk.Byt.wrL hp fs hw
    · exact hw
theorem Dk.Byt.wrP {A : Dk} (h : A.Byt) (x : ByteArray) (i gen : Nat) {ps : List (List Int)} (hp : ∀ p ∈ ps, Bytes p) : (wrP A x i gen ps).2.Byt := Dk.Byt.wrL hp _ h
theorem Dk.Byt.mendL {i g : Nat} {p : List Int} (hl : p.length ≤ 106) (hp : Bytes p) : ∀ (fs : List ByteArray) {A : Dk} (wr : Bool), A.Byt → (mendL i g p wr A fs).2.Byt
  | [], A, wr, h => h
  | f :: fs, A, wr, h => by
    rw [mendL_cons]
    have hw := h.write f (i : Int) (extI_bytes (name := f) (index := i) (gen := g) hl hp)
    split
    · exact Dk.Byt.mendL hl hp fs wr h
    · split
      · split
        · exact Dk.Byt.mendL hl hp fs true (hw.sync f)
        · exact hw.sync f
      · exact hw
theorem Dk.Byt.reads {A : Dk} (h : A.Byt) : ∀ f i c, A.cel f i = some c → Bytes c.read := fun f i c hc => by
  unfold Dk.cel at hc
  split at hc
  · exact (h.at f c (List.mem_of_getElem? hc)).1
  · cases hc
theorem Dk.Byt.mendP {A : Dk} (h : A.Byt) (x : ByteArray) (i : Int) : (mendP A x i).2.Byt := by
  unfold Go.Proofs.YtnpinegpajbkeaaGreatDoor.mendP
  split
  · exact h
  · exact Dk.Byt.mendL (getP_ok A x i).len (getP_byt fun f _ c hc => h.reads f i c hc) _ false h
set_option maxHeartbeats 4000000 in
set_option maxRecDepth 100000 in
theorem stripe_store_arg (E : Env) (q : HP) (d : Nat) (A : Dk) (name : ByteArray) (gen : Int) (v : Value) (w : World) (hg : ¬ (0 ≤ gen ∧ gen ≤ 4611686018427387904)) (hw : Sat E w (HP.disk d A * q)) :
    Calls Tryz.prog 14 #[.pointer (some ⟨d, 0, none⟩), .string name, .int .i64 gen, v] w fun e w' => e = .returned (.int .i64 1) ∧ Sat E w' (HP.disk d A * q) := by
  have H := Aside.mk hw
  have hd : gen < 0 ∨ (¬ gen < 0 ∧ 4611686018427387904 < gen) := by omega
  clear hw hg
  rcases hd with h0 | ⟨h0, h1⟩
  all_goals
    go_enter Tryz.func14, Tryz.ntmps14
    go_wp2_with fail
    refine (stripe_none E q d A _ H.out).mono ?_
    rintro e w1 ⟨rfl, h1⟩
    have H1 := Aside.mk h1
    clear h1
    go_wp2
    go_ret
    exact ⟨rfl, H1.out⟩
def PartOk (fr size : Int) : Prop := 0 ≤ fr ∧ fr ≤ 2147483647 ∧ 0 ≤ size ∧ size ≤ 2147483647
instance (fr size : Int) : Decidable (PartOk fr size) := by unfold PartOk; infer_instance
def partX (A : Dk) (name : ByteArray) (gen fr size : Int) : List Int × Int :=
  if PartOk fr size then (match partM (fun (i : Nat) k => atF A name gen ((i : Nat) : Int) k) (fr.toNat + size.toNat) fr.toNat (fr.toNat + size.toNat) [] with | none => ([], 50) | some l => (l, 0)) else ([], 1)
def uniP (E : Env) (q : HP) (r : List Int × Int) (e : Ending) (w' : World) : Prop :=
  ∃ V c R, e = .returned (.tuple #[.slice V r.1.length c, .int .i64 r.2]) ∧ r.1.length ≤ c ∧ Sat E w' (R * q) ∧ ∀ w'' q', Sat E w'' (R * q') → Cells w'' V (b8s r.1)
theorem uniP_nil {E : Env} {q : HP} {k : Int} {w' : World} (h : Sat E w' q) : uniP E q ([], k) (.returned (.tuple #[.slice none 0 0, .int .i64 k])) w' :=
  ⟨none, 0, HP.emp, rfl, Nat.le_refl _, h.emp_intro, fun w'' q' _ => Cells.nil _ _⟩
theorem uniP_of {E : Env} {q : HP} {l : List Int} {v : Value} {w' : World} (h : Sat E w' (HP.row 5 1 v l.length (b8s l) * q)) : uniP E q (l, 0) (.returned (.tuple #[v, .int .i64 0])) w' := by
  obtain ⟨V, c, rfl, hc, -⟩ := h.row_slice
  exact ⟨V, c, _, rfl, hc, h, fun w'' q' h => h.row_cells⟩
set_option maxHeartbeats 4000000 in
set_option maxRecDepth 100000 in
theorem stripe_part_arg (E : Env) (q : HP) (d : Nat) (A : Dk) (name : ByteArray) (gen fr size : Int) (w : World) (hf : wf64 fr) (hs : wf64 size) (hg : ¬ PartOk fr size) (hw : Sat E w (HP.disk d A * q)) :
    Calls Tryz.prog 23 #[.pointer (some ⟨d, 0, none⟩), .string name, .int .i64 gen, .int .i64 fr, .int .i64 size] w fun e w' => e = .returned (.tuple #[.slice none 0 0, .int .i64 1]) ∧ Sat E w' (HP.disk d A * q) := by
  have H := Aside.mk hw
  have hd : fr < 0 ∨ (¬ fr < 0 ∧ 2147483647 < fr) ∨ (¬ fr < 0 ∧ ¬ 2147483647 < fr ∧ size < 0) ∨ (¬ fr < 0 ∧ ¬ 2147483647 < fr ∧ ¬ size < 0 ∧ 2147483647 < size) := by unfold PartOk at hg; omega
  clear hw hg
  rcases hd with h0 | ⟨h0, h1⟩ | ⟨h0, h1, h2⟩ | ⟨h0, h1, h2, h3⟩
  all_goals
    go_enter Tryz.func23, Tryz.ntmps23
    go_wp2_with fail
    refine (stripe_none E q d A _ H.out).mono ?_
    rintro e w1 ⟨rfl, h9⟩
    have H1 := Aside.mk h9
    clear h9
    go_wp2
    go_ret2
    exact ⟨rfl, H1.out⟩
set_option maxHeartbeats 4000000 in
set_option maxRecDepth 100000 in
theorem ref6_part_arg (E : Env) (q : HP) (y : Nat) (A : Dk) (name : ByteArray) (gen fr size : Int) (w : World) (hf : wf64 fr) (hs : wf64 size) (hg : ¬ PartOk fr size) (hw : Sat E w (HP.rdisk y A * q)) :
    Calls Tryz.prog 24 #[.pointer (some ⟨y, 0, none⟩), .string name, .int .i64 gen, .int .i64 fr, .int .i64 size] w fun e w' => e = .returned (.tuple #[.slice none 0 0, .int .i64 1]) ∧ Sat E w' (HP.rdisk y A * q) := by
  have H := Aside.mk hw
  have hd : fr < 0 ∨ (¬ fr < 0 ∧ 2147483647 < fr) ∨ (¬ fr < 0 ∧ ¬ 2147483647 < fr ∧ size < 0) ∨ (¬ fr < 0 ∧ ¬ 2147483647 < fr ∧ ¬ size < 0 ∧ 2147483647 < size) := by unfold PartOk at hg; omega
  clear hw hg
  rcases hd with h0 | ⟨h0, h1⟩ | ⟨h0, h1, h2⟩ | ⟨h0, h1, h2, h3⟩
  all_goals
    go_enter Tryz.func24, Tryz.ntmps24
    go_wp2
    go_ret2
    exact ⟨rfl, H.out⟩
theorem byt_slots {A : Dk} (hb : A.Byt) (name : ByteArray) (gen : Int) : ∀ (i : Int) j, j < 4 → Bytes (slotsL A name gen i j) := fun i j hj => readS_byt fun c hc => hb.reads _ _ c hc
theorem atOk_whole {E : Env} {A : Dk} {name : ByteArray} {gen : Int} (hb : A.Byt) : AtOk E A name gen (fun (i : Nat) k => atF A name gen ((i : Nat) : Int) k) where
  call q' b G R n i k w hk hG hw := stripe_at E q' b A name gen i G R n k w (by omega) hG (byt_slots hb name gen i) hw
  len i k := atF_length _ _ _ _ _
  bytes i k hk := atF_byt (by omega) (byt_slots hb name gen i)
theorem stripe_partx (E : Env) (q : HP) (d : Nat) (A : Dk) (name : ByteArray) (gen fr size : Int) (w : World) (hname : name.size + 2 ≤ maxLen) (hf : wf64 fr) (hs : wf64 size) (hb : A.Byt) (hq : ∀ w, Sat E w q → Quarter w) (hw : Sat E w (HP.disk d A * q)) :
    Calls Tryz.prog 23 #[.pointer (some ⟨d, 0, none⟩), .string name, .int .i64 gen, .int .i64 fr, .int .i64 size] w (uniP E (HP.disk d A * q) (partX A name gen fr size)) := by
  unfold partX
  by_cases h : PartOk fr size
  · rw [if_pos h]
    unfold PartOk at h
    obtain ⟨f, rfl⟩ : ∃ f : Nat, fr = f := ⟨fr.toNat, by omega⟩
    obtain ⟨s, rfl⟩ : ∃ s : Nat, size = s := ⟨size.toNat, by omega⟩
    rw [Int.toNat_natCast, Int.toNat_natCast]
    refine (stripe_part E q d A name gen f s _ w hname (by omega) (by omega) (fun k hk i c hc => hb.reads _ i c hc) (atOk_whole hb) hq hw).mono ?_
    intro e w' he
    cases hr : partM (fun (i : Nat) k => atF A name gen ((i : Nat) : Int) k) (f + s) f (f + s) [] with
    | none =>
      rw [hr] at he
      obtain ⟨rfl, hw'⟩ := he
      exact uniP_nil hw'
    | some l =>
      rw [hr] at he
      obtain ⟨v, rfl, hw'⟩ := he
      exact uniP_of hw'
  · rw [if_neg h]
    refine (stripe_part_arg E q d A name gen fr size w hf hs h hw).mono ?_
    rintro e w' ⟨rfl, hw'⟩
    exact uniP_nil hw'
theorem ref6_partx (E : Env) (q : HP) (y : Nat) (A : Dk) (name : ByteArray) (gen fr size : Int) (w : World) (hname : name.size + 2 ≤ maxLen) (hf : wf64 fr) (hs : wf64 size) (hb : A.Byt) (hw : Sat E w (HP.rdisk y A * q)) :
    Calls Tryz.prog 24 #[.pointer (some ⟨y, 0, none⟩), .string name, .int .i64 gen, .int .i64 fr, .int .i64 size] w (uniP E (HP.rdisk y A * q) (partX A name gen fr size)) := by
  unfold partX
  by_cases h : PartOk fr size
  · rw [if_pos h]
    unfold PartOk at h
    obtain ⟨f, rfl⟩ : ∃ f : Nat, fr = f := ⟨fr.toNat, by omega⟩
    obtain ⟨s, rfl⟩ : ∃ s : Nat, size = s := ⟨size.toNat, by omega⟩
    rw [Int.toNat_natCast, Int.toNat_natCast]
    refine (ref6_partOk E q y A name gen f s w hname (by omega) (by omega) (fun k hk i c hc => hb.reads _ i c hc) (byt_slots hb name gen) hw).mono ?_
    intro e w' he
    cases hr : partM (fun (i : Nat) k => atF A name gen ((i : Nat) : Int) k) (f + s) f (f + s) [] with
    | none =>
      rw [hr] at he
      obtain ⟨rfl, hw'⟩ := he
      exact uniP_nil hw'
    | some l =>
      rw [hr] at he
      obtain ⟨v, rfl, hw'⟩ := he
      exact uniP_of hw'
  · rw [if_neg h]
    refine (ref6_part_arg E q y A name gen fr size w hf hs h hw).mono ?_
    rintro e w' ⟨rfl, hw'⟩
    exact uniP_nil hw'
theorem stripe_storex (E : Env) (q : HP) (d : Nat) (A : Dk) (name : ByteArray) (gen : Int) (Ap : Option Addr) (l : List Int) (m c : Nat) (w : World) (hname : name.size + 2 ≤ maxLen) (hlm : l.length = m) (hmc : m ≤ c) (hcm : c ≤ maxLen) (hm9 : m ≤ 140737488351232) (hl : Bytes l)
    (hq : ∀ w, Sat E w q → Quarter w ∧ Cells w Ap (b8s l)) (hw : Sat E w (HP.disk d A * q)) :
    Calls Tryz.prog 14 #[.pointer (some ⟨d, 0, none⟩), .string name, .int .i64 gen, .slice Ap m c] w fun e w' => e = .returned (.int .i64 (storeX A name gen l).1) ∧ Sat E w' (HP.disk d (storeX A name gen l).2 * q) := by
  unfold storeX
  by_cases h : 0 ≤ gen ∧ gen ≤ 4611686018427387904
  · rw [if_pos h]
    obtain ⟨g, rfl⟩ : ∃ g : Nat, gen = g := ⟨gen.toNat, by omega⟩
    rw [Int.toNat_natCast]
    exact stripe_store E q d A name g Ap l m c w hname h.2 hlm hmc hcm hm9 hl hq hw
  · rw [if_neg h]
    exact stripe_store_arg E q d A name gen _ w h hw
theorem ref6_storex (E : Env) (q : HP) (y : Nat) (A : Dk) (name : ByteArray) (gen : Int) (Ap : Option Addr) (l : List Int) (m c : Nat) (w : World) (hname : name.size + 2 ≤ maxLen) (hlm : l.length = m) (hmc : m ≤ c) (hcm : c ≤ maxLen) (hm9 : m ≤ 140737488351232) (hl : Bytes l)
    (hq : ∀ w, Sat E w q → Cells w Ap (b8s l)) (hw : Sat E w (HP.rdisk y A * q)) :
    Calls Tryz.prog 15 #[.pointer (some ⟨y, 0, none⟩), .string name, .int .i64 gen, .slice Ap m c] w fun e w' => e = .returned (.int .i64 (storeX A name gen l).1) ∧ Sat E w' (HP.rdisk y (storeX A name gen l).2 * q) := by
  unfold storeX
  by_cases h : 0 ≤ gen ∧ gen ≤ 4611686018427387904
  · rw [if_pos h]
    obtain ⟨g, rfl⟩ : ∃ g : Nat, gen = g := ⟨gen.toNat, by omega⟩
    rw [Int.toNat_natCast]
    exact ref6_store E q y A name g Ap l m c w hname h.2 hlm hmc hcm hm9 hl hq hw
  · rw [if_neg h]
    exact ref6_store_arg E q y A name gen _ w h hw
theorem Dk.Byt.dropT : ∀ (fs : List ByteArray) {A : Dk}, A.Byt → (dropT A fs).2.Byt
  | [], A, h => h
  | f :: fs, A, h => by
    unfold Go.Proofs.YtnpinegpajbkeaaGreatDoor.dropT
    have hr := h.remove f
    split
    · exact Dk.Byt.dropT fs h
    · split
      · exact Dk.Byt.dropT fs hr
      · exact hr
theorem Dk.Byt.wrT {gen : Nat} : ∀ (fs : List (ByteArray × List (List Int))) {A : Dk}, A.Byt → (∀ x ∈ fs, ∀ p ∈ x.2, Bytes p) → (wrT A gen fs).2.Byt
  | [], A, h, _ => h
  | (f, ps) :: fs, A, h, hp => by
    unfold Go.Proofs.YtnpinegpajbkeaaGreatDoor.wrT
    have hw := Dk.Byt.wrF (f := f) (gen := gen) ps 0 h (hp _ (List.mem_cons_self ..))
    split
    · exact Dk.Byt.wrT fs hw fun x hx => hp x (List.mem_cons_of_mem _ hx)
    · exact hw
theorem fsS_byt {name : ByteArray} {l : List Int} (hb : Bytes l) : ∀ x ∈ fsS name l, ∀ p ∈ x.2, Bytes p := by
  intro x hx p hp
  unfold fsS at hx
  have hk : ∃ k, x.2 = paysS l (groupsN l.length) k := by
    simp only [List.mem_cons, List.not_mem_nil, or_false] at hx
    rcases hx with rfl | rfl | rfl | rfl
    · exact ⟨0, rfl⟩
    · exact ⟨1, rfl⟩
    · exact ⟨2, rfl⟩
    · exact ⟨3, rfl⟩
  obtain ⟨k, hk⟩ := hk
  rw [hk] at hp
  obtain ⟨g, -, rfl⟩ := paysS_mem hp
  exact payS_bytes hb g k
theorem Dk.Byt.storeX {A : Dk} (h : A.Byt) (x : ByteArray) (gen : Int) {l : List Int} (hb : Bytes l) : (storeX A x gen l).2.Byt := by
  unfold Go.Proofs.YtnpinegpajbkeaaGreatDoor.storeX
  split
  · unfold storeS
    have hd : (dropS A x).2.Byt := Dk.Byt.dropT _ h
    split
    · exact Dk.Byt.wrT _ hd (fsS_byt hb)
    · exact hd
  · exact h
theorem Dk.Byt.mendS {A : Dk} (h : A.Byt) (x : ByteArray) (gen i : Int) : (mendS A x gen i).2.Byt := by
  unfold Go.Proofs.YtnpinegpajbkeaaGreatDoor.mendS
  split
  · exact h
  · cases hf : firstBad A x gen i with
    | none => exact h
    | some k =>
      unfold mendK
      dsimp only
      have hk : k < 4 := by
        have := List.mem_of_find?_eq_some hf
        simp at this
        omega
      split
      · unfold mend1
        have hpb : Bytes (payI k (atF A x gen i k).1) := fun y hy => by
          have hb := atF_byt (A := A) (x := x) (gen := gen) (i := i) hk (byt_slots h x gen i)
          unfold payI at hy
          split at hy
          · exact hb y hy
          · exact hb y (List.mem_of_mem_drop (List.mem_of_mem_take hy))
        have hpl : (payI k (atF A x gen i k).1).length ≤ 106 := by
          have hl := atF_length A x gen i k
          unfold payI
          split
          · omega
          · rw [List.length_take, List.length_drop]; omega
        have hw := h.write (stripeF x k) ((i.toNat : Nat) : Int) (extI_bytes (name := stripeF x k) (index := i.toNat) (gen := gen.toNat) hpl hpb)
        split
        · exact hw.sync _
        · exact hw
      · exact h
theorem partM_byt {at_ : Nat → Nat → List Int × Bool} (hb : ∀ i k, k < 3 → Bytes (at_ i k).1) : ∀ (c fr en : Nat) (out r : List Int), Bytes out → partM at_ c fr en out = some r → Bytes r
  | 0, fr, en, out, r, ho, h => by
    unfold partM at h
    cases h
    exact ho
  | c + 1, fr, en, out, r, ho, h => by
    unfold partM at h
    split at h
    · split at h
      · exact partM_byt hb c _ en _ r (ho.append fun x hx => hb _ _ (by omega) x (List.mem_of_mem_drop (List.mem_of_mem_take hx))) h
      · cases h
    · cases h
      exact ho
theorem partX_byt {A : Dk} (hb : A.Byt) (name : ByteArray) (gen fr size : Int) : Bytes (partX A name gen fr size).1 := by
  unfold partX
  split
  · cases hr : partM (fun (i : Nat) k => atF A name gen ((i : Nat) : Int) k) (fr.toNat + size.toNat) fr.toNat (fr.toNat + size.toNat) [] with
    | none => exact fun x hx => (by cases hx)
    | some l => exact partM_byt (fun i k hk => atF_byt (by omega) (byt_slots hb name gen i)) _ _ _ _ _ (fun x hx => (by cases hx)) hr
  · exact fun x hx => (by cases hx)
set_option maxHeartbeats 2000000 in
set_option maxRecDepth 100000 in
theorem spoil_ok (E : Env) (q : HP) (bl : Nat) (A : Option Addr) (n c : Nat) (l : List Int) (w : World) (hn : n ≤ maxLen) (hw : Sat E w (HP.pt bl (.cells #[.slice A n c] 43) * (HP.row 5 1 (.slice A n c) n (b8s l) * q))) :
    Calls Tryz.prog 78 #[.slice (some ⟨bl, 0, none⟩) 1 1] w fun e w' => e = .returned (.tuple #[]) ∧ Sat E w' q := by
  unfold maxLen at hn
  have c0 := hw.cell 0
  simp only [List.getElem?_toArray, List.getElem?_cons_zero, List.getElem?_cons_succ] at c0
  have HW := Aside.mk hw
  clear hw
  go_enter Tryz.func78, Tryz.ntmps78
  go_wp2
  go_loopw [7] (fun v7 wr => ∃ k : Nat, k ≤ 1 ∧ v7 = .int .i64 k ∧ Aside (∃ l', Sat E wr (HP.pt bl (.cells #[.slice A n c] 43) * (HP.row 5 1 (.slice A n c) n (b8s l') * q)))) (fun i _ => 1 - (intOf i).toNat)
  case atStart => exact ⟨0, by omega, rfl, ⟨_, HW.out⟩⟩
  case round =>
    clear HW c0
    obtain ⟨k, hk, rfl, HS⟩ := hrel
    by_cases hlt : k < 1
    · obtain rfl : k = 0 := by omega
      obtain ⟨l', h⟩ := HS.out
      have c0 := h.cell 0
      simp only [List.getElem?_toArray, List.getElem?_cons_zero, List.getElem?_cons_succ] at c0
      have HS2 := Aside.mk h
      clear h HS
      go_wp2
      go_loopw [13] (fun v13 wi => ∃ i : Nat, i ≤ n ∧ v13 = .int .i64 i ∧ Aside (∃ l', Sat E wi (HP.pt bl (.cells #[.slice A n c] 43) * (HP.row 5 1 (.slice A n c) n (b8s l') * q)))) (fun i _ => n - (intOf i).toNat)
      case atStart => exact ⟨0, by omega, rfl, ⟨_, HS2.out⟩⟩
      case round =>
        clear HS2 c0
        obtain ⟨i, hi, rfl, HI⟩ := hrel
        by_cases hil : i < n
        · have hil2 : (i : Int) < (n : Int) := by omega
          have hi0 : (0 : Int) ≤ (i : Int) := by omega
          obtain ⟨l2, h⟩ := HI.out
          have hr := h.s2
          have hlen := hr.row_cases.1
          rw [b8s_length, Nat.mul_one] at hlen
          have hrc := hr.row_cells
          obtain ⟨pa, hpa, -⟩ := hrc.at_ i (by rw [b8s_length, hlen]; exact hil)
          obtain ⟨g, o, rfl⟩ : ∃ g o, pa = ⟨g, o, none⟩ := slice_addr hrc hpa (by rw [b8s_length, hlen]; exact hil)
          subst hpa
          obtain ⟨dv, hdv⟩ : ∃ dv, dv = l2.getD i 0 := ⟨_, rfl⟩
          have ci := hr.row_cell i (.int .u8 dv) (by
            rw [hdv]; unfold b8s
            rw [List.getElem?_map, List.getD_eq_getElem?_getD, List.getElem?_eq_getElem (by rw [hlen]; exact hil)]; rfl)
          have zi := hr.row_thaw i (by rw [b8s_length, hlen]; exact hil)
          have hs := hr.row_set i (by rw [b8s_length, hlen]; exact hil) (.int .u8 (bits .xor .u8 dv 255))
          rw [b8s_set] at hs
          have HS3 : Aside (∃ l', Sat E _ (HP.pt bl (.cells #[.slice (some ⟨g, o, none⟩) n c] 43) * (HP.row 5 1 (.slice (some ⟨g, o, none⟩) n c) n (b8s l') * q))) := ⟨⟨_, hs.s2⟩⟩
          clear hr hlen hrc hdv hs h HI
          go_wp2
          go_roundw
          case rel => exact ⟨i + 1, by omega, by go_num, HS3⟩
          case measure => simp [intOf]; omega
        · obtain rfl : i = n := by omega
          go_wp2
          go_roundw
          case rel => exact ⟨1, by omega, by go_num, HI⟩
          case measure => simp [intOf]
    · obtain rfl : k = 1 := by omega
      obtain ⟨l', h⟩ := HS.out
      have HS2 := Aside.mk h
      clear h HS
      go_wp2
      exact ⟨rfl, .tuple #[], by first | rfl | (unfold results; rw [show Tryz.f78.results = #[] by kernel_rfl]; simp), rfl, HS2.out.right.right⟩
end Go.Proofs.YtnpinegpajbkeaaGreatDoor
