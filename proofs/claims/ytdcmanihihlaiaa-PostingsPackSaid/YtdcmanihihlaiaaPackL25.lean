/- dryrotlaw25.PostingsPack: the walk. -/
import Derived.Test.YtdcmanihihlaiaaRefU25
import Derived.Test.YtdcmanihihlaiaaEqI
import Derived.Test.YtdcmanihihlaiaaOnce25
namespace Go.Proofs.Ytdcmanihihlaiaa
open Go.RowKit HP
set_option linter.unusedSimpArgs false
set_option linter.unusedVariables false

def resP (l : List Int) : List Int := if canB l = true then packI l else []
def errP (l : List Int) : Int := if canB l = true then 0 else 1
def resU (b : List Int) : List Int := (unpackI b).getD []
def errU (b : List Int) : Int := if (unpackI b).isSome = true then 0 else 5

theorem packAny (E : Env) (q : HP) (A : Option Addr) (l : List Int) (c : Nat) (w : World) (hl : l.length ≤ 100000) (hlc : l.length ≤ c) (hw : Sat E w q) (hq : ∀ w, Sat E w q → Cells w A (i64s l)) :
    Calls Try.prog 12 #[.slice A l.length c] w fun e w' => ∃ v, e = .returned (.tuple #[v, .int .i64 (errP l)]) ∧ Sat E w' (row 5 1 v (resP l).length (u8s (resP l)) * q) := by
  unfold errP resP
  by_cases hc : canB l = true
  · rw [if_pos hc, if_pos hc]
    exact pack_ok E q A l c w (by omega) hlc hw (fun w h => ⟨hq w h⟩) hc
  · rw [if_neg hc, if_neg hc]
    refine (pack_no A l c w (by omega) ⟨hq w hw⟩ (by simpa using hc)).mono ?_
    rintro e w' ⟨rfl, rfl⟩
    exact ⟨_, rfl, hw.row_nil _ _ _⟩
theorem refPackAny (E : Env) (q : HP) (A : Option Addr) (l : List Int) (c : Nat) (w : World) (hl : l.length ≤ 100000) (hlc : l.length ≤ c) (hw : Sat E w q) (hq : ∀ w, Sat E w q → Cells w A (i64s l)) :
    Calls Try.prog 17 #[.slice A l.length c] w fun e w' => ∃ v, e = .returned (.tuple #[v, .int .i64 (errP l)]) ∧ Sat E w' (row 5 1 v (resP l).length (u8s (resP l)) * q) := by
  unfold errP resP
  by_cases hc : canB l = true
  · rw [if_pos hc, if_pos hc]
    exact refPack_ok E q A l c w hl hlc hw hq hc
  · rw [if_neg hc, if_neg hc]
    refine (refPack_no A l c w (by omega) ⟨hq w hw⟩ (by simpa using hc)).mono ?_
    rintro e w' ⟨rfl, rfl⟩
    exact ⟨_, rfl, hw.row_nil _ _ _⟩
theorem unpackPost_any {E : Env} {q : HP} {b : List Int} {e : Ending} {w' : World} (h : unpackPost E q (unpackI b) e w') :
    ∃ v, e = .returned (.tuple #[v, .int .i64 (errU b)]) ∧ Sat E w' (row 3 1 v (resU b).length (i64s (resU b)) * q) := by
  unfold errU resU
  cases hu : unpackI b with
  | none =>
    rw [hu] at h
    obtain ⟨rfl, hw⟩ := h
    exact ⟨_, rfl, hw.row_nil _ _ _⟩
  | some l =>
    rw [hu] at h
    exact h
theorem resU_len (b : List Int) : (resU b).length ≤ 1000000 := by
  unfold resU
  cases hu : unpackI b with
  | none => simp
  | some l => exact (unpackI_some hu).2.2
theorem resP_len {l : List Int} (hl : l.length ≤ 100) : (resP l).length ≤ 1000000 := by
  unfold resP
  split
  · rename_i hc
    have hf := fits_of_can hc
    have hk := packSt_len (by omega) hf (starts ((l.length + 7) / 8))
    rw [starts_length] at hk
    show ((packSt l _).1 ++ (packSt l _).2.1).length ≤ _
    rw [List.length_append]
    omega
  · simp

set_option maxHeartbeats 2000000 in
set_option maxRecDepth 100000 in
theorem lawPack_ok (E : Env) (q : HP) (A B : Option Addr) (l0 b0 : List Int) (c d : Nat) (w : World) (hl : l0.length ≤ c) (hd : b0.length ≤ d) (hb0 : Bytes b0) (hw : Sat E w q) (hqa0 : ∀ w, Sat E w q → Cells w A (i64s l0)) (hqb0 : ∀ w, Sat E w q → Cells w B (u8s b0)) :
    Calls Try.prog 4 #[.slice A l0.length c, .slice B b0.length d] w fun e w' => e = .returned (.bool true) ∧ Sat E w' q := by
  obtain ⟨l, hlm⟩ : ∃ l : List Int, l = l0.take (min l0.length 80) := ⟨_, rfl⟩
  obtain ⟨b, m, hm, hmn⟩ : ∃ (b : List Int) (m : Nat), b = b0.take m ∧ m = (if b0.length ≤ 400 then b0.length else 400) := ⟨_, _, rfl, rfl⟩
  have hll : l.length = min l0.length 80 := by rw [hlm, List.length_take]; omega
  have hbm : b.length = m := by rw [hm, List.length_take, hmn]; split <;> omega
  have hb : Bytes b := by rw [hm]; exact fun x hx => hb0 x (List.mem_of_mem_take hx)
  have hqa : ∀ w, Sat E w q → Cells w A (i64s l) := fun w h => by
    have := (hqa0 w h).take (min l0.length 80)
    rw [hlm]; simpa [i64s] using this
  have hqb : ∀ w, Sat E w q → Cells w B (u8s b) := fun w h => by
    have := (hqb0 w h).take m
    rw [hm]; simpa [u8s] using this
  have hl100 : l.length ≤ 80 := by omega
  have hlc : l.length ≤ c := by omega
  have hb400 : b.length ≤ 400 := by rw [hbm, hmn]; split <;> omega
  have hbd : b.length ≤ d := by rw [hbm, hmn]; split <;> omega
  have HLL := Aside.mk hll
  have HBM := Aside.mk hbm
  have HQA := Aside.mk hqa
  have HQB := Aside.mk hqb
  have HB := Aside.mk hb
  clear hqa0 hqb0 hb0 hm hlm hll hbm hqa hqb hb
  go_enter Try.func4, Try.ntmps4
  have hW := Aside.mk hw
  clear hw
  have hite : (if 400 < (b0.length : Int) then (400 : Int) else (b0.length : Int)) = (m : Int) := by rw [hmn]; split <;> split <;> omega
  have hm0 : (0 : Int) ≤ (m : Int) := by omega
  have hmd : (m : Int) ≤ (d : Int) := by rw [hmn]; split <;> omega
  clear hmn
  go_wp2_with fail
  refine region_R [1] [] (fun _ => True) #[false, false, false, false, false, false, false, false, false] (by kernel_rfl) rfl rfl ?_
  refine wpR_rd 0 #[true, false, false, false, false, false, false, false, false] rfl onlyN_noPanic (by kernel_rfl) (fun K hK => ?_); (go_simp; try go_bits); refine hK _ ?_; clear hK K
  refine wpR_pu 2 #[true, false, true, false, false, false, false, false, false] rfl onlyN_noPanic (by kernel_rfl) (fun K hK => ?_); (go_simp; try go_bits); refine hK _ ?_; clear hK K
  refine wpR_pu 3 #[true, false, true, true, false, false, false, false, false] rfl onlyN_noPanic (by kernel_rfl) (fun K hK => ?_); (go_simp; try go_bits); refine hK _ ?_; clear hK K
  refine wpR_pu 4 #[true, false, true, true, true, false, false, false, false] rfl onlyN_noPanic (by kernel_rfl) (fun K hK => ?_); (go_simp; try go_bits); refine hK _ ?_; clear hK K
  refine wpR_pu 5 #[true, false, true, true, true, true, false, false, false] rfl onlyN_noPanic (by kernel_rfl) (fun K hK => ?_); (go_simp; try go_bits); refine hK _ ?_; clear hK K
  refine wpR_pu 6 #[true, false, true, true, true, true, true, false, false] rfl onlyN_noPanic (by kernel_rfl) (fun K hK => ?_); (go_simp; try go_bits); refine hK _ ?_; clear hK K
  refine wpR_eff #[true, true, true, true, true, true, true, false, false] (i := 1) rfl (by kernel_rfl) (fun K hK => ?_)
  go_simp
  refine (cut_ok A l0.length c _ hl).mono ?_
  rintro e w1 ⟨rfl, rfl⟩
  refine hK _ _ ?_; clear hK K
  refine wpR_rd 7 #[true, true, true, true, true, true, true, true, false] rfl onlyN_noPanic (by kernel_rfl) (fun K hK => ?_); (go_simp; try go_bits); refine hK _ ?_; clear hK K
  refine wpR_rd 8 #[true, true, true, true, true, true, true, true, true] rfl onlyN_noPanic (by kernel_rfl) (fun K hK => ?_); (go_simp; try go_bits); refine hK _ ?_; clear hK K
  refine wpR_done (by kernel_rfl) ?_ _
  simp only [OnlyN]
  rw [← HLL.out]
  rw [← HBM.out]
  go_wp2_with fail
  refine (cloneI_ok E q A l c _ (by omega) hW.out.drew (HQA.out _ hW.out.drew)).mono ?_
  rintro e w2 ⟨v2, rfl, hw2⟩
  obtain ⟨A2, c2, rfl, hlc2, -⟩ := hw2.row_slice
  have HW2 := Aside.mk hw2
  clear hw2 hW hite hm0 hmd
  go_wp2_with fail
  refine (cloneB_ok E _ B b d _ (by omega) HW2.out (HQB.out _ HW2.out.right)).mono ?_
  rintro e w3 ⟨v3, rfl, hw3⟩
  obtain ⟨A3, c3, rfl, hlc3, -⟩ := hw3.row_slice
  have HW3 := Aside.mk hw3
  clear hw3 HW2
  go_wp2_with fail
  refine (packAny E _ A2 l c2 _ (by omega) hlc2 HW3.out (fun w h => h.right.row_cells)).mono ?_
  rintro e w4 ⟨v4, rfl, hw4⟩
  obtain ⟨A4, c4, rfl, -, -⟩ := hw4.row_slice
  have HW4 := Aside.mk hw4
  clear hw4 HW3
  go_wp2_with fail
  refine (refPackAny E _ A l c _ (by omega) hlc HW4.out (fun w h => HQA.out w h.right.right.right)).mono ?_
  rintro e w5 ⟨v5, rfl, hw5⟩
  obtain ⟨A5, c5, rfl, -, -⟩ := hw5.row_slice
  have HW5 := Aside.mk hw5
  clear hw5 HW4
  go_wp2_with fail
  refine (unpack_ok E _ A3 b c3 _ hlc3 HB.out (by omega) HW5.out (fun w h => h.right.right.row_cells)).mono ?_
  intro e w6 h6
  obtain ⟨v6, rfl, hw6⟩ := unpackPost_any h6
  obtain ⟨A6, c6, rfl, -, -⟩ := hw6.row_slice
  have HW6 := Aside.mk hw6
  clear h6 hw6 HW5
  go_wp2_with fail
  refine (refUnpack_ok E _ B b d _ hbd HB.out (by omega) HW6.out (fun w h => HQB.out w h.right.right.right.right.right)).mono ?_
  intro e w7 h7
  rw [refUnpack_eq] at h7
  obtain ⟨v7, rfl, hw7⟩ := unpackPost_any h7
  obtain ⟨A7, c7, rfl, -, -⟩ := hw7.row_slice
  have HW7 := Aside.mk hw7
  clear h7 hw7 HW6
  have hrp : (resP l).length ≤ 9223372036854775806 := by
    have := resP_len (l := l) (by omega)
    omega
  have hru : (resU b).length ≤ 9223372036854775806 := by
    have := resU_len b
    omega
  go_wp2_with fail
  refine (equalB_ok A4 A5 (resP l) (resP l) c4 c5 _ HW7.out.s4.row_cells HW7.out.s3.row_cells hrp).mono ?_
  rintro e w1 ⟨rfl, n1, rfl⟩
  rw [show ((resP l) == (resP l)) = true by simp]
  have HW8 := Aside.mk (HW7.out.drewN (n := n1))
  clear HW7
  generalize World.drewN _ n1 = wd at *
  go_wp2_with fail
  refine (equalI_ok A6 A7 (resU b) (resU b) c6 c7 _ HW8.out.s2.row_cells HW8.out.row_cells hru).mono ?_
  rintro e w1 ⟨rfl, n1, rfl⟩
  rw [show ((resU b) == (resU b)) = true by simp]
  have HW9 := Aside.mk (HW8.out.drewN (n := n1))
  clear HW8
  generalize World.drewN _ n1 = wd at *
  go_wp2_with fail
  refine (equalI_ok A2 A (l) (l) c2 c _ HW9.out.s6.row_cells (HQA.out _ HW9.out.right.right.right.right.right.right) (by omega)).mono ?_
  rintro e w1 ⟨rfl, n1, rfl⟩
  rw [show ((l) == (l)) = true by simp]
  have HW10 := Aside.mk (HW9.out.drewN (n := n1))
  clear HW9
  generalize World.drewN _ n1 = wd at *
  go_wp2_with fail
  refine (equalB_ok A3 B (b) (b) c3 d _ HW10.out.s5.row_cells (HQB.out _ HW10.out.right.right.right.right.right.right) (by omega)).mono ?_
  rintro e w1 ⟨rfl, n1, rfl⟩
  rw [show ((b) == (b)) = true by simp]
  have HW11 := Aside.mk (HW10.out.drewN (n := n1))
  clear HW10
  generalize World.drewN _ n1 = wd at *
  go_wp2_with fail
  refine (awake_ok E _ _ HW11.out).mono ?_
  rintro e w8 ⟨rfl, hw8⟩
  have HT := Aside.mk hw8.right.right.right.right.right.right
  clear HW11 hw8
  go_wp2
  go_ret
  exact ⟨rfl, HT.out⟩
end Go.Proofs.Ytdcmanihihlaiaa
