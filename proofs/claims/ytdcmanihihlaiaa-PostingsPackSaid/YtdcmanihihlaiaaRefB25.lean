/- dryrotref25.body: what it reckons. -/
import Derived.Test.YtdcmanihihlaiaaRefA25
namespace Go.Proofs.Ytdcmanihihlaiaa
open Go.RowKit HP
set_option linter.unusedSimpArgs false
set_option linter.unusedVariables false

set_option maxHeartbeats 1000000 in
set_option maxRecDepth 100000 in
theorem refBody_ok (E : Env) (q : HP) (A : Option Addr) (p : List Int) (c : Nat) (w : World) (hl : p.length ≤ 1000) (last : Int) (h0 : 0 ≤ last) (hup : Up last p) (hw : Sat E w q) (hq : ∀ w, Sat E w q → Cells w A (i64s p)) :
    Calls Try.prog 42 #[.slice A p.length c] w fun e w' => ∃ v', e = .returned v' ∧ Sat E w' (row 5 1 v' (bodyI p).length (u8s (bodyI p)) * q) := by
  go_enter Try.func42, Try.ntmps42
  have HW := Aside.mk (hw.row_nil 5 1 none)
  have HUP := Aside.mk hup
  clear hw hup
  go_wp2
  go_loopw [3, 7] (fun x3 x7 wr => ∃ (k N : Nat), x7 = .int .i64 k ∧ k ≤ p.length ∧ N ≤ 10 * p.length ∧ Aside ((bodyTo p (k - 1)).length = N) ∧ Aside (Sat E wr (row 5 1 x3 N (u8s (bodyTo p (k - 1))) * q))) (fun _ x _ => p.length - (intOf x).toNat)
  case atStart => exact ⟨0, 0, rfl, Nat.zero_le _, Nat.zero_le _, ⟨by rw [bodyTo_zero]; rfl⟩, ⟨by rw [bodyTo_zero]; exact HW.out⟩⟩
  case round =>
    clear HW
    obtain ⟨k, N, rfl, hk, hN, HN, HS⟩ := hrel
    obtain ⟨A3, c3, rfl, -, -⟩ := HS.out.row_slice
    by_cases hlt : k < p.length
    · by_cases hk0 : k = 0
      · subst hk0
        go_wp2
        go_roundw
        case rel => exact ⟨1, N, by go_num, by omega, hN, HN, HS⟩
        case measure => simp [intOf]; omega
      · obtain ⟨j, rfl⟩ : ∃ j, k = j + 1 := ⟨k - 1, by omega⟩
        rw [Nat.add_sub_cancel] at HN HS
        have hc := hq _ HS.out.right
        obtain ⟨a, ha, hc1⟩ := hc.at_ (j + 1) (by rw [i64s_length]; exact hlt)
        obtain ⟨g, o, rfl⟩ : ∃ g o, a = ⟨g, o, none⟩ := slice_addr hc ha (k := j + 1) (by rw [i64s_length]; exact hlt)
        subst ha
        obtain ⟨a', ha', hc0⟩ := hc.at_ j (by rw [i64s_length]; omega)
        cases ha'
        rw [addr_add] at hc0 hc1
        simp only [i64s, List.getElem_map] at hc0 hc1
        have hlt2 := (List.pairwise_iff_getElem.1 HUP.out.2) j (j + 1) (by omega) hlt (by omega)
        have hb0 := HUP.out.1 _ (List.getElem_mem (show j < p.length by omega))
        have hb1 := HUP.out.1 _ (List.getElem_mem hlt)
        have HB : Aside (bodyTo p (j + 1) = bodyTo p j ++ shortI (p[j + 1] - p[j] - 1)) := ⟨bodyTo_succ hlt⟩
        have HBL : Aside ((bodyTo p (j + 1)).length ≤ 10 * p.length) := ⟨bodyTo_len (HUP.out.part h0) (j + 1)⟩
        generalize p[j + 1] = y1 at *
        generalize p[j] = y0 at *
        obtain ⟨n, hn⟩ : ∃ n : Nat, y1 - y0 - 1 = n := ⟨(y1 - y0 - 1).toNat, by omega⟩
        rw [hn, shortI_nat] at HB
        have hnb : n < 9223372036854775808 := by omega
        have hw1 : IntKind.i64.wrap (y1 - y0) = y1 - y0 := IntWalk.i64_in _ (by omega)
        have hw2 : IntKind.i64.wrap (y1 - y0 - 1) = (n : Int) := by rw [hn]; exact IntWalk.i64_in _ (by omega)
        have hjw : IntKind.i64.wrap ((j : Int) + 1 - 1) = (j : Int) := by rw [show ((j : Int) + 1 - 1) = (j : Int) by omega]; exact IntWalk.i64_in _ (by omega)
        have hj0 : (0 : Int) ≤ (j : Int) := by omega
        have hj1 : (j : Int) < (p.length : Int) := by omega
        have hj2 : (0 : Int) ≤ (j : Int) + 1 := by omega
        have hj3 : (j : Int) + 1 < (p.length : Int) := by omega
        have hj4 : (0 : Int) < (j : Int) + 1 := by omega
        have hsl := shortN_len 9 n (by omega)
        have HQ := Aside.mk hq
        clear hc hq hn hb0 hb1 hlt2
        go_wp2_with fail
        refine region_R [12, 13] [] (fun _ => True) #[false, false, false, false, false, false, false, false, false, false, false, false, false, false, false] (by kernel_rfl) rfl rfl ?_
        refine wpR_pu 0 #[true, false, false, false, false, false, false, false, false, false, false, false, false, false, false] rfl onlyN_noPanic (by kernel_rfl) (fun K hK => ?_); (go_simp; try go_bits); refine hK _ ?_; clear hK K
        refine wpR_rd 1 #[true, true, false, false, false, false, false, false, false, false, false, false, false, false, false] rfl onlyN_noPanic (by kernel_rfl) (fun K hK => ?_); (go_simp; try go_bits); refine hK _ ?_; clear hK K
        refine wpR_rd 2 #[true, true, true, false, false, false, false, false, false, false, false, false, false, false, false] rfl onlyN_noPanic (by kernel_rfl) (fun K hK => ?_); (go_simp; try go_bits); refine hK _ ?_; clear hK K
        refine wpR_rd 3 #[true, true, true, true, false, false, false, false, false, false, false, false, false, false, false] rfl onlyN_noPanic (by kernel_rfl) (fun K hK => ?_); (go_simp; try go_bits); refine hK _ ?_; clear hK K
        refine wpR_rd 4 #[true, true, true, true, true, false, false, false, false, false, false, false, false, false, false] rfl onlyN_noPanic (by kernel_rfl) (fun K hK => ?_); (go_simp; try go_bits); refine hK _ ?_; clear hK K
        refine wpR_rd 5 #[true, true, true, true, true, true, false, false, false, false, false, false, false, false, false] rfl onlyN_noPanic (by kernel_rfl) (fun K hK => ?_); (go_simp; try go_bits); refine hK _ ?_; clear hK K
        refine wpR_rd 6 #[true, true, true, true, true, true, true, false, false, false, false, false, false, false, false] rfl onlyN_noPanic (by kernel_rfl) (fun K hK => ?_); (go_simp; try go_bits); refine hK _ ?_; clear hK K
        refine wpR_rd 7 #[true, true, true, true, true, true, true, true, false, false, false, false, false, false, false] rfl onlyN_noPanic (by kernel_rfl) (fun K hK => ?_); (go_simp; try go_bits); refine hK _ ?_; clear hK K
        refine wpR_rd 8 #[true, true, true, true, true, true, true, true, true, false, false, false, false, false, false] rfl onlyN_noPanic (by kernel_rfl) (fun K hK => ?_); (go_simp; try go_bits); refine hK _ ?_; clear hK K
        refine wpR_rd 9 #[true, true, true, true, true, true, true, true, true, true, false, false, false, false, false] rfl onlyN_noPanic (by kernel_rfl) (fun K hK => ?_); (go_simp; try go_bits); refine hK _ ?_; clear hK K
        refine wpR_rd 10 #[true, true, true, true, true, true, true, true, true, true, true, false, false, false, false] rfl onlyN_noPanic (by kernel_rfl) (fun K hK => ?_); (go_simp; try go_bits); refine hK _ ?_; clear hK K
        refine wpR_rd 11 #[true, true, true, true, true, true, true, true, true, true, true, true, false, false, false] rfl onlyN_noPanic (by kernel_rfl) (fun K hK => ?_); (go_simp; try go_bits); refine hK _ ?_; clear hK K
        refine wpR_eff #[true, true, true, true, true, true, true, true, true, true, true, true, true, false, false] (i := 12) rfl (by kernel_rfl) (fun K hK => ?_)
        go_simp
        refine (refShort_ok E _ n _ hnb HS.out.drew).mono ?_
        rintro e w2 ⟨v2, rfl, hw2⟩
        obtain ⟨A2, c2, rfl, -, -⟩ := hw2.row_slice
        have HW2 := Aside.mk hw2
        clear hw2
        refine hK _ _ ?_; clear hK K
        refine wpR_eff #[true, true, true, true, true, true, true, true, true, true, true, true, true, true, false] (i := 13) rfl (by kernel_rfl) (fun K hK => ?_)
        refine Eq.mpr (if_pos (by rfl)) ?_
        refine wp_append_row slU8 (by rfl) (by rfl) (by rfl) HW2.out.s2 HW2.out.row_cells (by simp [u8s]) (by simp [u8s, Value.oneCell']) (by unfold maxLen; omega) (by omega) (fun v4 w4 hw4 => hK _ _ ?_); clear hK K
        obtain ⟨A4, c4, rfl, -, -⟩ := hw4.row_slice
        refine wpR_rd 14 #[true, true, true, true, true, true, true, true, true, true, true, true, true, true, true] rfl onlyN_noPanic (by kernel_rfl) (fun K hK => ?_); (go_simp; try go_bits); refine hK _ ?_; clear hK K
        refine wpR_done (by kernel_rfl) ?_ _
        simp only [OnlyN]
        go_wp2
        go_roundw
        case rel =>
          refine ⟨j + 1 + 1, N + (shortN n).length, by go_num, by omega, ?_, ⟨?_⟩, ⟨?_⟩⟩
          · have := HBL.out
            rw [HB.out, List.length_append, HN.out] at this
            exact this
          · rw [Nat.add_sub_cancel, HB.out, List.length_append, HN.out]
          · rw [Nat.add_sub_cancel, HB.out]
            have h9 := hw4.drop2
            simpa only [u8s, List.map_append] using h9
        case measure => simp [intOf]; omega
    · have HT : Aside (∃ v', Ending.returned (.slice A3 N c3) = .returned v' ∧ Sat E wr (row 5 1 v' (bodyI p).length (u8s (bodyI p)) * q)) := ⟨by
        have e1 : bodyTo p (k - 1) = bodyI p := bodyTo_all p _ (by omega)
        rw [← e1, HN.out]
        exact ⟨_, rfl, HS.out⟩⟩
      clear HS HN
      go_wp2
      go_ret
      exact HT.out
end Go.Proofs.Ytdcmanihihlaiaa
