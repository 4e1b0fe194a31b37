/- Texts of one claim, one behind the other: Rf18A, Rf18P, RdAny, Rf5G, WalN, Grow, ConcB, WalC. -/
import Derived.Test.YtcjcccbjgooooaaGreatDoorLz14
import Derived.Test.YtcjcccbjgooooaaGreatDoorProg
import Derived.Shelf.Spec.SlicesGrow
/- dryrotref18.Append over the document's disk. -/
namespace Go.Proofs.YtcjcccbjgooooaaGreatDoor
open Go.RowKit HP
set_option linter.unusedSimpArgs false
set_option linter.unusedVariables false

theorem ref_appendW_bad {A : Dk} {seg at_ lsn : Int} {b : List Int} (h : ¬ AppOk seg at_ lsn (wneedI b.length)) : appendW A seg at_ lsn b = ((0, 1), A) := by
  unfold appendW
  rw [if_neg h]
theorem piecesW_I (b : List Int) : piecesI (textW b) = piecesW (textW b) := by
  unfold piecesI piecesW
  rw [if_neg (by rw [textW_length]; omega)]
  rfl
set_option maxHeartbeats 4000000 in
set_option maxRecDepth 100000 in
theorem ref_wappend (E : Env) (q : HP) (y : Nat) (A : Dk) (seg at_ lsn : Int) (Ap : Option Addr) (b : List Int) (n c : Nat) (w : World) (hs : wf64 seg) (ha : wf64 at_) (hl : wf64 lsn) (hbn : b.length = n) (hnc : n ≤ c) (hcm : c ≤ maxLen) (hb : Bytes b)
    (hq : ∀ w, Sat E w q → Cells w Ap (b8s b)) (hw : Sat E w (HP.rdisk y A * q)) :
    Calls Tryz.prog 9 #[.pointer (some ⟨y, 0, none⟩), .int .i64 seg, .int .i64 at_, .int .i64 lsn, .slice Ap n c] w fun e w' => e = .returned (.tuple #[.int .i64 (appendW A seg at_ lsn b).1.1, .int .i64 (appendW A seg at_ lsn b).1.2]) ∧ Sat E w' (HP.rdisk y (appendW A seg at_ lsn b).2 * q) := by
  have hn64 : wf64 (n : Int) := by unfold wf64 maxLen at *; omega
  have HQ := Aside.mk (And.intro hq (And.intro hw (And.intro hbn (And.intro hb hn64))))
  have HSZ := Aside.mk (nameW_size hs)
  have H64 := Aside.mk hs
  unfold wf64 at hs ha hl
  obtain ⟨N, hN⟩ : ∃ N, N = wneedI n := ⟨_, rfl⟩
  have HN := Aside.mk hN
  have hN0 : 0 ≤ N ∧ N ≤ 10000 := by rw [hN]; unfold wneedI; split <;> omega
  have HBAD : Aside (¬ AppOk seg at_ lsn N → appendW A seg at_ lsn b = ((0, 1), A)) := ⟨fun h => ref_appendW_bad (by rw [hbn, ← hN]; exact h)⟩
  have HOK : Aside (AppOk seg at_ lsn N → appendW A seg at_ lsn b = (if (wrP A (nameW seg) at_.toNat lsn.toNat (piecesW (textW b))).1 = 0 then (N, 0) else (0, (wrP A (nameW seg) at_.toNat lsn.toNat (piecesW (textW b))).1), (wrP A (nameW seg) at_.toNat lsn.toNat (piecesW (textW b))).2)) := ⟨fun h => by
    unfold appendW
    rw [hbn, ← hN, if_pos h]⟩
  have HCH : Aside (N ≠ 0 → 1 ≤ n ∧ n ≤ 1000000) := ⟨fun h => by
    rw [hN] at h
    unfold wneedI at h
    split at h
    · exact absurd rfl h
    · omega⟩
  clear hq hw hbn hb hN hn64 hcm
  go_enter Tryz.func9, Tryz.ntmps9
  go_wp2_with fail
  refine (ref_wneed n _ HQ.out.2.2.2.2).mono ?_
  rintro e w0 ⟨rfl, hw0⟩
  subst w0
  rw [← HN.out]
  by_cases g0 : N = 0
  · subst g0
    have HX : Aside (appendW A seg at_ lsn b = ((0, 1), A)) := ⟨HBAD.out (fun h => by obtain ⟨a1, a2, a3, a4, a5, a6, a7⟩ := h; omega)⟩
    go_wp2
    all_goals (go_ret2; rw [HX.out]; exact ⟨rfl, HQ.out.2.1⟩)
  by_cases g1 : seg < 0
  · have HX : Aside (appendW A seg at_ lsn b = ((0, 1), A)) := ⟨HBAD.out (fun h => by obtain ⟨a1, a2, a3, a4, a5, a6, a7⟩ := h; omega)⟩
    go_wp2
    all_goals (go_ret2; rw [HX.out]; exact ⟨rfl, HQ.out.2.1⟩)
  by_cases g2 : 4611686018427387904 < seg
  · have HX : Aside (appendW A seg at_ lsn b = ((0, 1), A)) := ⟨HBAD.out (fun h => by obtain ⟨a1, a2, a3, a4, a5, a6, a7⟩ := h; omega)⟩
    go_wp2
    all_goals (go_ret2; rw [HX.out]; exact ⟨rfl, HQ.out.2.1⟩)
  by_cases g3 : lsn < 0
  · have HX : Aside (appendW A seg at_ lsn b = ((0, 1), A)) := ⟨HBAD.out (fun h => by obtain ⟨a1, a2, a3, a4, a5, a6, a7⟩ := h; omega)⟩
    go_wp2
    all_goals (go_ret2; rw [HX.out]; exact ⟨rfl, HQ.out.2.1⟩)
  by_cases g4 : 4611686018427387904 < lsn
  · have HX : Aside (appendW A seg at_ lsn b = ((0, 1), A)) := ⟨HBAD.out (fun h => by obtain ⟨a1, a2, a3, a4, a5, a6, a7⟩ := h; omega)⟩
    go_wp2
    all_goals (go_ret2; rw [HX.out]; exact ⟨rfl, HQ.out.2.1⟩)
  by_cases g5 : at_ < 0
  · have HX : Aside (appendW A seg at_ lsn b = ((0, 1), A)) := ⟨HBAD.out (fun h => by obtain ⟨a1, a2, a3, a4, a5, a6, a7⟩ := h; omega)⟩
    go_wp2
    all_goals (go_ret2; rw [HX.out]; exact ⟨rfl, HQ.out.2.1⟩)
  by_cases g6 : 2147483647 - N < at_
  · have HX : Aside (appendW A seg at_ lsn b = ((0, 1), A)) := ⟨HBAD.out (fun h => by obtain ⟨a1, a2, a3, a4, a5, a6, a7⟩ := h; omega)⟩
    go_wp2
    all_goals (go_ret2; rw [HX.out]; exact ⟨rfl, HQ.out.2.1⟩)
  have hok : AppOk seg at_ lsn N := ⟨g0, by omega, by omega, by omega, by omega, by omega, by omega⟩
  have HX0 := Aside.mk (HOK.out hok)
  obtain ⟨n1, n2⟩ := HCH.out g0
  obtain ⟨at1, rfl⟩ : ∃ at1 : Nat, at_ = (at1 : Int) := ⟨at_.toNat, by omega⟩
  obtain ⟨gen, rfl⟩ : ∃ gen : Nat, lsn = (gen : Int) := ⟨lsn.toNat, by omega⟩
  rw [Int.toNat_natCast, Int.toNat_natCast] at HX0
  have hwn : IntKind.u64.wrap (n : Int) = (n : Int) := by rw [IntKind.wrap_u64]; omega
  have HG := Aside.mk (And.intro (show (at1 : Int) ≤ 2147483647 by omega) (show (gen : Int) ≤ 4611686018427387904 by omega))
  have hNb : (N == 0) = false := by rw [beq_eq_false_iff_ne]; exact g0
  have hf1 : decide (seg < 0) = false := decide_eq_false g1
  have hf2 : decide (4611686018427387904 < seg) = false := decide_eq_false g2
  have hf3 : decide ((gen : Int) < 0) = false := decide_eq_false g3
  have hf4 : decide (4611686018427387904 < (gen : Int)) = false := decide_eq_false g4
  have hf5 : decide ((at1 : Int) < 0) = false := decide_eq_false g5
  have hf6 : decide (2147483647 - N < (at1 : Int)) = false := decide_eq_false g6
  clear hok HBAD HOK HCH HN
  go_wp2_with fail
  refine (ref_put E _ n 4 _ (by omega) (by omega) HQ.out.2.1).mono ?_
  rintro e w2 ⟨gp, rfl, h2⟩
  have hc2 := (HQ.out.1 _ h2.right.right)
  have H2 := Aside.mk (And.intro h2 hc2)
  clear h2 hc2
  go_wp2_with (at_builtin; go_loud (refine wpList_append_row slB8 rfl rfl (by rfl) (by rfl) H2.out.1 H2.out.2 (by rw [b8s_length, HQ.out.2.2.1, Nat.mul_one]) (b8s_one _) (by unfold maxLen; omega) (by omega) (fun v4 w4 hw4 => ?_); have HW4 := Aside.mk hw4; clear hw4))
  have e4 : b8s (putI n 4) ++ b8s b = b8s (textW b) := by unfold textW; rw [HQ.out.2.2.1, ← b8s_append]
  have htl : (textW b).length = 4 + n := by rw [textW_length, HQ.out.2.2.1]; omega
  have htb := textW_bytes HQ.out.2.2.2.1
  have hpI := piecesW_I b
  have h4 := HW4.out
  rw [e4] at h4
  obtain ⟨l, hl2⟩ : ∃ l, l = textW b := ⟨_, rfl⟩
  obtain ⟨m4, hm4⟩ : ∃ m4, m4 = 4 + n := ⟨_, rfl⟩
  rw [← hl2] at h4 htl htb hpI HX0
  rw [← hm4] at h4 htl
  obtain ⟨A0, c4, rfl, hc4, hc4m⟩ := h4.row_slice
  have H4 := Aside.mk h4
  have HB := Aside.mk (And.intro htb (And.intro htl hpI))
  have hm4b : 5 ≤ m4 ∧ m4 ≤ 1000004 := by omega
  have hc4b : m4 ≤ c4 ∧ (c4 : Int) ≤ 9223372036854775807 := by unfold maxLen at hc4m; omega
  obtain ⟨q0, hq0⟩ : ∃ q0, q0 = HP.row 5 1 (.slice A0 m4 c4) m4 (b8s l) * q := ⟨_, rfl⟩
  have HQ1 : Aside (∀ w, Sat E w q0 → Cells w A0 (b8s l) ∧ Sat E w q) := ⟨fun w h => by rw [hq0] at h; exact ⟨h.row_cells, h.right⟩⟩
  have HQ0 := Aside.mk hq0
  replace h4 : Sat E w4 (HP.rdisk y A * q0) := by rw [hq0]; exact h4.s2
  have HS0 : Aside (PartsAt E q0 l c4 0 A0 []) := ⟨⟨rfl, (fun s hs => by cases hs), (fun w h s hs => by cases hs), fun w h => by rw [Nat.mul_zero, List.drop_zero]; exact (HQ1.out w h).1, rfl⟩⟩
  have H1 := Aside.mk (h4.row_nil 28 1 none)
  clear hNb hf1 hf2 hf3 hf4 hf5 hf6 e4 htl htb hpI h4 hl2 hq0 HW4 H4 H2 hc4 hc4m g0 g1 g2 g3 g4 g5 g6 n1 n2 hm4 hN0 hs ha hl hnc hwn
  go_wp2
  go_loopw [13, 14] (fun v13 v14 wr => ∃ (j : Nat) (Aj : Option Addr) (ss : List (Sl Int)), 106 * j ≤ m4 ∧ (j = 0 ∨ 106 * j < m4) ∧ v13 = .slice Aj (m4 - 106 * j) (c4 - 106 * j) ∧ Aside (PartsAt E q0 l c4 j Aj ss) ∧ Aside (Sat E wr (HP.row 28 1 v14 ss.length (ss.map Sl.val8) * (HP.rdisk y A * q0)))) (fun x _ _ => sliceLen x)
  case atStart => exact ⟨0, A0, [], by omega, .inl rfl, by simp, HS0, H1⟩
  case round =>
    clear H1 HS0
    obtain ⟨j, Aj, ss, hj, hj2, rfl, HPT, HS⟩ := hrel
    obtain ⟨Vo, co, rfl, -, -⟩ := HS.out.row_slice
    have hsl : ss.length ≤ 1000004 := by have := HPT.out.many; omega
    have hlj : (l.drop (106 * j)).length = m4 - 106 * j := by rw [List.length_drop, HB.out.2.1]
    obtain ⟨m, hm⟩ : ∃ m, m = m4 - 106 * j := ⟨_, rfl⟩
    obtain ⟨cc, hcc⟩ : ∃ cc, cc = c4 - 106 * j := ⟨_, rfl⟩
    have hmc : m ≤ cc := by omega
    have hcc2 : (cc : Int) ≤ 9223372036854775807 := by omega
    rw [← hm] at hlj ⊢
    rw [← hcc]
    have HMC := Aside.mk (And.intro hm (And.intro hcc (And.intro hj (And.intro hj2 hlj))))
    have HC0 := Aside.mk (And.intro hm4b hc4b)
    clear hm hcc hj hj2 hlj hm4b hc4b
    by_cases hlt : 106 < m
    · have hlt2 : (106 : Int) < (m : Int) := by omega
      have hc0 := HPT.out.left _ HS.out.right.right
      obtain ⟨pa, rfl, -⟩ := hc0.at_ 0 (by rw [b8s_length, HMC.out.2.2.2.2]; omega)
      obtain ⟨g, o, rfl⟩ := slice_addr hc0 rfl (k := 0) (by rw [b8s_length, HMC.out.2.2.2.2]; omega)
      have h106c : ¬ (cc : Int) = 106 := by omega
      have h106n : ¬ cc = 106 := by omega
      have h106d : (106 : Int) ≤ (cc : Int) := by omega
      have h106e : (106 : Int) ≤ (m : Int) := by omega
      have h106f : (m : Int) ≤ (cc : Int) := by omega
      clear hc0
      go_upto_region 7 with fail
      refine region_R [3, 4] [] (fun _ => True) #[false, false, false, false, false, false, false, false, false] (by kernel_rfl) rfl rfl ?_
      have HSD := Aside.mk HS.out.drew
      clear HS
      revert HSD
      generalize World.drew wr = W0
      intro HS
      refine wpR_pu 0 #[true, false, false, false, false, false, false, false, false] rfl onlyN_noPanic (by kernel_rfl) (fun K hK => ?_); (go_simp; try go_bits); refine hK _ ?_; clear hK K
      refine wpR_rd 1 #[true, true, false, false, false, false, false, false, false] rfl onlyN_noPanic (by kernel_rfl) (fun K hK => ?_); (go_simp; try go_bits); refine hK _ ?_; clear hK K
      refine wpR_rd 2 #[true, true, true, false, false, false, false, false, false] rfl onlyN_noPanic (by kernel_rfl) (fun K hK => ?_); (go_simp; try go_bits); refine hK _ ?_; clear hK K
      refine wpR_pu 5 #[true, true, true, false, false, true, false, false, false] rfl onlyN_noPanic (by kernel_rfl) (fun K hK => ?_); (go_simp; try go_bits); refine hK _ ?_; clear hK K
      refine wpR_pu 6 #[true, true, true, false, false, true, true, false, false] rfl onlyN_noPanic (by kernel_rfl) (fun K hK => ?_); (go_simp; try go_bits); refine hK _ ?_; clear hK K
      refine wpR_eff #[true, true, true, true, false, true, true, false, false] (i := 3) rfl (by kernel_rfl) (fun K hK => ?_)
      go_simp
      refine hK _ _ ?_
      clear hK K
      refine wpR_eff #[true, true, true, true, true, true, true, false, false] (i := 4) rfl (by kernel_rfl) (fun K hK => ?_)
      refine Eq.mpr (if_pos (by rfl)) ?_
      refine wp_append_row (news := [.slice (some ⟨g, o, none⟩) 106 cc]) (m := 1) slBB5 rfl rfl rfl ((HS.out.alloc _).perm (left_comm _ _ _)) (Cells.fresh _ _ _ _) rfl rfl (by unfold maxLen; omega) (by omega) (fun v6 w6 hw6 => ?_)
      have HW6 := Aside.mk hw6.drop2
      clear hw6
      refine hK _ _ ?_
      clear hK K
      refine wpR_rd 7 #[true, true, true, true, true, true, true, true, false] rfl onlyN_noPanic (by kernel_rfl) (fun K hK => ?_); (go_simp; try go_bits); refine hK _ ?_; clear hK K
      refine wpR_rd 8 #[true, true, true, true, true, true, true, true, true] rfl onlyN_noPanic (by kernel_rfl) (fun K hK => ?_); (go_simp; try go_bits); refine hK _ ?_; clear hK K
      refine wpR_done (by kernel_rfl) ?_ _
      simp only [OnlyN]
      have hpl : (piece l j).length = 106 := by unfold piece; rw [List.length_take, HMC.out.2.2.2.2]; omega
      have HW7 : Aside (Sat E w6 (HP.row 28 1 v6 (ss ++ [(⟨some ⟨g, o, none⟩, cc, piece l j⟩ : Sl Int)]).length ((ss ++ [(⟨some ⟨g, o, none⟩, cc, piece l j⟩ : Sl Int)]).map Sl.val8) * (HP.rdisk y A * q0))) := ⟨by
        have h := HW6.out
        rw [List.length_append, List.map_append, List.map_cons, List.map_nil]
        unfold Sl.val8 at h ⊢
        rw [hpl]
        exact h⟩
      have HP7 : Aside (PartsAt E q0 l c4 (j + 1) (some ⟨g, o + 106, none⟩) (ss ++ [(⟨some ⟨g, o, none⟩, cc, piece l j⟩ : Sl Int)])) := ⟨by
        refine ⟨?_, fun s hs => ?_, fun w h s hs => ?_, fun w h => ?_, by rw [List.length_append, HPT.out.many]; rfl⟩
        · rw [List.map_append, HPT.out.same, range_snoc_map]; rfl
        · rcases List.mem_append.1 hs with hs | hs
          · exact HPT.out.pay s hs
          · obtain rfl := List.mem_singleton.1 hs
            exact ⟨by show (piece l j).length ≤ cc; omega, fun x hx => HB.out.1 x (List.mem_of_mem_drop (List.mem_of_mem_take hx))⟩
        · rcases List.mem_append.1 hs with hs | hs
          · exact HPT.out.cells w h s hs
          · obtain rfl := List.mem_singleton.1 hs
            have := (HPT.out.left w h).take 106
            unfold piece b8s at this ⊢
            rw [List.map_take]; exact this
        · have := (HPT.out.left w h).drop 106
          rw [addr_add] at this
          unfold b8s at this ⊢
          rw [show 106 * (j + 1) = 106 * j + 106 by omega, ← List.drop_drop, List.map_drop (l := l.drop (106 * j))]
          exact this⟩
      have hfin : 106 * (j + 1) ≤ m4 ∧ 106 * (j + 1) < m4 ∧ m4 - 106 * (j + 1) = m - 106 ∧ c4 - 106 * (j + 1) = cc - 106 := by
        have h1 := HMC.out.1
        have h2 := HMC.out.2.1
        have h3 := HC0.out.2.1
        omega
      have HFN := Aside.mk hfin
      clear hfin HW6 HS
      go_wp2
      go_roundw
      case rel => exact ⟨j + 1, some ⟨g, o + 106, none⟩, ss ++ [(⟨some ⟨g, o, none⟩, cc, piece l j⟩ : Sl Int)], HFN.out.1, .inr HFN.out.2.1, by rw [HFN.out.2.2.1, HFN.out.2.2.2], HP7, HW7⟩
      case measure => simp only [sliceLen]; omega
    · have hlt2 : ¬ (106 : Int) < (m : Int) := by omega
      go_wp2_with (at_builtin; (refine wpList_append_new slBB5 rfl rfl (by rfl) (by rfl) HS.out rfl rfl (by unfold maxLen; omega) (by omega) (fun v6 w6 hw6 => ?_); have HW6 := Aside.mk hw6; clear hw6))
      obtain ⟨V, cv, rfl, -, -⟩ := HW6.out.row_slice
      have HW7 : Aside (PartsEnd E (HP.rdisk y A * q0) q0 l V cv (ss ++ [(⟨Aj, cc, l.drop (106 * j)⟩ : Sl Int)]) w6) := ⟨by
        have h1 := HMC.out.1
        have h4 := HMC.out.2.2.2.1
        have h5 := HMC.out.2.2.2.2
        have h6 := HB.out.2.1
        refine ⟨?_, fun s hs => ?_, fun w h s hs => ?_, ?_⟩
        · rw [List.map_append, HPT.out.same]
          exact pieces_end (by rw [h6]; exact h4) (by rw [h6]; omega)
        · rcases List.mem_append.1 hs with hs | hs
          · exact HPT.out.pay s hs
          · obtain rfl := List.mem_singleton.1 hs
            exact ⟨by show (l.drop (106 * j)).length ≤ cc; omega, fun x hx => HB.out.1 x (List.mem_of_mem_drop hx)⟩
        · rcases List.mem_append.1 hs with hs | hs
          · exact HPT.out.cells w h s hs
          · obtain rfl := List.mem_singleton.1 hs
            exact HPT.out.left w h
        · have h := HW6.out
          rw [List.length_append, List.map_append, List.map_cons, List.map_nil]
          unfold Sl.val8 at h ⊢
          rw [h5]
          exact h⟩
      have hsl2 : ss.length + 1 ≤ 1000005 := by omega
      obtain ⟨sz, hsz⟩ : ∃ sz, sz = ss ++ [(⟨Aj, cc, l.drop (106 * j)⟩ : Sl Int)] := ⟨_, rfl⟩
      rw [← hsz] at HW7
      obtain ⟨mm, hmm⟩ : ∃ mm, mm = ss.length + 1 := ⟨_, rfl⟩
      have hzm : sz.length = mm := by rw [hsz, hmm, List.length_append]; rfl
      rw [← hmm] at hsl2
      have e1 : ∀ v, Value.slice v (ss.length + 1) cv = Value.slice v mm cv := fun v => by rw [hmm]
      simp only [e1]
      have h7 := HW7.out.sat
      rw [hzm] at h7
      have HZM := Aside.mk hzm
      have H7 := Aside.mk h7.s2
      clear h7 hsz hmm e1 hzm HW6 HS HPT HMC HC0 hlt hlt2 hcc2 hmc hsl
      go_wp2_with fail
      refine (ref_wname seg _ H64.out).mono ?_
      rintro e w8 ⟨rfl, hw8⟩
      subst w8
      obtain ⟨name, hname⟩ : ∃ name, name = nameW seg := ⟨_, rfl⟩
      have hsz2 : name.size + 2 ≤ maxLen := by rw [hname]; have := HSZ.out; unfold maxLen; omega
      rw [← hname] at HX0 ⊢
      have HNS := Aside.mk hsz2
      clear hname hsz2
      go_wp2_with fail
      refine (ref_both E _ y A name at1 gen V sz mm cv _ HNS.out HG.out.1 HG.out.2 HZM.out (by unfold maxLen; omega) HW7.out.pay (fun w h => ⟨h.row_cells, fun s hs => HW7.out.cells w h.right s hs⟩) H7.out).mono ?_
      rintro e w9 ⟨rfl, h9⟩
      rw [HW7.out.same, HB.out.2.2] at h9 ⊢
      have H9 : Aside (Sat E w9 (HP.rdisk y (wrP A name at1 gen (piecesW l)).2 * q)) := ⟨by
        have h := h9.drop2
        rw [HQ0.out] at h
        exact h.drop2⟩
      clear h9 H7 HW7 HZM
      generalize wrP A name at1 gen (piecesW l) = R at *
      obtain ⟨r1, B⟩ := R
      dsimp only at HX0 H9 ⊢
      by_cases hr : r1 = 0
      · subst hr
        rw [if_pos rfl] at HX0
        go_wp2
        go_ret2
        rw [HX0.out]
        exact ⟨rfl, H9.out⟩
      · rw [if_neg hr] at HX0
        go_wp2
        go_ret2
        rw [HX0.out]
        exact ⟨rfl, H9.out⟩
end Go.Proofs.YtcjcccbjgooooaaGreatDoor
/- The document's reader of a segment, extent by extent, in plain words: it is readG. -/
namespace Go.Proofs.YtcjcccbjgooooaaGreatDoor
open Go.RowKit HP
set_option linter.unusedVariables false
set_option linter.unusedSimpArgs false

/-- A record under way: its extents, its generation, how many were read, its bytes so far. -/
structure RecS where
  want : Nat
  gen : Int
  had : Nat
  text : List Int
/-- What a record begins as. -/
def RecS.fresh (g : Int × List Int) : RecS := ⟨(wneedI (sizeW g.2)).toNat, g.1, 0, []⟩
/-- What a record is behind an extent. -/
def RecS.more (s : RecS) (p : List Int) : RecS := ⟨s.want, s.gen, s.had + 1, s.text ++ p⟩
def RecBad (s : RecS) (g : Int × List Int) : Prop := g.1 ≠ s.gen ∨ (s.had + 1 < s.want ∧ g.2.length ≠ 106)
instance (s : RecS) (g : Int × List Int) : Decidable (RecBad s g) := by unfold RecBad; infer_instance
/-- An extent taken by a record under way. -/
def takeS (s : RecS) (g : Int × List Int) : Option (RecS ⊕ List Int) :=
  if RecBad s g then none
  else if s.had + 1 = s.want then (if (s.text ++ g.2).length = getN ((s.text ++ g.2).take 4) + 4 then some (.inr ((s.text ++ g.2).drop 4)) else none)
  else some (.inl (s.more g.2))
/-- An extent read. -/
def stepS (s : Option RecS) (g : Int × List Int) : Option (RecS ⊕ List Int) :=
  if g.1 < 0 then none
  else match s with
    | some s => takeS s g
    | none => if g.2.length < 4 ∨ wneedI (sizeW g.2) = 0 then none else takeS (RecS.fresh g) g
def refG (A : Dk) (name : ByteArray) : Nat → Nat → Option RecS → List (List Int) → Option (List (List Int))
  | 0, _, none, out => some out
  | 0, _, some _, _ => none
  | c + 1, i, s, out => match stepS s (getP A name i) with
    | none => none
    | some (.inl s) => refG A name c (i + 1) (some s) out
    | some (.inr t) => refG A name c (i + 1) none (out ++ [t])
theorem refG_succ (A : Dk) (name : ByteArray) (c i : Nat) (s : Option RecS) (out : List (List Int)) : refG A name (c + 1) i s out = match stepS s (getP A name i) with
    | none => none
    | some (.inl s) => refG A name c (i + 1) (some s) out
    | some (.inr t) => refG A name c (i + 1) none (out ++ [t]) := by
  conv => lhs; unfold refG
theorem take4_more {t p : List Int} (h : 4 ≤ t.length) : (t ++ p).take 4 = t.take 4 := List.take_append_of_le_length h
/-- A record under way goes on as 'moreW' says. -/
theorem refG_mid (A : Dk) (name : ByteArray) (en : Nat) : ∀ (k c i : Nat) (W : Nat) (G : Int) (H : Nat) (B last : List Int) (out : List (List Int)), c = en - i → W = H + (k + 1) → last.length = 106 → 4 ≤ B.length →
    refG A name c i (some ⟨W, G, H, B⟩) out = match moreW A name G en (k + 1) i last B with
      | none => none
      | some (t, a) => if t.length = getN (B.take 4) + 4 then refG A name (en - a) a none (out ++ [t.drop 4]) else none
  | k, 0, i, W, G, H, B, last, out, hc, hW, hl, hB => by
    unfold moreW
    rw [if_neg (by omega)]
    rfl
  | k, c + 1, i, W, G, H, B, last, out, hc, hW, hl, hB => by
    rw [refG_succ]
    unfold moreW stepS
    by_cases h0 : (getP A name i).1 < 0
    · rw [if_pos h0, if_neg (by omega)]
    · rw [if_neg h0]
      dsimp only
      unfold takeS
      by_cases hg : (getP A name i).1 = G
      · rw [if_pos (show last.length = 106 ∧ i < en ∧ 0 ≤ (getP A name i).1 ∧ (getP A name i).1 = G from ⟨hl, by omega, by omega, hg⟩)]
        dsimp only
        cases k with
        | zero =>
          rw [if_neg (by unfold RecBad; dsimp only; omega), if_pos (by omega)]
          unfold moreW
          rw [take4_more hB]
          by_cases hlen : (B ++ (getP A name i).2).length = getN (B.take 4) + 4
          · simp only [if_pos hlen]
            rw [show en - (i + 1) = c by omega]
          · simp only [if_neg hlen]
        | succ k =>
          by_cases hp : (getP A name i).2.length = 106
          · rw [if_neg (by unfold RecBad; dsimp only; omega), if_neg (by omega)]
            dsimp only [RecS.more]
            rw [refG_mid A name en k c (i + 1) W G (H + 1) (B ++ (getP A name i).2) (getP A name i).2 out (by omega) (by omega) hp (by rw [List.length_append]; omega), take4_more hB]
          · rw [if_pos (by unfold RecBad; dsimp only; omega)]
            unfold moreW
            rw [if_neg (by omega)]
      · rw [if_pos (by unfold RecBad; dsimp only; omega), if_neg (by omega)]
/-- A record's first extent, and the rest. -/
theorem refG_rec (A : Dk) (name : ByteArray) (en c i : Nat) (out : List (List Int)) (hc : c + 1 = en - i) :
    refG A name (c + 1) i none out = match recW A name en i with
      | none => none
      | some (t, a) => refG A name (en - a) a none (out ++ [t]) := by
  rw [refG_succ]
  unfold stepS recW
  by_cases h0 : (getP A name i).1 < 0
  · rw [if_pos h0, if_neg (by omega)]
  rw [if_neg h0]
  dsimp only
  by_cases h4 : (getP A name i).2.length < 4
  · rw [if_pos (.inl h4), if_neg (by omega)]
  rw [if_pos (show i < en ∧ 0 ≤ (getP A name i).1 ∧ 4 ≤ (getP A name i).2.length by omega)]
  by_cases hz : wneedI (sizeW (getP A name i).2) = 0
  · rw [if_pos (.inr hz), hz]
    unfold moreW
    simp
  rw [if_neg (by omega)]
  have hw0 : 0 < wneedI (sizeW (getP A name i).2) := by unfold wneedI at hz ⊢; split at hz <;> omega
  obtain ⟨k, hk⟩ : ∃ k : Nat, wneedI (sizeW (getP A name i).2) = ((k + 1 : Nat) : Int) := ⟨(wneedI (sizeW (getP A name i).2)).toNat - 1, by omega⟩
  rw [show (wneedI (sizeW (getP A name i).2) - 1).toNat = k by omega]
  unfold takeS RecS.fresh
  dsimp only
  rw [hk, Int.toNat_natCast]
  have hne : ((k + 1 : Nat) : Int) ≠ 0 := by omega
  rw [List.nil_append]
  cases k with
  | zero =>
    rw [if_neg (by unfold RecBad; dsimp only; omega), if_pos (by omega)]
    unfold moreW
    dsimp only
    by_cases hlen : (getP A name i).2.length = sizeW (getP A name i).2 + 4
    · rw [if_pos (by unfold sizeW at hlen; exact hlen), if_pos ⟨hne, hlen⟩]
      dsimp only
      rw [show en - (i + 1) = c by omega]
    · rw [if_neg (by unfold sizeW at hlen; exact hlen), if_neg (by rintro ⟨-, h⟩; exact hlen h)]
  | succ k =>
    by_cases hp : (getP A name i).2.length = 106
    · rw [if_neg (by unfold RecBad; dsimp only; omega), if_neg (by omega)]
      dsimp only [RecS.more]
      rw [refG_mid A name en k c (i + 1) (k + 1 + 1) _ (0 + 1) _ (getP A name i).2 out (by omega) (by omega) hp (by rw [List.length_append]; omega)]
      rw [List.nil_append]
      cases moreW A name (getP A name i).1 en (k + 1) (i + 1) (getP A name i).2 (getP A name i).2 with
      | none => rfl
      | some ta =>
        obtain ⟨t, a⟩ := ta
        dsimp only
        unfold sizeW
        by_cases hlen : t.length = getN ((getP A name i).2.take 4) + 4
        · rw [if_pos hlen, if_pos ⟨hne, hlen⟩]
        · rw [if_neg hlen, if_neg (by rintro ⟨-, h⟩; exact hlen h)]
    · rw [if_pos (by unfold RecBad; dsimp only; omega)]
      unfold moreW
      rw [if_neg (by omega)]
theorem moreW_after {A : Dk} {name : ByteArray} {g : Int} {en : Nat} : ∀ (c a : Nat) (last text t : List Int) (a' : Nat), moreW A name g en c a last text = some (t, a') → a ≤ a'
  | 0, a, last, text, t, a', h => by
    unfold moreW at h
    cases h
    exact Nat.le_refl _
  | c + 1, a, last, text, t, a', h => by
    unfold moreW at h
    split at h
    · have := moreW_after c (a + 1) _ _ t a' h
      omega
    · cases h
theorem recW_after {A : Dk} {name : ByteArray} {en a : Nat} {t : List Int} {a' : Nat} (h : recW A name en a = some (t, a')) : a < a' := by
  unfold recW at h
  split at h
  · split at h
    · cases h
    · rename_i t2 a2 hm
      split at h
      · cases h
        have := moreW_after _ _ _ _ _ _ hm
        omega
      · cases h
  · cases h
/-- The document's reader is the program's. -/
theorem readG_refG (A : Dk) (name : ByteArray) (en : Nat) : ∀ (m c i : Nat) (out : List (List Int)), en - i ≤ m → en - i ≤ c → readG A name en c i out = refG A name (en - i) i none out
  | m, 0, i, out, hm, hc => by
    rw [show en - i = 0 by omega]
    rfl
  | 0, c + 1, i, out, hm, hc => by
    rw [show en - i = 0 by omega]
    unfold readG
    rw [if_neg (by omega)]
    rfl
  | m + 1, c + 1, i, out, hm, hc => by
    unfold readG
    by_cases hi : i < en
    · rw [if_pos hi]
      obtain ⟨d, hd⟩ : ∃ d, en - i = d + 1 := ⟨en - i - 1, by omega⟩
      rw [hd, refG_rec A name en d i out hd.symm]
      cases hr : recW A name en i with
      | none => rfl
      | some ta =>
        obtain ⟨t, a⟩ := ta
        have := recW_after hr
        dsimp only
        exact readG_refG A name en m c a _ (by omega) (by omega)
    · rw [if_neg hi, show en - i = 0 by omega]
      rfl
theorem readG_ref (A : Dk) (name : ByteArray) (en : Nat) : readG A name en en 0 [] = refG A name en 0 none [] := readG_refG A name en en en 0 [] (by omega) (by omega)
end Go.Proofs.YtcjcccbjgooooaaGreatDoor
/- The document's disk read, whatever stands at the place. -/
namespace Go.Proofs.YtcjcccbjgooooaaGreatDoor
open Go.RowKit HP
set_option linter.unusedSimpArgs false
set_option linter.unusedVariables false

theorem rdisk_any (E : Env) (q : HP) (y : Nat) (A : Dk) (f : ByteArray) (i : Int) (w : World) (hby : ∀ c, A.cel f i = some c → Bytes c.read) (hw : Sat E w (HP.rdisk y A * q)) :
    Calls Tryz.prog 52 #[.pointer (some ⟨y, 0, none⟩), .string f, .int .i64 i] w fun e w' => ∃ (Ar : Option Addr) (nr cr : Nat) (er : Int) (X : HP), e = .returned (.tuple #[.slice Ar nr cr, .int .i64 er]) ∧ (readO A f i).length = nr ∧ nr ≤ cr ∧ cr ≤ maxLen ∧ Bytes (readO A f i) ∧ (∀ E w q', Sat E w (X * q') → Cells w Ar (b8s (readO A f i))) ∧ Sat E w' (X * (HP.rdisk y A * q)) := by
  refine (rdisk_read E q y A f i w hw).mono fun e w' h => ?_
  unfold readEnd at h
  cases hc : A.cel f i with
  | none =>
    rw [hc] at h
    rw [readO_of_none hc]
    exact ⟨none, 0, 0, 30, HP.emp, h.1, rfl, Nat.le_refl _, Nat.zero_le _, (fun x hx => by cases hx), fun _ _ _ _ => Cells.nil _ _, h.2.emp_intro⟩
  | some c =>
    rw [hc] at h
    obtain ⟨v, h1, h2⟩ := h
    obtain ⟨Ar, cr, rfl, h3, h4⟩ := h2.row_slice
    rw [readO_of_some hc]
    have hl := h2.row_cases.1
    rw [b8s_length] at hl
    exact ⟨Ar, 128, cr, 0, _, h1, hl, h3, h4, hby c hc, fun _ _ _ h => h.row_cells, h2⟩
theorem openI_nil (f : ByteArray) (i : Int) : openI [] f i = none := by
  unfold openI
  rw [if_pos (.inl (by decide))]
theorem getF_readO (A : Dk) (i : Int) (st : Int × List Int) (f : ByteArray) : getF A i st f = match openI (readO A f i) f i with
    | none => st
    | some x => if (x.2 : Int) ≤ st.1 then st else ((x.2 : Int), x.1) := by
  unfold getF
  cases hc : A.cel f i with
  | none => simp only [readO_of_none hc, openI_nil]
  | some c =>
    simp only [readO_of_some hc]
    cases openI c.read f i <;> rfl
end Go.Proofs.YtcjcccbjgooooaaGreatDoor
/- dryrotref05.Get over the document's disk. -/
namespace Go.Proofs.YtcjcccbjgooooaaGreatDoor
open Go.RowKit HP
set_option linter.unusedSimpArgs false
set_option linter.unusedVariables false

set_option maxHeartbeats 4000000 in
set_option maxRecDepth 100000 in
theorem ref_getp (E : Env) (q : HP) (y : Nat) (A : Dk) (name : ByteArray) (i : Int) (w : World) (hname : name.size + 2 ≤ maxLen) (hby : ∀ f ∈ halvesL name, ∀ c, A.cel f i = some c → Bytes c.read) (hw : Sat E w (HP.rdisk y A * q)) :
    Calls Tryz.prog 54 #[.pointer (some ⟨y, 0, none⟩), .string name, .int .i64 i] w fun e w' => ∃ v, e = getEnd (getP A name i) v ∧ Sat E w' (HP.row 5 1 v (getP A name i).2.length (b8s (getP A name i).2) * (HP.rdisk y A * q)) := by
  have hfa : (name ++ dotA).size ≤ maxLen := by rw [dotA_size]; exact hname
  have hfb : (name ++ dotB).size ≤ maxLen := by rw [dotB_size]; exact hname
  have HF : Aside (halvesL name = [name ++ dotA, name ++ dotB]) := ⟨rfl⟩
  have HQ := Aside.mk (And.intro hby hw)
  clear hw hby
  go_enter Tryz.func54, Tryz.ntmps54
  go_wp2_with fail
  refine (ref_halves E _ name _ hname HQ.out.2).mono ?_
  rintro e w2 ⟨g, rfl, k2⟩
  obtain ⟨fa, hfae⟩ : ∃ fa, fa = name ++ dotA := ⟨_, rfl⟩
  obtain ⟨fb, hfbe⟩ : ∃ fb, fb = name ++ dotB := ⟨_, rfl⟩
  rw [← hfae] at hfa HF k2
  rw [← hfbe] at hfb HF k2
  clear hfae hfbe
  have K2 := Aside.mk (k2.row_nil 5 1 none)
  clear k2
  go_wp2
  go_loopw [9, 10, 21] (fun v9 v10 v21 wr => ∃ (h : Nat) (best : Int) (p : List Int), h ≤ 2 ∧ v21 = .int .i64 h ∧ v9 = .int .i64 best ∧ best ≤ 4611686018427387904 ∧ -1 ≤ best ∧ p.length ≤ 106 ∧ Aside ((((halvesL name).drop h).foldl (getF A i) (best, p)) = getP A name i) ∧ Aside (Sat E wr (HP.row 5 1 v10 p.length (b8s p) * (HP.pt g (.cells #[.string fa, .string fb] 9) * (HP.rdisk y A * q))))) (fun _ _ i _ => 2 - (intOf i).toNat)
  case atStart => exact ⟨0, -1, [], by omega, rfl, rfl, by omega, by omega, by simp, ⟨rfl⟩, K2⟩
  case round =>
    clear K2
    obtain ⟨h, best, p, hh, rfl, rfl, hb1, hb2, hpl, HG, HS⟩ := hrel
    by_cases hlt : h < 2
    · obtain ⟨f, hf, hfm, hff, hix⟩ : ∃ f : ByteArray, f.size ≤ maxLen ∧ f ∈ halvesL name ∧ (halvesL name).drop h = f :: (halvesL name).drop (h + 1) ∧ (#[Value.string fa, Value.string fb] : Array Value)[h]? = some (.string f) := by
        rw [HF.out]
        rcases Nat.lt_or_ge h 1 with h0 | h0
        · obtain rfl : h = 0 := by omega
          exact ⟨fa, hfa, by simp, rfl, rfl⟩
        · obtain rfl : h = 1 := by omega
          exact ⟨fb, hfb, by simp, rfl, rfl⟩
      have kc : wr.cell? ⟨g, h, none⟩ = some (.string f) := by rw [HS.out.s2.cell]; exact hix
      rw [hff, List.foldl_cons, getF_readO] at HG
      clear hff hix
      have hlt2 : (h : Int) < 2 := by omega
      have hby := HQ.out.1 f hfm
      clear hfm
      have HS2 := Aside.mk HS.out.s3
      have HBY := Aside.mk hby
      clear HS hby
      go_wp2_with fail
      refine (rdisk_any E _ y A f i _ HBY.out HS2.out).mono ?_
      rintro e w3 ⟨Ar, nr, cr, er, X, rfl, hrl, hnc, hcm, hrb, hX, h3⟩
      obtain ⟨R, hR⟩ : ∃ R, R = readO A f i := ⟨_, rfl⟩
      rw [← hR] at hrl hrb hX HG
      have H3 := Aside.mk (And.intro h3 (And.intro hrl (And.intro hrb hX)))
      clear h3 hrl hrb hX hR HS2 kc HBY
      go_wp2_with fail
      refine (ref_open E _ f i Ar R nr cr _ hf H3.out.2.1 hnc H3.out.2.2.1 (fun w h => H3.out.2.2.2 _ w _ h) H3.out.1).mono ?_
      rintro e w4 (⟨ho, rfl, h4⟩ | ⟨p2, G, vp, ho, rfl, h4⟩)
      · rw [ho] at HG
        have H4 : Aside (Sat E w4 (HP.row 5 1 u10 p.length (b8s p) * (HP.pt g (.cells #[.string fa, .string fb] 9) * (HP.rdisk y A * q)))) := ⟨h4.right.perm (by ac_rfl)⟩
        clear h4 ho H3
        go_wp2
        go_roundw
        case rel => exact ⟨h + 1, best, p, by omega, by push_cast; rfl, rfl, hb1, hb2, hpl, HG, H4⟩
        case measure => simp [intOf]; omega
      · obtain ⟨hG1, hp2⟩ := openI_gen ho
        rw [ho] at HG
        dsimp only at HG
        by_cases hle : (G : Int) ≤ best
        · rw [if_pos hle] at HG
          have H4 : Aside (Sat E w4 (HP.row 5 1 u10 p.length (b8s p) * (HP.pt g (.cells #[.string fa, .string fb] 9) * (HP.rdisk y A * q)))) := ⟨h4.right.right.perm (by ac_rfl)⟩
          clear h4 ho H3
          go_wp2
          go_roundw
          case rel => exact ⟨h + 1, best, p, by omega, by push_cast; rfl, rfl, hb1, hb2, hpl, HG, H4⟩
          case measure => simp [intOf]; omega
        · rw [if_neg hle] at HG
          have hle2 : best < (G : Int) := by omega
          have h5 : Sat E w4 (HP.row 5 1 u10 p.length (b8s p) * (HP.row 5 1 vp p2.length (b8s p2) * (HP.pt g (.cells #[.string fa, .string fb] 9) * (HP.rdisk y A * q)))) := (h4.perm (by ac_rfl : _ = X * (HP.row 5 1 u10 p.length (b8s p) * (HP.row 5 1 vp p2.length (b8s p2) * (HP.pt g (.cells #[.string fa, .string fb] 9) * (HP.rdisk y A * q)))))).right
          have H4 := Aside.mk h5.right
          clear h4 h5 ho H3 hle
          go_wp2
          go_roundw
          case rel => exact ⟨h + 1, (G : Int), p2, by omega, by push_cast; rfl, rfl, hG1, by omega, hp2, HG, H4⟩
          case measure => simp [intOf]; omega
    · obtain rfl : h = 2 := by omega
      rw [HF.out] at HG
      have HX : Aside (getP A name i = (best, p)) := ⟨HG.out.symm⟩
      have HS2 : Aside (Sat E wr (HP.row 5 1 u10 p.length (b8s p) * (HP.rdisk y A * q))) := ⟨HS.out.drop2⟩
      clear HG HS
      by_cases hneg : best < 0
      · go_wp2
        go_ret3
        rw [HX.out]
        exact ⟨_, by unfold getEnd; rw [if_pos hneg]; rfl, HS2.out⟩
      · go_wp2
        go_ret3
        rw [HX.out]
        exact ⟨_, by unfold getEnd; rw [if_neg (by show ¬ best < 0; omega)]; rfl, HS2.out⟩
end Go.Proofs.YtcjcccbjgooooaaGreatDoor
/- wal: a reader's next extent. -/
namespace Go.Proofs.YtcjcccbjgooooaaGreatDoor
open Go.RowKit HP
set_option linter.unusedSimpArgs false
set_option linter.unusedVariables false

def nextEnd (E : Env) (q : HP) (d br : Nat) (A : Dk) (name : ByteArray) (at_ en : Nat) (gen : Int) (pay : Value) (e : Ending) (w' : World) : Prop :=
      (at_ < en ∧ 0 ≤ (getP A name at_).1 ∧ ∃ Av c, e = .returned (.bool true) ∧ (getP A name at_).2.length ≤ c ∧ Sat E w' (HP.pt br (.cells #[.pointer (some ⟨d, 0, none⟩), .string name, .int .i64 ((at_ + 1 : Nat) : Int), .int .i64 (en : Int), .int .i64 (getP A name at_).1, .slice Av (getP A name at_).2.length c] 93) * (HP.row 5 1 (.slice Av (getP A name at_).2.length c) (getP A name at_).2.length (b8s (getP A name at_).2) * (HP.disk d A * q)))) ∨
      (¬ (at_ < en ∧ 0 ≤ (getP A name at_).1) ∧ e = .returned (.bool false) ∧ Sat E w' (HP.pt br (.cells #[.pointer (some ⟨d, 0, none⟩), .string name, .int .i64 (at_ : Int), .int .i64 (en : Int), .int .i64 gen, pay] 93) * (HP.disk d A * q)))
set_option maxHeartbeats 2000000 in
set_option maxRecDepth 100000 in
theorem next_ok (E : Env) (q : HP) (d br : Nat) (A : Dk) (name : ByteArray) (at_ en : Nat) (gen : Int) (pay : Value) (w : World) (hname : name.size + 2 ≤ maxLen) (hen : en ≤ 2147483647) (hby : ∀ f ∈ halvesL name, ∀ c, A.cel f at_ = some c → Bytes c.read)
    (hq : ∀ w, Sat E w q → Quarter w) (hw : Sat E w (HP.pt br (.cells #[.pointer (some ⟨d, 0, none⟩), .string name, .int .i64 (at_ : Int), .int .i64 (en : Int), .int .i64 gen, pay] 93) * (HP.disk d A * q))) :
    Calls Tryz.prog 102 #[.pointer (some ⟨br, 0, none⟩)] w (nextEnd E q d br A name at_ en gen pay) := by
  have HX := Aside.mk hname
  have g0 := hw.cell 0
  have g1 := hw.cell 1
  have g2 := hw.cell 2
  have g3 := hw.cell 3
  simp only [List.getElem?_toArray, List.getElem?_cons_zero, List.getElem?_cons_succ] at g0 g1 g2 g3
  have HW := Aside.mk hw
  have HW2 : Aside (Sat E w.drew.drew (HP.disk d A * (HP.pt br (.cells #[.pointer (some ⟨d, 0, none⟩), .string name, .int .i64 (at_ : Int), .int .i64 (en : Int), .int .i64 gen, pay] 93) * q))) := ⟨hw.s2.drew.drew⟩
  have HQ := Aside.mk (And.intro hq hby)
  clear hw hq hby
  go_enter Tryz.func102, Tryz.ntmps102
  by_cases hlt : at_ < en
  · have hlt2 : ¬ (en : Int) ≤ (at_ : Int) := by omega
    go_wp2
    refine region_R [] [] (fun _ => True) #[false, false, false, false, false, false, false, false, false] (by kernel_rfl) rfl rfl ?_
    refine wpR_rd 0 #[true, false, false, false, false, false, false, false, false] rfl onlyN_noPanic (by kernel_rfl) (fun K hK => ?_); (go_simp; try go_bits); refine hK _ ?_; clear hK K
    refine wpR_rd 1 #[true, true, false, false, false, false, false, false, false] rfl onlyN_noPanic (by kernel_rfl) (fun K hK => ?_); (go_simp; try go_bits); refine hK _ ?_; clear hK K
    refine wpR_rd 2 #[true, true, true, false, false, false, false, false, false] rfl onlyN_noPanic (by kernel_rfl) (fun K hK => ?_); (go_simp; try go_bits); refine hK _ ?_; clear hK K
    refine wpR_rd 3 #[true, true, true, true, false, false, false, false, false] rfl onlyN_noPanic (by kernel_rfl) (fun K hK => ?_); (go_simp; try go_bits); refine hK _ ?_; clear hK K
    refine wpR_rd 4 #[true, true, true, true, true, false, false, false, false] rfl onlyN_noPanic (by kernel_rfl) (fun K hK => ?_); (go_simp; try go_bits); refine hK _ ?_; clear hK K
    refine wpR_rd 5 #[true, true, true, true, true, true, false, false, false] rfl onlyN_noPanic (by kernel_rfl) (fun K hK => ?_); (go_simp; try go_bits); refine hK _ ?_; clear hK K
    refine wpR_rd 6 #[true, true, true, true, true, true, true, false, false] rfl onlyN_noPanic (by kernel_rfl) (fun K hK => ?_); (go_simp; try go_bits); refine hK _ ?_; clear hK K
    refine wpR_rd 7 #[true, true, true, true, true, true, true, true, false] rfl onlyN_noPanic (by kernel_rfl) (fun K hK => ?_); (go_simp; try go_bits); refine hK _ ?_; clear hK K
    refine wpR_rd 8 #[true, true, true, true, true, true, true, true, true] rfl onlyN_noPanic (by kernel_rfl) (fun K hK => ?_); (go_simp; try go_bits); refine hK _ ?_; clear hK K
    refine wpR_done (by kernel_rfl) ?_ _
    simp only [OnlyN]
    go_wp2
    refine region_R [12] [] (fun _ => True) #[false, false, false, false, false, false, false, false, false, false, false, false, false, false, false, false, false, false, false, false] (by kernel_rfl) rfl rfl ?_
    refine wpR_rd 0 #[true, false, false, false, false, false, false, false, false, false, false, false, false, false, false, false, false, false, false, false] rfl onlyN_noPanic (by kernel_rfl) (fun K hK => ?_); (go_simp; try go_bits); refine hK _ ?_; clear hK K
    refine wpR_rd 1 #[true, true, false, false, false, false, false, false, false, false, false, false, false, false, false, false, false, false, false, false] rfl onlyN_noPanic (by kernel_rfl) (fun K hK => ?_); (go_simp; try go_bits); refine hK _ ?_; clear hK K
    refine wpR_rd 2 #[true, true, true, false, false, false, false, false, false, false, false, false, false, false, false, false, false, false, false, false] rfl onlyN_noPanic (by kernel_rfl) (fun K hK => ?_); (go_simp; try go_bits); refine hK _ ?_; clear hK K
    refine wpR_rd 3 #[true, true, true, true, false, false, false, false, false, false, false, false, false, false, false, false, false, false, false, false] rfl onlyN_noPanic (by kernel_rfl) (fun K hK => ?_); (go_simp; try go_bits); refine hK _ ?_; clear hK K
    refine wpR_rd 4 #[true, true, true, true, true, false, false, false, false, false, false, false, false, false, false, false, false, false, false, false] rfl onlyN_noPanic (by kernel_rfl) (fun K hK => ?_); (go_simp; try go_bits); refine hK _ ?_; clear hK K
    refine wpR_rd 5 #[true, true, true, true, true, true, false, false, false, false, false, false, false, false, false, false, false, false, false, false] rfl onlyN_noPanic (by kernel_rfl) (fun K hK => ?_); (go_simp; try go_bits); refine hK _ ?_; clear hK K
    refine wpR_rd 6 #[true, true, true, true, true, true, true, false, false, false, false, false, false, false, false, false, false, false, false, false] rfl onlyN_noPanic (by kernel_rfl) (fun K hK => ?_); (go_simp; try go_bits); refine hK _ ?_; clear hK K
    refine wpR_rd 7 #[true, true, true, true, true, true, true, true, false, false, false, false, false, false, false, false, false, false, false, false] rfl onlyN_noPanic (by kernel_rfl) (fun K hK => ?_); (go_simp; try go_bits); refine hK _ ?_; clear hK K
    refine wpR_rd 8 #[true, true, true, true, true, true, true, true, true, false, false, false, false, false, false, false, false, false, false, false] rfl onlyN_noPanic (by kernel_rfl) (fun K hK => ?_); (go_simp; try go_bits); refine hK _ ?_; clear hK K
    refine wpR_rd 9 #[true, true, true, true, true, true, true, true, true, true, false, false, false, false, false, false, false, false, false, false] rfl onlyN_noPanic (by kernel_rfl) (fun K hK => ?_); (go_simp; try go_bits); refine hK _ ?_; clear hK K
    refine wpR_rd 10 #[true, true, true, true, true, true, true, true, true, true, true, false, false, false, false, false, false, false, false, false] rfl onlyN_noPanic (by kernel_rfl) (fun K hK => ?_); (go_simp; try go_bits); refine hK _ ?_; clear hK K
    refine wpR_rd 11 #[true, true, true, true, true, true, true, true, true, true, true, true, false, false, false, false, false, false, false, false] rfl onlyN_noPanic (by kernel_rfl) (fun K hK => ?_); (go_simp; try go_bits); refine hK _ ?_; clear hK K
    refine wpR_eff #[true, true, true, true, true, true, true, true, true, true, true, true, true, false, false, false, false, false, false, false] (i := 12) rfl (by kernel_rfl) (fun K hK => ?_)
    go_simp
    refine (pair_get E _ d A name at_ _ HX.out HQ.out.2 (fun w h => HQ.out.1 w h.right) HW2.out).mono ?_
    rintro e w1 ⟨v, rfl, h1⟩
    obtain ⟨⟨best, p⟩, hst⟩ : ∃ st, st = getP A name at_ := ⟨_, rfl⟩
    rw [← hst] at h1 ⊢
    have HST := Aside.mk hst
    clear hst
    dsimp only at h1 ⊢
    unfold getEnd
    dsimp only
    by_cases hneg : best < 0
    · rw [if_pos hneg]
      have H1 := Aside.mk h1.right.s2
      clear h1
      refine hK _ _ ?_; clear hK K
      refine wpR_rd 13 #[true, true, true, true, true, true, true, true, true, true, true, true, true, true, false, false, false, false, false, false] rfl onlyN_noPanic (by kernel_rfl) (fun K hK => ?_); (go_simp; try go_bits); refine hK _ ?_; clear hK K
      refine wpR_rd 14 #[true, true, true, true, true, true, true, true, true, true, true, true, true, true, true, false, false, false, false, false] rfl onlyN_noPanic (by kernel_rfl) (fun K hK => ?_); (go_simp; try go_bits); refine hK _ ?_; clear hK K
      refine wpR_rd 15 #[true, true, true, true, true, true, true, true, true, true, true, true, true, true, true, true, false, false, false, false] rfl onlyN_noPanic (by kernel_rfl) (fun K hK => ?_); (go_simp; try go_bits); refine hK _ ?_; clear hK K
      refine wpR_rd 16 #[true, true, true, true, true, true, true, true, true, true, true, true, true, true, true, true, true, false, false, false] rfl onlyN_noPanic (by kernel_rfl) (fun K hK => ?_); (go_simp; try go_bits); refine hK _ ?_; clear hK K
      refine wpR_rd 17 #[true, true, true, true, true, true, true, true, true, true, true, true, true, true, true, true, true, true, false, false] rfl onlyN_noPanic (by kernel_rfl) (fun K hK => ?_); (go_simp; try go_bits); refine hK _ ?_; clear hK K
      refine wpR_rd 18 #[true, true, true, true, true, true, true, true, true, true, true, true, true, true, true, true, true, true, true, false] rfl onlyN_noPanic (by kernel_rfl) (fun K hK => ?_); (go_simp; try go_bits); refine hK _ ?_; clear hK K
      refine wpR_rd 19 #[true, true, true, true, true, true, true, true, true, true, true, true, true, true, true, true, true, true, true, true] rfl onlyN_noPanic (by kernel_rfl) (fun K hK => ?_); (go_simp; try go_bits); refine hK _ ?_; clear hK K
      refine wpR_done (by kernel_rfl) ?_ _
      simp only [OnlyN]
      go_wp2
      go_ret
      unfold nextEnd
      rw [← HST.out]
      exact .inr ⟨fun h => by have := h.2; dsimp only at this; omega, rfl, H1.out⟩
    · rw [if_neg hneg]
      obtain ⟨Av, cv, rfl, hcv, -⟩ := h1.row_slice
      have h2 : Sat E w1 (HP.pt br (.cells #[.pointer (some ⟨d, 0, none⟩), .string name, .int .i64 (at_ : Int), .int .i64 (en : Int), .int .i64 gen, pay] 93) * (HP.row 5 1 (.slice Av p.length cv) p.length (b8s p) * (HP.disk d A * q))) := h1.perm (by ac_rfl)
      have f2 := h2.thaw 2
      have f4 := h2.thaw 4
      have f5 := h2.thaw 5
      have k2 := h2.cell 2
      have k4 := h2.cell 4
      have k5 := h2.cell 5
      simp only [List.getElem?_toArray, List.getElem?_cons_zero, List.getElem?_cons_succ] at k2 k4 k5
      obtain ⟨m, hm⟩ : ∃ m, m = at_ + 1 := ⟨_, rfl⟩
      have h3 := ((h2.set (i := 5) (.slice Av p.length cv)).set (i := 4) (.int .i64 best)).set (i := 2) (.int .i64 (m : Int))
      have H3 := Aside.mk h3
      have hp1 : (at_ : Int) + 1 = (m : Int) := by omega
      have hm31 : m ≤ 2147483647 := by omega
      have HM := Aside.mk hm
      clear hm h1 h2 h3 g0 g1 g2 g3 HW HW2
      refine hK _ _ ?_; clear hK K
      refine wpR_rd 13 #[true, true, true, true, true, true, true, true, true, true, true, true, true, true, false, false, false, false, false, false] rfl onlyN_noPanic (by kernel_rfl) (fun K hK => ?_); (go_simp; try go_bits); refine hK _ ?_; clear hK K
      refine wpR_rd 14 #[true, true, true, true, true, true, true, true, true, true, true, true, true, true, true, false, false, false, false, false] rfl onlyN_noPanic (by kernel_rfl) (fun K hK => ?_); (go_simp; try go_bits); refine hK _ ?_; clear hK K
      refine wpR_rd 15 #[true, true, true, true, true, true, true, true, true, true, true, true, true, true, true, true, false, false, false, false] rfl onlyN_noPanic (by kernel_rfl) (fun K hK => ?_); (go_simp; try go_bits); refine hK _ ?_; clear hK K
      refine wpR_rd 16 #[true, true, true, true, true, true, true, true, true, true, true, true, true, true, true, true, true, false, false, false] rfl onlyN_noPanic (by kernel_rfl) (fun K hK => ?_); (go_simp; try go_bits); refine hK _ ?_; clear hK K
      refine wpR_rd 17 #[true, true, true, true, true, true, true, true, true, true, true, true, true, true, true, true, true, true, false, false] rfl onlyN_noPanic (by kernel_rfl) (fun K hK => ?_); (go_simp; try go_bits); refine hK _ ?_; clear hK K
      refine wpR_rd 18 #[true, true, true, true, true, true, true, true, true, true, true, true, true, true, true, true, true, true, true, false] rfl onlyN_noPanic (by kernel_rfl) (fun K hK => ?_); (go_simp; try go_bits); refine hK _ ?_; clear hK K
      refine wpR_rd 19 #[true, true, true, true, true, true, true, true, true, true, true, true, true, true, true, true, true, true, true, true] rfl onlyN_noPanic (by kernel_rfl) (fun K hK => ?_); (go_simp; try go_bits); refine hK _ ?_; clear hK K
      refine wpR_done (by kernel_rfl) ?_ _
      simp only [OnlyN]
      go_wp2
      go_ret
      unfold nextEnd
      rw [← HST.out, ← HM.out]
      exact .inl ⟨hlt, by show 0 ≤ best; omega, Av, cv, rfl, hcv, H3.out⟩
  · have hlt2 : (en : Int) ≤ (at_ : Int) := by omega
    go_wp2
    refine region_R [] [] (fun _ => True) #[false, false, false, false, false, false, false, false, false] (by kernel_rfl) rfl rfl ?_
    refine wpR_rd 0 #[true, false, false, false, false, false, false, false, false] rfl onlyN_noPanic (by kernel_rfl) (fun K hK => ?_); (go_simp; try go_bits); refine hK _ ?_; clear hK K
    refine wpR_rd 1 #[true, true, false, false, false, false, false, false, false] rfl onlyN_noPanic (by kernel_rfl) (fun K hK => ?_); (go_simp; try go_bits); refine hK _ ?_; clear hK K
    refine wpR_rd 2 #[true, true, true, false, false, false, false, false, false] rfl onlyN_noPanic (by kernel_rfl) (fun K hK => ?_); (go_simp; try go_bits); refine hK _ ?_; clear hK K
    refine wpR_rd 3 #[true, true, true, true, false, false, false, false, false] rfl onlyN_noPanic (by kernel_rfl) (fun K hK => ?_); (go_simp; try go_bits); refine hK _ ?_; clear hK K
    refine wpR_rd 4 #[true, true, true, true, true, false, false, false, false] rfl onlyN_noPanic (by kernel_rfl) (fun K hK => ?_); (go_simp; try go_bits); refine hK _ ?_; clear hK K
    refine wpR_rd 5 #[true, true, true, true, true, true, false, false, false] rfl onlyN_noPanic (by kernel_rfl) (fun K hK => ?_); (go_simp; try go_bits); refine hK _ ?_; clear hK K
    refine wpR_rd 6 #[true, true, true, true, true, true, true, false, false] rfl onlyN_noPanic (by kernel_rfl) (fun K hK => ?_); (go_simp; try go_bits); refine hK _ ?_; clear hK K
    refine wpR_rd 7 #[true, true, true, true, true, true, true, true, false] rfl onlyN_noPanic (by kernel_rfl) (fun K hK => ?_); (go_simp; try go_bits); refine hK _ ?_; clear hK K
    refine wpR_rd 8 #[true, true, true, true, true, true, true, true, true] rfl onlyN_noPanic (by kernel_rfl) (fun K hK => ?_); (go_simp; try go_bits); refine hK _ ?_; clear hK K
    refine wpR_done (by kernel_rfl) ?_ _
    simp only [OnlyN]
    go_wp2
    go_ret
    exact .inr ⟨fun h => hlt h.1, rfl, HW.out.drew⟩
end Go.Proofs.YtcjcccbjgooooaaGreatDoor
/- slices.Grow of no slice, laid at this program (printed by the kit's own tool). -/
namespace Go.Proofs.YtcjcccbjgooooaaGreatDoor
open Go.Shelf Go.RowKit HP
set_option linter.unusedSimpArgs false
set_option linter.unusedVariables false

def growB_ren : Go.Shelf.Ren := ⟨fun | 4 => 115 | n => n, fun | 22 => 28 | 25 => 5 | 3 => 3 | 4 => 4 | 9 => 9 | 20 => 20 | 0 => 0 | n => n, fun | n => n⟩
theorem growB : Go.Proofs.Lays8.n4 Tryz.prog growB_ren := {
  mixed := by kernel_rfl
  f4 := ⟨Tryz.f115.name, by decide, Tryz.func115.trans (congrArg some (by kernel_rfl))⟩
  t0 := Tryz.underlying0
  a0 := Tryz.isAgg0
  z0 := Tryz.sizeOf0
  v0 := Tryz.zeroValue0
  t3 := Tryz.underlying3
  a3 := Tryz.isAgg3
  z3 := Tryz.sizeOf3
  v3 := Tryz.zeroValue3
  t4 := Tryz.underlying4
  a4 := Tryz.isAgg4
  z4 := Tryz.sizeOf4
  v4 := Tryz.zeroValue4
  t9 := Tryz.underlying9
  a9 := Tryz.isAgg9
  z9 := Tryz.sizeOf9
  v9 := Tryz.zeroValue9
  t20 := Tryz.underlying20
  a20 := Tryz.isAgg20
  z20 := Tryz.sizeOf20
  v20 := Tryz.zeroValue20
  t22 := Tryz.underlying28
  a22 := Tryz.isAgg28
  z22 := Tryz.sizeOf28
  v22 := Tryz.zeroValue28 }
theorem info_u8 : ∃ i0, Tryz.prog.info? 5 = some i0 ∧ i0.zero = some (.int .u8 0) ∧ i0.size = 1 ∧ i0.bytes = 1 := by
  have h : (Tryz.prog.info? 5).map (fun i => (i.zero, i.size, i.bytes)) = some (some (Value.int IntKind.u8 0), 1, 1) := by kernel_rfl
  cases hi : Tryz.prog.info? 5 with
  | none => rw [hi] at h; cases h
  | some i0 =>
    rw [hi] at h
    simp only [Option.map_some, Option.some.injEq, Prod.mk.injEq] at h
    exact ⟨i0, rfl, h.1, h.2.1, h.2.2⟩
theorem grow_nil (E : Env) (q : HP) (n : Nat) (w : World) (h0 : 0 < n) (hn : n ≤ 2200000) (hw : Sat E w q) :
    Calls Tryz.prog 115 #[.slice none 0 0, .int .i64 n] w fun e w' => ∃ A c, e = .returned (.slice A 0 c) ∧ Sat E w' (HP.row 5 1 (.slice A 0 c) 0 [] * q) := by
  obtain ⟨i0, hi, hz, hs, hb⟩ := info_u8
  refine (Any8.slices_Grow_grow growB i0 (.int .u8 0) hi hz (by omega) none 0 0 n [] w (Nat.le_refl _) (by omega) (by rw [hb]; omega) (by omega) (by simp) (fun _ => rfl) (fun a ha => by cases ha)).mono ?_
  rintro e w' ⟨rfl, rfl⟩
  have hc : grownCap w (0 + n) 0 5 ≤ maxLen := grownCap_le_maxLen w (0 + n) 0 5 (by unfold maxLen; omega)
  refine ⟨_, _, rfl, ?_⟩
  have h1 := hw.drew.alloc (.cells (([] : List Value).toArray ++ Builtin.zeroCells (Value.int .u8 0).cells (0 + n - 0) ++ Builtin.zeroCells (Value.int .u8 0).cells (grownCap w (0 + n) 0 5 - (0 + n))) 5)
  have h2 := h1.row_mk (n := 0) (cap := grownCap w (0 + n) 0 5) (off := 0) (size := 1) (cs := []) (Nat.zero_le _) hc (by
    simp only [Array.size_append, Builtin.zeroCells, List.size_toArray, List.length_nil]
    simp [Value.cells]
    omega) (by simp)
  exact h2
end Go.Proofs.YtcjcccbjgooooaaGreatDoor
/- slices.Concat of two slices of bytes; joined. -/
namespace Go.Proofs.YtcjcccbjgooooaaGreatDoor
open Go.RowKit HP
set_option linter.unusedSimpArgs false
set_option linter.unusedVariables false

set_option maxHeartbeats 2000000 in
set_option maxRecDepth 100000 in
theorem concat_ok (E : Env) (q : HP) (bl : Nat) (A1 A2 : Option Addr) (l1 l2 : List Int) (n1 n2 c1 c2 : Nat) (w : World) (e1 : l1.length = n1) (e2 : l2.length = n2) (m1 : 0 < n1) (k1 : n1 ≤ 1100000) (k2 : n2 ≤ 1100000)
    (hq : ∀ w, Sat E w q → Cells w A1 (b8s l1) ∧ Cells w A2 (b8s l2)) (hw : Sat E w (HP.pt bl (.cells #[.slice A1 n1 c1, .slice A2 n2 c2] 28) * q)) :
    Calls Tryz.prog 84 #[.slice (some ⟨bl, 0, none⟩) 2 2] w fun e w' => ∃ A c, e = .returned (.slice A (n1 + n2) c) ∧ n1 + n2 ≤ c ∧ c ≤ maxLen ∧ Sat E w' (HP.row 5 1 (.slice A (n1 + n2) c) (n1 + n2) (b8s (l1 ++ l2)) * q) := by
  have HQ := Aside.mk (And.intro hq (And.intro hw (And.intro e1 e2)))
  clear hq hw e1 e2
  have c0 : w.cell? ⟨bl, 0, none⟩ = some (.slice A1 n1 c1) := HQ.out.2.1.cell 0
  have c1' : w.cell? ⟨bl, 1, none⟩ = some (.slice A2 n2 c2) := HQ.out.2.1.cell 1
  go_enter Tryz.func84, Tryz.ntmps84
  go_wp2
  go_loopw [3, 11] (fun v3 v11 wr => ∃ k : Nat, k ≤ 2 ∧ v11 = .int .i64 k ∧ (∃ s : Nat, v3 = .int .i64 s ∧ s = (if k = 0 then 0 else if k = 1 then n1 else n1 + n2)) ∧ wr = w) (fun _ i _ => 2 - (intOf i).toNat)
  case atStart => exact ⟨0, by omega, rfl, ⟨0, rfl, rfl⟩, rfl⟩
  case round =>
    obtain ⟨k, hk, rfl, ⟨s, rfl, hs⟩, hwr⟩ := hrel
    subst wr
    by_cases hlt : k < 2
    · have hlt2 : (k : Int) < 2 := by omega
      obtain ⟨Ak, nk, ck, gk, hnk, hsk⟩ : ∃ Ak nk ck, w.cell? ⟨bl, k, none⟩ = some (.slice Ak nk ck) ∧ s + nk ≤ 2200000 ∧ s + nk = (if k + 1 = 0 then 0 else if k + 1 = 1 then n1 else n1 + n2) := by
        rcases Nat.lt_or_ge k 1 with h0 | h0
        · obtain rfl : k = 0 := by omega
          exact ⟨A1, n1, c1, c0, by simp at hs; omega, by simp at hs; simp; omega⟩
        · obtain rfl : k = 1 := by omega
          exact ⟨A2, n2, c2, c1', by simp at hs; omega, by simp at hs; simp; omega⟩
      have HS := Aside.mk hsk
      clear hs c0 c1' hsk
      obtain ⟨s2, hs2⟩ : ∃ s2, s2 = s + nk := ⟨_, rfl⟩
      have x1 : (s : Int) + (nk : Int) = (s2 : Int) := by omega
      have x2 : s2 ≤ 2200000 := by omega
      have x3 : ¬ (s2 : Int) < 0 := by omega
      rw [← hs2] at HS
      clear hs2
      go_wp2
      go_roundw
      case rel => exact ⟨k + 1, by omega, by push_cast; rfl, ⟨s2, rfl, HS.out⟩, by first | rfl | trivial⟩
      case measure => simp [intOf]; omega
    · obtain rfl : k = 2 := by omega
      obtain rfl : s = n1 + n2 := by simpa using hs
      clear hs c0 c1'
      obtain ⟨N, hN⟩ : ∃ N, N = n1 + n2 := ⟨_, rfl⟩
      have hN2 : N ≤ 2200000 ∧ 0 < N := by omega
      have HN := Aside.mk hN
      rw [← hN]
      clear hN
      go_wp2_with fail
      refine (grow_nil E _ N w hN2.2 hN2.1 HQ.out.2.1).mono ?_
      rintro e w1 ⟨Ag, cg, rfl, h1⟩
      have H1 := Aside.mk h1
      clear h1
      go_wp2
      go_loopw [6, 27] (fun v6 v27 wr => ∃ k : Nat, k ≤ 2 ∧ v27 = .int .i64 k ∧ Aside (∃ l, l = (if k = 0 then [] else if k = 1 then l1 else l1 ++ l2) ∧ Sat E wr (HP.row 5 1 v6 l.length (b8s l) * (HP.pt bl (.cells #[.slice A1 n1 c1, .slice A2 n2 c2] 28) * q)))) (fun _ i _ => 2 - (intOf i).toNat)
      case atStart => exact ⟨0, by omega, rfl, ⟨[], rfl, H1.out⟩⟩
      case round =>
        obtain ⟨k, hk, rfl, HL⟩ := hrel
        obtain ⟨l, hl, hs⟩ := HL.out
        clear HL
        by_cases hlt : k < 2
        · have hlt2 : (k : Int) < 2 := by omega
          obtain ⟨Ak, lk, nk, ck, gk, ek, hck, hlk, hbd⟩ : ∃ Ak lk nk ck, wr.cell? ⟨bl, k, none⟩ = some (.slice Ak nk ck) ∧ List.length lk = nk ∧ Cells wr Ak (b8s lk) ∧ l ++ lk = (if k + 1 = 0 then [] else if k + 1 = 1 then l1 else l1 ++ l2) ∧ l.length + nk ≤ 2200000 := by
            have hc := HQ.out.1 _ hs.right.right
            have he1 := HQ.out.2.2.1
            have he2 := HQ.out.2.2.2
            rcases Nat.lt_or_ge k 1 with h0 | h0
            · obtain rfl : k = 0 := by omega
              simp at hl
              subst hl
              exact ⟨A1, l1, n1, c1, hs.right.cell 0, he1, hc.1, rfl, by simp; omega⟩
            · obtain rfl : k = 1 := by omega
              simp at hl
              subst hl
              exact ⟨A2, l2, n2, c2, hs.right.cell 1, he2, hc.2, rfl, by omega⟩
          obtain ⟨Al, cl, rfl, -, -⟩ := hs.row_slice
          have HB := Aside.mk (And.intro hs (And.intro hck (And.intro (show (b8s lk).length = nk * 1 by rw [b8s_length, ek, Nat.mul_one]) (And.intro hlk ek))))
          obtain ⟨ol, hol⟩ : ∃ ol, ol = l.length := ⟨_, rfl⟩
          rw [← hol] at HB hbd ⊢
          have HO := Aside.mk hol
          clear hs hck hl hlk ek hol
          go_wp2_with (at_builtin; refine wpList_append_row slB8 rfl rfl (by rfl) (by rfl) HB.out.1 HB.out.2.1 HB.out.2.2.1 (b8s_one _) (by unfold maxLen; omega) (by omega) (fun v5 w5 hw5 => ?_); obtain ⟨A5, c5, rfl, -, -⟩ := hw5.row_slice; have HW5 := Aside.mk hw5; clear hw5)
          have H6 : Aside (∃ l', l' = (if k + 1 = 0 then [] else if k + 1 = 1 then l1 else l1 ++ l2) ∧ Sat E w5 (HP.row 5 1 (.slice A5 (ol + nk) c5) l'.length (b8s l') * (HP.pt bl (.cells #[.slice A1 n1 c1, .slice A2 n2 c2] 28) * q))) := ⟨l ++ lk, HB.out.2.2.2.1, by
            rw [List.length_append, b8s_append, ← HO.out, HB.out.2.2.2.2]
            exact HW5.out⟩
          clear HW5 HB
          go_wp2
          go_roundw
          case rel => exact ⟨k + 1, by omega, by push_cast; rfl, H6⟩
          case measure => simp [intOf]; omega
        · obtain rfl : k = 2 := by omega
          obtain rfl : l = l1 ++ l2 := by simpa using hl
          have hlen : (l1 ++ l2).length = n1 + n2 := by rw [List.length_append, HQ.out.2.2.1, HQ.out.2.2.2]
          rw [hlen] at hs
          obtain ⟨Al, cl, rfl, hcl, hml⟩ := hs.row_slice
          have HS := Aside.mk (And.intro hs.drop2 (And.intro hcl hml))
          clear hs hl hlen hcl hml
          go_wp2
          go_ret
          exact ⟨_, _, rfl, HS.out.2.1, HS.out.2.2, HS.out.1⟩
set_option maxHeartbeats 1000000 in
set_option maxRecDepth 100000 in
theorem joined_ok (E : Env) (q : HP) (bl : Nat) (A1 A2 : Option Addr) (l1 l2 : List Int) (n1 n2 c1 c2 : Nat) (w : World) (e1 : l1.length = n1) (e2 : l2.length = n2) (m1 : 0 < n1) (k1 : n1 ≤ 1100000) (k2 : n2 ≤ 1100000)
    (hq : ∀ w, Sat E w q → Cells w A1 (b8s l1) ∧ Cells w A2 (b8s l2)) (hw : Sat E w (HP.pt bl (.cells #[.slice A1 n1 c1, .slice A2 n2 c2] 28) * q)) :
    Calls Tryz.prog 30 #[.slice (some ⟨bl, 0, none⟩) 2 2] w fun e w' => ∃ A c, e = .returned (.slice A (n1 + n2) c) ∧ n1 + n2 ≤ c ∧ c ≤ maxLen ∧ Sat E w' (HP.row 5 1 (.slice A (n1 + n2) c) (n1 + n2) (b8s (l1 ++ l2)) * q) := by
  have HC := Aside.mk (concat_ok E q bl A1 A2 l1 l2 n1 n2 c1 c2 w e1 e2 m1 k1 k2 hq hw)
  clear hq hw e1 e2
  go_enter Tryz.func30, Tryz.ntmps30
  go_wp2_with fail
  refine HC.out.mono ?_
  rintro e w1 ⟨A, c, rfl, h1, h2, h3⟩
  go_wp2
  go_ret
  exact ⟨A, c, rfl, h1, h2, h3⟩
end Go.Proofs.YtcjcccbjgooooaaGreatDoor
/- wal: a reader's next record. -/
namespace Go.Proofs.YtcjcccbjgooooaaGreatDoor
open Go.RowKit HP
set_option linter.unusedSimpArgs false
set_option linter.unusedVariables false

def recEnd (E : Env) (q : HP) (d br : Nat) (A : Dk) (name : ByteArray) (en : Nat) (r : Option (List Int × Nat)) (e : Ending) (w' : World) : Prop :=
  match r with
  | none => e = .returned (.tuple #[.slice none 0 0, .bool false]) ∧ Sat E w' (HP.disk d A * q)
  | some (t, a) => ∃ v g pay, e = .returned (.tuple #[v, .bool true]) ∧ Sat E w' (HP.row 5 1 v t.length (b8s t) * (HP.pt br (.cells #[.pointer (some ⟨d, 0, none⟩), .string name, .int .i64 (a : Int), .int .i64 (en : Int), .int .i64 g, pay] 93) * (HP.disk d A * q)))
theorem getF_smallW {A : Dk} {i : Int} {st : Int × List Int} {f : ByteArray} (h : st.2.length ≤ 106) : (getF A i st f).2.length ≤ 106 := by
  unfold getF
  cases A.cel f i with
  | none => exact h
  | some c =>
    dsimp only
    cases ho : openI c.read f i with
    | none => exact h
    | some x =>
      dsimp only
      split
      · exact h
      · exact (openI_gen (p := x.1) (g := x.2) ho).2
theorem getP_smallW (A : Dk) (name : ByteArray) (i : Int) : (getP A name i).2.length ≤ 106 := by
  unfold getP halvesL
  exact getF_smallW (getF_smallW (Nat.zero_le _))
theorem openI_bytesW {b : List Int} {f : ByteArray} {i : Int} {p : List Int} {g : Nat} (h : openI b f i = some (p, g)) (hb : Bytes b) : Bytes p := by
  unfold openI at h
  split at h
  · cases h
  · split at h
    · cases h
    · split at h
      · cases h
      · simp only [Option.some.injEq, Prod.mk.injEq] at h
        rw [← h.1]
        exact fun y hy => hb y (List.mem_of_mem_drop (List.mem_of_mem_take hy))
theorem getF_bytesW {A : Dk} {i : Int} {st : Int × List Int} {f : ByteArray} (hs : Bytes st.2) (hb : ∀ c, A.cel f i = some c → Bytes c.read) : Bytes (getF A i st f).2 := by
  unfold getF
  cases hc : A.cel f i with
  | none => exact hs
  | some c =>
    dsimp only
    cases ho : openI c.read f i with
    | none => exact hs
    | some x =>
      dsimp only
      split
      · exact hs
      · exact openI_bytesW (p := x.1) (g := x.2) ho (hb c hc)
theorem getP_bytesW {A : Dk} {name : ByteArray} {i : Int} (hb : ∀ f ∈ halvesL name, ∀ c, A.cel f i = some c → Bytes c.read) : Bytes (getP A name i).2 := by
  unfold getP halvesL
  exact getF_bytesW (getF_bytesW (fun x hx => by cases hx) (hb _ (List.mem_cons_self ..))) (hb _ (List.mem_cons_of_mem _ (List.mem_cons_self ..)))
theorem Sat.drop1 {E : Env} {w : World} {p r q : HP} (h : Sat E w (p * (r * q))) : Sat E w (p * q) := h.drop2
set_option maxHeartbeats 4000000 in
set_option maxRecDepth 100000 in
theorem record_ok (E : Env) (q : HP) (d br : Nat) (A : Dk) (name : ByteArray) (at_ en : Nat) (gen0 : Int) (pay : Value) (w : World) (hname : name.size + 2 ≤ maxLen) (hen : en ≤ 2147483647) (hby : ∀ f ∈ halvesL name, ∀ i c, A.cel f i = some c → Bytes c.read)
    (hq : ∀ w, Sat E w q → Quarter w) (hw : Sat E w (HP.pt br (.cells #[.pointer (some ⟨d, 0, none⟩), .string name, .int .i64 (at_ : Int), .int .i64 (en : Int), .int .i64 gen0, pay] 93) * (HP.disk d A * q))) :
    Calls Tryz.prog 53 #[.pointer (some ⟨br, 0, none⟩)] w (recEnd E q d br A name en (recW A name en at_)) := by
  have HQ := Aside.mk (And.intro hq hby)
  have HN := Aside.mk (next_ok E q d br A name at_ en gen0 pay w hname hen (fun f hf c hc => hby f hf at_ c hc) hq hw)
  have HX := Aside.mk hname
  have hsm := getP_smallW A name at_
  have hpb := getP_bytesW (i := at_) (fun f hf c hc => hby f hf at_ c hc)
  clear hq hby hw
  go_enter Tryz.func53, Tryz.ntmps53
  go_wp2_with fail
  refine HN.out.mono ?_
  intro e w1 h1
  clear HN
  unfold nextEnd at h1
  obtain ⟨⟨g, p⟩, hst⟩ : ∃ st, st = getP A name at_ := ⟨_, rfl⟩
  have HST := Aside.mk hst
  rw [← hst] at h1 hsm hpb
  clear hst
  dsimp only at h1 hsm hpb
  rcases h1 with ⟨hlt, hg0, Av, cv, rfl, hcv, h1⟩ | ⟨hno, rfl, h1⟩
  · have k5 := h1.cell 5
    simp only [List.getElem?_toArray, List.getElem?_cons_zero, List.getElem?_cons_succ] at k5
    by_cases h4 : p.length < 4
    · have HX2 : Aside (recW A name en at_ = none) := ⟨by
        unfold recW
        rw [← HST.out, if_neg (fun h => by have := h.2.2; dsimp only at this; omega)]⟩
      have H1 := Aside.mk h1.right.right
      obtain ⟨pl, hpl⟩ : ∃ pl, pl = p.length := ⟨_, rfl⟩
      rw [← hpl] at h4 k5
      clear h1 hpl hsm hcv
      go_wp2
      go_ret2
      rw [HX2.out]
      exact ⟨rfl, H1.out⟩
    · have hpc := h1.right.row_cells
      obtain ⟨a0, rfl, -⟩ := hpc.at_ 0 (by rw [b8s_length]; omega)
      obtain ⟨gP, oP, rfl⟩ := slice_addr hpc rfl (k := 0) (by rw [b8s_length]; omega)
      obtain ⟨size, hsize⟩ : ∃ size : Nat, size = sizeW p := ⟨_, rfl⟩
      have hs32 : size < 4294967296 := by
        rw [hsize]
        unfold sizeW
        have h8 := getN_lt (p.take 4) (fun y hy => hpb y (List.mem_of_mem_take hy))
        rw [List.length_take, show min 4 p.length = 4 by omega] at h8
        omega
      obtain ⟨N, hN⟩ : ∃ N, N = wneedI size := ⟨_, rfl⟩
      have hN0 : 0 ≤ N ∧ N ≤ 10000 ∧ (N ≠ 0 → size ≤ 1000000) := by rw [hN]; unfold wneedI; split <;> omega
      have HREC : Aside (recW A name en at_ = match moreW A name g en (N - 1).toNat (at_ + 1) p p with
          | none => none
          | some (t, a) => if N ≠ 0 ∧ t.length = size + 4 then some (t.drop 4, a) else none) := ⟨by
        unfold recW
        rw [← HST.out]
        dsimp only
        rw [if_pos ⟨hlt, hg0, by omega⟩, ← hsize, ← hN]
        try rfl⟩
      have HCM : Aside (cv ≤ maxLen) := ⟨by
        obtain ⟨A', c', e', -, hm'⟩ := h1.right.row_slice
        cases e'
        exact hm'⟩
      have HPW := Aside.mk (And.intro hpb (And.intro h1 (And.intro hsize hN)))
      have HC4 : Aside (Cells w1 (some ⟨gP, oP, none⟩) (b8s (p.take 4)) ∧ (p.take 4).length = 4 ∧ Bytes (p.take 4)) := ⟨by
        have := hpc.take 4
        unfold b8s at this ⊢
        rw [List.map_take]; exact this, by rw [List.length_take]; omega, fun y hy => hpb y (List.mem_of_mem_take hy)⟩
      have k4 := h1.cell 4
      simp only [List.getElem?_toArray, List.getElem?_cons_zero, List.getElem?_cons_succ] at k4
      obtain ⟨pl, hpl⟩ : ∃ pl, pl = p.length := ⟨_, rfl⟩
      rw [← hpl] at h4 k5 hsm hcv
      have HPL := Aside.mk hpl
      clear hpb h1 hsize hN hpc hpl HST hlt hg0
      have h4b : ¬ (pl : Int) < 4 := by omega
      have h4c : (4 : Int) ≤ cv := by omega
      go_wp2_with fail
      refine (crc_get (some ⟨gP, oP, none⟩) (p.take 4) 4 cv w1 HC4.out.2.1 (by omega) (by omega) HC4.out.2.2 HC4.out.1).mono ?_
      rintro e w2 ⟨rfl, hw2⟩
      subst w2
      have hsz2 : getN (p.take 4) = size := HPW.out.2.2.1.symm
      rw [hsz2]
      clear hsz2 HC4
      have hw64 : wrap64 (size : Int) = (size : Int) := by unfold wrap64; omega
      go_wp2
      refine region_R [2] [2] (fun W => W = w1.drew) #[false, false, false, false, false, false, false, false, false] (by kernel_rfl) rfl rfl ?_
      refine wpR_rd 0 #[true, false, false, false, false, false, false, false, false] rfl onlyN_noPanic (by kernel_rfl) (fun K hK => ?_); (go_simp; try go_bits); refine hK _ ?_; clear hK K
      refine wpR_rd 1 #[true, true, false, false, false, false, false, false, false] rfl onlyN_noPanic (by kernel_rfl) (fun K hK => ?_); (go_simp; try go_bits); refine hK _ ?_; clear hK K
      refine wpR_pu 3 #[true, true, false, true, false, false, false, false, false] rfl onlyN_noPanic (by kernel_rfl) (fun K hK => ?_); (go_simp; try go_bits); refine hK _ ?_; clear hK K
      refine wpR_pu 4 #[true, true, false, true, true, false, false, false, false] rfl onlyN_noPanic (by kernel_rfl) (fun K hK => ?_); (go_simp; try go_bits); refine hK _ ?_; clear hK K
      refine wpR_pu 5 #[true, true, false, true, true, true, false, false, false] rfl onlyN_noPanic (by kernel_rfl) (fun K hK => ?_); (go_simp; try go_bits); refine hK _ ?_; clear hK K
      refine wpR_held (i := 6) (v := (.int .i64 g)) #[true, true, false, true, true, true, true, false, false] rfl onlyN_noPanic (by kernel_rfl) rfl (.inl ⟨rfl, fun w' hT => ?_⟩) ?_
      · subst hT; go_simp
      simp only [Act.put, List.setIfInBounds_toArray, List.set_cons_zero, List.set_cons_succ]
      refine wpR_keep #[true, true, true, true, true, true, true, false, false] (i := 2) rfl (by kernel_rfl) (fun K hK => ?_)
      go_simp
      refine (wal_need size _ (by unfold wf64; omega)).mono ?_
      rintro e w3 ⟨rfl, hw3⟩; subst w3; refine hK _ _ rfl ?_; clear hK K
      refine wpR_rd 7 #[true, true, true, true, true, true, true, true, false] rfl onlyN_noPanic (by kernel_rfl) (fun K hK => ?_); (go_simp; try go_bits); refine hK _ ?_; clear hK K
      refine wpR_rd 8 #[true, true, true, true, true, true, true, true, true] rfl onlyN_noPanic (by kernel_rfl) (fun K hK => ?_); (go_simp; try go_bits); refine hK _ ?_; clear hK K
      refine wpR_done (by kernel_rfl) ?_ _
      simp only [OnlyN]
      rw [← HPW.out.2.2.2]
      have h1d := HPW.out.2.1.drew
      rw [← HPL.out] at h1d
      have HS0 : Aside (Sat E w1.drew (HP.row 5 1 (.slice (some ⟨gP, oP, none⟩) pl cv) pl (b8s p) * (HP.pt br (.cells #[.pointer (some ⟨d, 0, none⟩), .string name, .int .i64 ((at_ + 1 : Nat) : Int), .int .i64 (en : Int), .int .i64 g, .slice (some ⟨gP, oP, none⟩) pl cv] 93) * (HP.disk d A * q)))) := ⟨h1d.s2⟩
      clear h1d k4
      go_wp2
      clear k5
      go_loopw [8, 9] (fun v8 v9 wr => ∃ (k a : Nat) (text last : List Int) (At Al : Option Addr) (ct cl : Nat) (R : HP), v9 = .int .i64 ((k + 1 : Nat) : Int) ∧ v8 = .slice At text.length ct ∧ k + 1 ≤ 10001 ∧ text.length ≤ 106 * (k + 1) ∧ 4 ≤ text.length ∧ text.length ≤ ct ∧ ct ≤ maxLen ∧ last.length ≤ 106 ∧ Aside (Bytes text ∧ k ≤ (N - 1).toNat ∧ moreW A name g en ((N - 1).toNat - k) a last text = moreW A name g en (N - 1).toNat (at_ + 1) p p) ∧ Aside (Sat E wr (R * (HP.pt br (.cells #[.pointer (some ⟨d, 0, none⟩), .string name, .int .i64 (a : Int), .int .i64 (en : Int), .int .i64 g, .slice Al last.length cl] 93) * (HP.disk d A * q))) ∧ ∀ w' q', Sat E w' (R * q') → Cells w' At (b8s text) ∧ Cells w' Al (b8s last))) (fun _ i _ => (N - intOf i).toNat)
      case atStart => exact ⟨0, at_ + 1, p, p, some ⟨gP, oP, none⟩, some ⟨gP, oP, none⟩, cv, cv, _, rfl, by rw [← HPL.out], by omega, by rw [← HPL.out]; omega, by rw [← HPL.out]; omega, by rw [← HPL.out]; omega, by first | omega | (have := HCM.out; omega), by rw [← HPL.out]; omega, ⟨HPW.out.1, by omega, by rw [Nat.sub_zero]⟩, ⟨by rw [← HPL.out]; exact HS0.out, fun w' q' h => ⟨h.row_cells, h.row_cells⟩⟩⟩
      case round =>
        obtain ⟨k, a, text, last, At, Al, ct, cl, R, rfl, rfl, hk1, htl, ht4, htc, htm, hll, HM, HS⟩ := hrel
        clear HS0
        have k5 := HS.out.1.right.cell 5
        simp only [List.getElem?_toArray, List.getElem?_cons_zero, List.getElem?_cons_succ] at k5
        obtain ⟨tl, htle⟩ : ∃ tl, tl = text.length := ⟨_, rfl⟩
        obtain ⟨ll, hlle⟩ : ∃ ll, ll = last.length := ⟨_, rfl⟩
        obtain ⟨i, hi⟩ : ∃ i, i = k + 1 := ⟨_, rfl⟩
        rw [← htle] at htl ht4 htc ⊢
        rw [← hlle] at k5 hll
        rw [← hi]
        have HE := Aside.mk (And.intro htle (And.intro hlle hi))
        have hi1 : i ≤ 10001 := by omega
        have hti : tl ≤ 106 * i := by omega
        clear htle hlle
        by_cases hlt : (i : Int) < N
        · obtain ⟨c, hc⟩ : ∃ c, (N - 1).toNat - k = c + 1 := ⟨(N - 1).toNat - k - 1, by omega⟩
          have HM2 : Aside (moreW A name g en (N - 1).toNat (at_ + 1) p p = if last.length = 106 ∧ a < en ∧ 0 ≤ (getP A name a).1 ∧ (getP A name a).1 = g then moreW A name g en c (a + 1) (getP A name a).2 (text ++ (getP A name a).2) else none) := ⟨by
            rw [← HM.out.2.2, hc]; rfl⟩
          have HCC : Aside ((N - 1).toNat - (k + 1) = c ∧ k + 1 ≤ (N - 1).toNat) := ⟨by omega, by omega⟩
          clear hc hi hk1
          by_cases hl6 : ll = 106
          · have hl6b : ((ll : Int) != 106) = false := by rw [hl6]; rfl
            have hl6c : (ll : Int) = 106 := by omega
            have HL6 := Aside.mk hl6
            have HNX := Aside.mk (next_ok E (R * q) d br A name a en g (.slice Al last.length cl) wr HX.out hen (fun f hf c hc => HQ.out.2 f hf a c hc) (fun w h => HQ.out.1 w h.right) (HS.out.1.perm (by ac_rfl)))
            have hsm2 := getP_smallW A name a
            have hpb2 := getP_bytesW (i := a) (fun f hf c hc => HQ.out.2 f hf a c hc)
            clear hl6
            go_wp2_with fail
            refine HNX.out.mono ?_
            intro e w4 h4
            clear HNX
            unfold nextEnd at h4
            obtain ⟨⟨g2, p2⟩, hst⟩ : ∃ st, st = getP A name a := ⟨_, rfl⟩
            rw [← hst] at h4 hsm2 hpb2 HM2
            clear hst
            dsimp only at h4 hsm2 hpb2 HM2
            rcases h4 with ⟨hlt3, hg3, Av2, cv2, rfl, hcv2, h4⟩ | ⟨hno, rfl, h4⟩
            · have k4 := h4.cell 4
              have k5b := h4.cell 5
              simp only [List.getElem?_toArray, List.getElem?_cons_zero, List.getElem?_cons_succ] at k4 k5b
              clear k5
              by_cases hgg : g2 = g
              · subst hgg
                rw [if_pos ⟨by rw [← HE.out.2.1]; exact HL6.out, hlt3, hg3, rfl⟩] at HM2
                have hck := HS.out.2
                have ht8 : text.length = tl := HE.out.1.symm
                have HT := Aside.mk (And.intro ht8 (And.intro HM.out.1 hpb2))
                obtain ⟨pl2, hpl2⟩ : ∃ pl2, pl2 = p2.length := ⟨_, rfl⟩
                rw [← hpl2] at h4 hsm2 hcv2 k5b
                have HP2 := Aside.mk hpl2
                have h5 := h4.alloc (.cells #[.slice At tl ct, .slice Av2 pl2 cv2] 28)
                have HCK : Aside (∀ w', Sat E w' (HP.pt br (.cells #[.pointer (some ⟨d, 0, none⟩), .string name, .int .i64 ((a + 1 : Nat) : Int), .int .i64 (en : Int), .int .i64 g2, .slice Av2 pl2 cv2] 93) * (HP.row 5 1 (.slice Av2 pl2 cv2) pl2 (b8s p2) * (HP.disk d A * (R * q)))) → Cells w' At (b8s text) ∧ Cells w' Av2 (b8s p2)) := ⟨fun w' h => ⟨(hck w' _ (h.perm (by ac_rfl : _ = R * (HP.pt br (.cells #[.pointer (some ⟨d, 0, none⟩), .string name, .int .i64 ((a + 1 : Nat) : Int), .int .i64 (en : Int), .int .i64 g2, .slice Av2 pl2 cv2] 93) * (HP.row 5 1 (.slice Av2 pl2 cv2) pl2 (b8s p2) * (HP.disk d A * q)))))).1, h.right.row_cells⟩⟩
                have H5 := Aside.mk h5
                have HR := Aside.mk hck
                clear h4 h5 hck ht8 hpl2 hpb2 HS
                go_wp2_with fail
                refine (joined_ok E _ w4.heap.size At Av2 text p2 tl pl2 ct cv2 _ HT.out.1 HP2.out.symm (by omega) (by omega) (by omega) HCK.out H5.out).mono ?_
                rintro e w5 ⟨A5, c5, rfl, hc5, hm5, h6⟩
                have H6 : Aside (Sat E w5 ((HP.row 5 1 (.slice A5 (tl + pl2) c5) (tl + pl2) (b8s (text ++ p2)) * (HP.row 5 1 (.slice Av2 pl2 cv2) pl2 (b8s p2) * R)) * (HP.pt br (.cells #[.pointer (some ⟨d, 0, none⟩), .string name, .int .i64 ((a + 1 : Nat) : Int), .int .i64 (en : Int), .int .i64 g2, .slice Av2 p2.length cv2] 93) * (HP.disk d A * q))) ∧ ∀ w' q', Sat E w' ((HP.row 5 1 (.slice A5 (tl + pl2) c5) (tl + pl2) (b8s (text ++ p2)) * (HP.row 5 1 (.slice Av2 pl2 cv2) pl2 (b8s p2) * R)) * q') → Cells w' A5 (b8s (text ++ p2)) ∧ Cells w' Av2 (b8s p2)) := ⟨by
                  rw [← HP2.out]
                  exact h6.perm (by ac_rfl), fun w' q' h => by
                  have h7 : Sat E w' (HP.row 5 1 (.slice A5 (tl + pl2) c5) (tl + pl2) (b8s (text ++ p2)) * (HP.row 5 1 (.slice Av2 pl2 cv2) pl2 (b8s p2) * (R * q'))) := h.perm (by ac_rfl)
                  exact ⟨h7.row_cells, h7.right.row_cells⟩⟩
                have hlen : (text ++ p2).length = tl + pl2 := by rw [List.length_append, HT.out.1, HP2.out]
                have HI : Aside (Bytes (text ++ p2) ∧ k + 1 ≤ (N - 1).toNat ∧ moreW A name g2 en ((N - 1).toNat - (k + 1)) (a + 1) p2 (text ++ p2) = moreW A name g2 en (N - 1).toNat (at_ + 1) p p) := ⟨HT.out.2.1.append HT.out.2.2, HCC.out.2, by rw [HCC.out.1]; exact HM2.out.symm⟩
                have HLN := Aside.mk hlen
                clear h6 hlen HCK H5 HM2
                have hi2 : tl + pl2 ≤ 106 * (i + 1) := by omega
                have hi3 : i + 1 ≤ 10001 := by have := hN0.2.1; omega
                go_wp2
                refine ⟨⟨k + 1, a + 1, text ++ p2, p2, A5, Av2, c5, cv2, _, by rw [HE.out.2.2]; push_cast; rfl, by rw [HLN.out], by rw [← HE.out.2.2]; exact hi3, by rw [HLN.out, ← HE.out.2.2]; exact hi2, by rw [HLN.out]; omega, by rw [HLN.out]; exact hc5, hm5, by rw [← HP2.out]; exact hsm2, HI, H6⟩, by simp only [intOf]; omega⟩
              · have HX2 : Aside (recW A name en at_ = none) := ⟨by rw [HREC.out, HM2.out, if_neg (fun h => hgg h.2.2.2)]⟩
                have hgb : (g2 != g) = true := by rw [bne_iff_ne]; exact hgg
                have H4 := Aside.mk h4.right.right.drop1
                clear h4 HM2 hpb2
                go_wp2
                go_ret2
                rw [HX2.out]
                exact ⟨rfl, H4.out⟩
            · have HX2 : Aside (recW A name en at_ = none) := ⟨by rw [HREC.out, HM2.out, if_neg (fun h => hno ⟨h.2.1, h.2.2.1⟩)]⟩
              have H4 := Aside.mk h4.right.drop1
              clear h4 hno HM2
              go_wp2
              go_ret2
              rw [HX2.out]
              exact ⟨rfl, H4.out⟩
          · have HX2 : Aside (recW A name en at_ = none) := ⟨by rw [HREC.out, HM2.out, if_neg (fun h => hl6 (by rw [HE.out.2.1]; exact h.1))]⟩
            have hl6b : ((ll : Int) != 106) = true := by rw [bne_iff_ne]; omega
            have hl6c : ¬ (ll : Int) = 106 := by omega
            have H4 := Aside.mk HS.out.1.right.right
            clear HM2 HS
            go_wp2
            go_ret2
            rw [HX2.out]
            exact ⟨rfl, H4.out⟩
        · have hk0 : (N - 1).toNat - k = 0 := by omega
          have HM2 : Aside (recW A name en at_ = if N ≠ 0 ∧ tl = size + 4 then some (text.drop 4, a) else none) := ⟨by
            rw [HREC.out, ← HM.out.2.2, hk0, HE.out.1]
            rfl⟩
          have HBT := Aside.mk HM.out.1
          clear hk0 HREC HM hi hk1 k5
          by_cases hN0' : N = 0
          · have HX2 : Aside (recW A name en at_ = none) := ⟨by rw [HM2.out, if_neg (fun h => h.1 hN0')]⟩
            have H4 := Aside.mk HS.out.1.right.right
            subst hN0'
            clear HM2 HS
            go_wp2
            go_ret2
            rw [HX2.out]
            exact ⟨rfl, H4.out⟩
          · have hNb : (N == 0) = false := by rw [beq_eq_false_iff_ne]; exact hN0'
            have hsz1 : 1 ≤ size ∧ size ≤ 1000000 := by
              have h1 := HPW.out.2.2.2
              unfold wneedI at h1
              split at h1
              · exact absurd h1 hN0'
              · omega
            by_cases htz : tl = size + 4
            · have HX2 : Aside (recW A name en at_ = some (text.drop 4, a)) := ⟨by rw [HM2.out, if_pos ⟨hN0', htz⟩]⟩
              obtain ⟨hS1, hS2⟩ := HS.out
              have hcl := (hS2 _ _ hS1).1
              obtain ⟨a0, rfl, -⟩ := hcl.at_ 0 (by rw [b8s_length, ← HE.out.1]; omega)
              obtain ⟨gT, oT, rfl⟩ := slice_addr hcl rfl (k := 0) (by rw [b8s_length, ← HE.out.1]; omega)
              have hcd : Cells wr (some ⟨gT, oT + 4, none⟩) (b8s (text.drop 4)) := by
                have := hcl.drop 4
                rw [addr_add] at this
                unfold b8s at this ⊢
                rw [List.map_drop]; exact this
              have HCD := Aside.mk (And.intro hcd (show (text.drop 4).length = size by rw [List.length_drop, ← HE.out.1]; omega))
              have HS1 := Aside.mk hS1
              have e1 : ((tl : Int) - 4 != (size : Int)) = false := by rw [show (tl : Int) - 4 = (size : Int) by omega]; simp
              have e2 : (tl : Int) - 4 = (size : Int) := by omega
              have e3 : (4 : Int) ≤ tl := by omega
              have e4 : tl - 4 = size := by omega
              have e5 : ¬ ct = 4 := by omega
              have e6 : tl ≤ ct := by omega
              clear hcl hcd hS1 hS2 HS HM2 htz
              go_wp2_with fail
              refine (cloneBytes_ok E _ (some ⟨gT, oT + 4, none⟩) (text.drop 4) size (ct - 4) _ HCD.out.2 hsz1.2 HS1.out HCD.out.1).mono ?_
              rintro e w5 ⟨v, rfl, h5⟩
              have H5 := Aside.mk h5.drop2
              clear h5
              go_wp2
              go_ret2
              rw [HX2.out]
              refine ⟨v, g, .slice Al last.length cl, rfl, ?_⟩
              rw [HCD.out.2]
              exact H5.out
            · have HX2 : Aside (recW A name en at_ = none) := ⟨by rw [HM2.out, if_neg (fun h => htz h.2)]⟩
              have e1 : ((tl : Int) - 4 != (size : Int)) = true := by rw [bne_iff_ne]; omega
              have e2 : ¬ (tl : Int) - 4 = (size : Int) := by omega
              have H4 := Aside.mk HS.out.1.right.right
              clear HM2 HS
              go_wp2
              go_ret2
              rw [HX2.out]
              exact ⟨rfl, H4.out⟩
  · have HX2 : Aside (recW A name en at_ = none) := ⟨by
      unfold recW
      rw [← HST.out, if_neg (fun h => hno ⟨h.1, h.2.1⟩)]⟩
    have H1 := Aside.mk h1.right
    clear h1 hno
    go_wp2
    go_ret2
    rw [HX2.out]
    exact ⟨rfl, H1.out⟩
end Go.Proofs.YtcjcccbjgooooaaGreatDoor
