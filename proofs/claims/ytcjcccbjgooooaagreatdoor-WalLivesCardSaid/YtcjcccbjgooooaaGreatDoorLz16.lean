/- Texts of one claim, one behind the other: Rf18R, WalD, BytP, WLvR, WalW, WalQ. -/
import Derived.Test.YtcjcccbjgooooaaGreatDoorLz15
/- dryrotref18.Read over the document's disk. -/
namespace Go.Proofs.YtcjcccbjgooooaaGreatDoor
open Go.RowKit HP
set_option linter.unusedSimpArgs false
set_option linter.unusedVariables false

def rreadEnd (E : Env) (q : HP) (y : Nat) (A : Dk) (r : Option (List (List Int))) (e : Ending) (w' : World) : Prop :=
  match r with
  | none => e = .returned (.tuple #[.slice none 0 0, .int .i64 50]) ∧ Sat E w' (HP.rdisk y A * q)
  | some l => ∃ V c R, ∃ ss : List (Sl Int), ss.map (·.l) = l ∧ e = .returned (.tuple #[.slice V ss.length c, .int .i64 0]) ∧ ss.length ≤ c ∧ Sat E w' (R * (HP.rdisk y A * q)) ∧ ∀ w'' q', Sat E w'' (R * q') → Cells w'' V (ss.map Sl.val8) ∧ ∀ s ∈ ss, Cells w'' s.A (b8s s.l)
def rrInv (E : Env) (q : HP) (y : Nat) (A : Dk) (name : ByteArray) (en : Nat) (rr : Option (List (List Int))) (i want : Nat) (gen : Int) (had : Nat) (v8 v9 : Value) (wr : World) : Prop :=
  ∃ (s : Option RecS) (ss : List (Sl Int)) (tx : List Int) (R : HP),
    (ss.length ≤ i ∧ tx.length ≤ 106 * i) ∧ refG A name (en - i) i s (ss.map (·.l)) = rr ∧ Bytes tx ∧
    ((s = none ∧ want = 0) ∨ (s = some ⟨want, gen, had, tx⟩ ∧ had < want ∧ 4 ≤ tx.length)) ∧
    Sat E wr (HP.row 28 1 v8 ss.length (ss.map Sl.val8) * (HP.row 5 1 v9 tx.length (b8s tx) * (R * (HP.rdisk y A * q)))) ∧ ∀ w' q', Sat E w' (R * q') → ∀ s ∈ ss, Cells w' s.A (b8s s.l)
set_option maxHeartbeats 4000000 in
set_option maxRecDepth 100000 in
theorem ref_wread (E : Env) (q : HP) (y : Nat) (A : Dk) (seg : Int) (en : Nat) (w : World) (hs0 : 0 ≤ seg) (hs1 : seg ≤ 4611686018427387904) (he : en ≤ 2147483647) (hby : ∀ f ∈ halvesL (nameW seg), ∀ i c, A.cel f i = some c → Bytes c.read) (hw : Sat E w (HP.rdisk y A * q)) :
    Calls Tryz.prog 13 #[.pointer (some ⟨y, 0, none⟩), .int .i64 seg, .int .i64 en] w (rreadEnd E q y A (readG A (nameW seg) en en 0 [])) := by
  have hs64 : wf64 seg := by unfold wf64; omega
  have hsz : (nameW seg).size + 2 ≤ maxLen := by have := nameW_size hs64; unfold maxLen; omega
  rw [readG_ref]
  have g0 : ¬ seg < 0 := by omega
  have g1 : ¬ 4611686018427387904 < seg := by omega
  have g2 : ¬ (en : Int) < 0 := by omega
  have g3 : ¬ 2147483647 < (en : Int) := by omega
  obtain ⟨name, hname⟩ : ∃ name, name = nameW seg := ⟨_, rfl⟩
  rw [← hname] at hby hsz ⊢
  obtain ⟨rr, hrr⟩ : ∃ rr, rr = refG A name en 0 none [] := ⟨_, rfl⟩
  rw [← hrr]
  have HBY := Aside.mk (And.intro hby (And.intro hsz (And.intro hname hs64)))
  have H3 : Aside (rrInv E q y A name en rr 0 0 0 0 (.slice none 0 0) (.slice none 0 0) w) :=
    ⟨none, [], [], HP.emp, ⟨Nat.le_refl _, Nat.zero_le _⟩, hrr.symm, (fun x hx => by cases hx), .inl ⟨rfl, rfl⟩, ((hw.emp_intro).row_nil _ _ _).row_nil _ _ _, fun _ _ _ s hs => by cases hs⟩
  clear hby hsz hname hs64 hrr hs0 hs1 hw
  go_enter Tryz.func13, Tryz.ntmps13
  go_wp2
  go_loopw [8, 9, 10, 11, 12, 38] (fun v8 v9 v10 v11 v12 v38 wr => ∃ (i want : Nat) (gen : Int) (had : Nat), v10 = .int .i64 want ∧ v11 = .int .i64 gen ∧ v12 = .int .i64 had ∧ v38 = .int .i64 i ∧ i ≤ en ∧ want ≤ 10000 ∧ had ≤ 10000 ∧ Aside (rrInv E q y A name en rr i want gen had v8 v9 wr)) (fun _ _ _ _ _ v38 _ => en - (intOf v38).toNat)
  case atStart => exact ⟨0, 0, 0, 0, rfl, rfl, rfl, rfl, Nat.zero_le _, by omega, by omega, H3⟩
  case round =>
    clear H3
    obtain ⟨i, want, gen, had, rfl, rfl, rfl, rfl, hi, hwb, hhb, HI0⟩ := hrel
    obtain ⟨s, ss, tx, R, ⟨hsl, htl⟩, hrd, htb, hst, hS, hR⟩ := HI0.out
    obtain ⟨V, cV, rfl, hcV, hmV⟩ := hS.row_slice
    obtain ⟨v9x, h9x⟩ : ∃ x, x = u9 := ⟨_, rfl⟩
    by_cases hlt : i < en
    · have hlt2 : (i : Int) < en := by omega
      obtain ⟨c, hc⟩ : ∃ c, en - i = c + 1 := ⟨en - i - 1, by omega⟩
      rw [hc, refG_succ] at hrd
      obtain ⟨n, hn⟩ : ∃ n, n = ss.length := ⟨_, rfl⟩
      rw [← hn] at hS hsl ⊢
      have HN := Aside.mk hn
      have HR := Aside.mk hR
      have HS := Aside.mk hS
      have HRD0 := Aside.mk hrd
      have HST := Aside.mk hst
      have HTX := Aside.mk (And.intro htb htl)
      clear hn hR hS hrd hst htb htl HI0 hcV hmV
      go_wp2_with fail
      refine (ref_wname seg _ HBY.out.2.2.2).mono ?_
      rintro e w8 ⟨rfl, hw8⟩
      subst w8
      rw [← HBY.out.2.2.1]
      have hS2 : Sat E wr (HP.rdisk y A * (HP.row 28 1 (.slice V n cV) n (ss.map Sl.val8) * (HP.row 5 1 u9 tx.length (b8s tx) * (R * q)))) := HS.out.perm (by ac_rfl)
      have HS2 := Aside.mk hS2
      clear hS2 HS
      go_wp2_with fail
      refine (ref_getp E _ y A name (i : Int) _ HBY.out.2.1 (fun f hf c hc => HBY.out.1 f hf _ c hc) HS2.out).mono ?_
      rintro e w4 ⟨vp, he4, h4⟩
      have hpl := getP_smallW A name (i : Int)
      have hpb := getP_bytesW (A := A) (name := name) (i := (i : Int)) (fun f hf c hc => HBY.out.1 f hf _ c hc)
      obtain ⟨⟨gv, p⟩, hgp⟩ : ∃ g, g = getP A name (i : Int) := ⟨_, rfl⟩
      rw [← hgp] at he4 h4 hpl hpb HRD0
      dsimp only at h4 hpl hpb
      obtain ⟨Ap, cp, rfl, hcp, hcpm⟩ := h4.row_slice
      obtain ⟨np, hnp⟩ : ∃ np, np = p.length := ⟨_, rfl⟩
      rw [← hnp] at h4 hpl hcp he4
      have HPP := Aside.mk (And.intro hpl (And.intro hpb hnp.symm))
      unfold getEnd at he4
      dsimp only at he4
      have H4A := Aside.mk h4
      clear h4 hpl hpb hnp hgp HS2
      by_cases h0 : gv < 0
      · rw [if_pos h0] at he4
        subst he4
        have HX : Aside (rr = none) := ⟨by rw [← HRD0.out]; unfold stepS; rw [if_pos h0]⟩
        have H4 : Aside (Sat E w4 (HP.rdisk y A * q)) := ⟨(H4A.out.right.perm (by ac_rfl : _ = HP.row 28 1 (.slice V n cV) n (ss.map Sl.val8) * (HP.row 5 1 u9 tx.length (b8s tx) * (R * (HP.rdisk y A * q))))).right.right.right⟩
        go_wp2
        go_ret2
        rw [HX.out]
        exact ⟨rfl, H4.out⟩
      rw [if_neg h0] at he4
      subst he4
      rcases HST.out with ⟨hs, hw0⟩ | ⟨hs, hhw, ht4⟩
      · subst hw0
        rw [hs] at HRD0
        by_cases hp4 : np < 4
        · have HX : Aside (rr = none) := ⟨by rw [← HRD0.out]; unfold stepS; rw [if_neg (by dsimp only; omega)]; dsimp only; rw [if_pos (.inl (by rw [HPP.out.2.2]; exact hp4))]⟩
          have H4 : Aside (Sat E w4 (HP.rdisk y A * q)) := ⟨(H4A.out.right.perm (by ac_rfl : _ = HP.row 28 1 (.slice V n cV) n (ss.map Sl.val8) * (HP.row 5 1 u9 tx.length (b8s tx) * (R * (HP.rdisk y A * q))))).right.right.right⟩
          go_wp2_with fail
          refine (refint4_short Ap np cp _ hp4).mono ?_
          rintro e w5 ⟨rfl, hw5⟩
          subst w5
          go_wp2_with fail
          refine (ref_wneed 0 _ (by unfold wf64; omega)).mono ?_
          rintro e w5 ⟨rfl, hw5⟩
          subst w5
          go_wp2
          go_ret2
          rw [HX.out]
          exact ⟨rfl, H4.out⟩
        have hcl := H4A.out.row_cells
        obtain ⟨a0, rfl, -⟩ := hcl.at_ 0 (by rw [b8s_length, HPP.out.2.2]; omega)
        obtain ⟨g2, o2, rfl⟩ := slice_addr hcl rfl (k := 0) (by rw [b8s_length, HPP.out.2.2]; omega)
        clear hcl
        have hzb : sizeW p < 4294967296 := by
          have h1 := getN_lt (p.take 4) (fun x hx => HPP.out.2.1 x (List.mem_of_mem_take hx))
          rw [show (p.take 4).length = 4 by rw [List.length_take, HPP.out.2.2]; omega] at h1
          exact h1
        have hz : wrap64 (getN (p.take 4) : Int) = ((sizeW p : Nat) : Int) := by
          unfold sizeW at hzb ⊢
          unfold wrap64
          omega
        go_wp2_with fail
        refine (refint4_ok E _ g2 o2 p np cp _ HPP.out.2.2 (by omega) hcp HPP.out.2.1 (fun w h => h.row_cells) H4A.out).mono ?_
        rintro e w5 ⟨⟨o3, rfl, -⟩, h5⟩
        rw [hz]
        have H5 := Aside.mk h5
        clear h5 hz H4A
        obtain ⟨sz, hsz⟩ : ∃ sz, sz = sizeW p := ⟨_, rfl⟩
        rw [← hsz] at hzb ⊢
        have HSZ := Aside.mk hsz
        clear hsz
        go_wp2_with fail
        refine (ref_wneed (sz : Int) _ (by unfold wf64; omega)).mono ?_
        rintro e w6 ⟨rfl, hw6⟩
        subst w6
        obtain ⟨W0, hW0⟩ : ∃ W0, W0 = wneedI sz := ⟨_, rfl⟩
        rw [← hW0]
        have hWb : 0 ≤ W0 ∧ W0 ≤ 10000 := by rw [hW0]; unfold wneedI; split <;> omega
        have HW0 := Aside.mk hW0
        clear hW0
        by_cases hW1 : W0 = 0
        · subst hW1
          have HX : Aside (rr = none) := ⟨by rw [← HRD0.out]; unfold stepS; rw [if_neg (by dsimp only; omega)]; dsimp only; rw [if_pos (.inr (by rw [← HSZ.out]; exact HW0.out.symm))]⟩
          have H4 : Aside (Sat E _ (HP.rdisk y A * q)) := ⟨(H5.out.right.perm (by ac_rfl : _ = HP.row 28 1 (.slice V n cV) n (ss.map Sl.val8) * (HP.row 5 1 u9 tx.length (b8s tx) * (R * (HP.rdisk y A * q))))).right.right.right⟩
          go_wp2
          go_ret2
          rw [HX.out]
          exact ⟨rfl, H4.out⟩
        obtain ⟨W, rfl⟩ : ∃ W : Nat, W0 = (W : Int) := ⟨W0.toNat, by omega⟩
        have hWbeq : ((W : Int) == 0) = false := by rw [beq_eq_false_iff_ne]; exact hW1
        have HRD : Aside ((match takeS ⟨W, gv, 0, []⟩ (gv, p) with
          | none => none
          | some (.inl s) => refG A name c (i + 1) (some s) (ss.map (·.l))
          | some (.inr t) => refG A name c (i + 1) none (ss.map (·.l) ++ [t])) = rr) := ⟨by
          have h := HRD0.out
          unfold stepS at h
          rw [if_neg (by dsimp only; omega)] at h
          dsimp only at h
          rw [if_neg (by rw [HPP.out.2.2, ← HSZ.out, ← HW0.out]; omega)] at h
          unfold RecS.fresh at h
          dsimp only at h
          rw [← HSZ.out, ← HW0.out, Int.toNat_natCast] at h
          exact h⟩
        have HT : Aside (Sat E w5 (HP.row 5 1 (.slice none 0 0) ([] : List Int).length (b8s []) * (HP.row 5 1 (.slice (some ⟨g2, o2, none⟩) np cp) np (b8s p) * (HP.row 28 1 (.slice V n cV) n (ss.map Sl.val8) * (R * (HP.rdisk y A * q))))) ∧ ([] : List Int).length ≤ 106 * i) := ⟨(((H5.out.perm (by ac_rfl : _ = HP.row 5 1 u9 tx.length (b8s tx) * (HP.row 5 1 (.slice (some ⟨g2, o2, none⟩) np cp) np (b8s p) * (HP.row 28 1 (.slice V n cV) n (ss.map Sl.val8) * (R * (HP.rdisk y A * q)))))).right).row_nil _ _ _), Nat.zero_le _⟩
        have HPC : Aside (Cells w5 (some ⟨g2, o2, none⟩) (b8s p) ∧ (b8s p).length = np * 1) := ⟨H5.out.row_cells, by rw [b8s_length, HPP.out.2.2]; omega⟩
        have HTB : Aside (Bytes ([] : List Int) ∧ 4 ≤ (([] : List Int) ++ p).length) := ⟨(fun x hx => by cases hx), by rw [List.nil_append, HPP.out.2.2]; omega⟩
        have hHW : 0 < W := by omega
        have hWb2 : W ≤ 10000 := by omega
        obtain ⟨Ap, hAp⟩ : ∃ x, x = (some ⟨g2, o2, none⟩ : Option Addr) := ⟨_, rfl⟩
        rw [← hAp] at HT HPC ⊢
        clear H5 HRD0 HST HTX HW0 HSZ hWb hW1 hp4 hAp
        have hTB := HT.out.2
        have hpl64 : np ≤ 106 := HPP.out.1
        obtain ⟨T2, hT2⟩ : ∃ T2, T2 = ([] : List Int) ++ p := ⟨_, rfl⟩
        obtain ⟨n2, hn2⟩ : ∃ n2, n2 = ([] : List Int).length + np := ⟨_, rfl⟩
        have hT2l : T2.length = n2 := by rw [hT2, hn2, List.length_append, HPP.out.2.2]
        have hT2b : Bytes T2 := by rw [hT2]; exact HTB.out.1.append HPP.out.2.1
        have hT24 : 4 ≤ n2 := by rw [← hT2l, hT2]; exact HTB.out.2
        have H2 := Aside.mk (And.intro hT2l (And.intro hT2b (And.intro hT2 hT24)))
        have HN2 := Aside.mk hn2
        have hn2b : n2 ≤ 106 * (i + 1) := by omega
        clear hT2 hn2 hT2l hT2b
        by_cases hg : gv = gv
        · clear hg
          by_cases hlt3 : 0 + 1 < W
          · have hlt4 : (1 : Int) < (W : Int) := by omega
            by_cases hp106 : np = 106
            · have HX : Aside (refG A name c (i + 1) (some ⟨W, gv, 0 + 1, T2⟩) (ss.map (·.l)) = rr) := ⟨by
                rw [← HRD.out]
                unfold takeS
                rw [if_neg (by unfold RecBad; dsimp only; rw [HPP.out.2.2]; omega), if_neg (by dsimp only; omega)]
                dsimp only [RecS.more]
                rw [H2.out.2.2.1]⟩
              have hne : ¬ (1 : Int) = (W : Int) := by omega
              have hneb : ((1 : Int) == (W : Int)) = false := by rw [beq_eq_false_iff_ne]; exact hne
              subst hp106
              go_wp2_with (at_builtin; (refine wpList_append_row slB8 rfl rfl (by rfl) (by rfl) HT.out.1 HPC.out.1 HPC.out.2 (b8s_one _) (by unfold maxLen; omega) (by omega) (fun v7 w7 hw7 => ?_); have HW7 := Aside.mk hw7; clear hw7))
              have h7 := HW7.out
              rw [← b8s_append, ← H2.out.2.2.1, ← HN2.out] at h7
              have H7 := Aside.mk h7
              clear h7 HW7 HT HPC hTB HN2
              have HI : Aside (rrInv E q y A name en rr (i + 1) W gv (0 + 1) (.slice V n cV) v7 w7) := ⟨by
                have h := H7.out
                refine ⟨some ⟨W, gv, 0 + 1, T2⟩, ss, T2, (HP.row 5 1 (.slice Ap 106 cp) 106 (b8s p) * R), ⟨by rw [← HN.out]; omega, by rw [H2.out.1]; exact hn2b⟩, by rw [← HX.out]; rw [show en - (i + 1) = c by omega], H2.out.2.1, .inr ⟨rfl, hlt3, by rw [H2.out.1]; exact H2.out.2.2.2⟩, ?_, fun w' q' h s hs => HR.out w' (HP.row 5 1 (.slice Ap 106 cp) 106 (b8s p) * q') (h.perm (by ac_rfl)) s hs⟩
                rw [H2.out.1, ← HN.out]
                exact h.perm (by ac_rfl)⟩
              clear H7 H2 HX HRD HPP HTB HR HN
              try go_wp2
              refine ⟨⟨i + 1, W, gv, 0 + 1, rfl, rfl, (by first | rfl | (push_cast; rfl)), (by first | rfl | (push_cast; rfl)), by omega, by omega, by omega, HI⟩, ?_⟩
              simp only [intOf]
              omega
            · have hp107 : ¬ (np : Int) = 106 := by omega
              go_wp2_with (at_builtin; (refine wpList_append_row slB8 rfl rfl (by rfl) (by rfl) HT.out.1 HPC.out.1 HPC.out.2 (b8s_one _) (by unfold maxLen; omega) (by omega) (fun v7 w7 hw7 => ?_); have HW7 := Aside.mk hw7; clear hw7))
              have h7 := HW7.out
              rw [← b8s_append, ← H2.out.2.2.1, ← HN2.out] at h7
              have H7 := Aside.mk h7
              clear h7 HW7 HT HPC hTB HN2
              have HX : Aside (rr = none) := ⟨by rw [← HRD.out]; unfold takeS; rw [if_pos (by unfold RecBad; dsimp only; rw [HPP.out.2.2]; omega)]⟩
              have H4 : Aside (Sat E _ (HP.rdisk y A * q)) := ⟨H7.out.right.right.right.right⟩
              try go_wp2
              go_ret2
              rw [HX.out]
              exact ⟨rfl, H4.out⟩
          · have hlt4 : ¬ (1 : Int) < (W : Int) := by omega
            have HWH : Aside (W = 0 + 1) := ⟨by omega⟩
            obtain rfl : W = 0 + 1 := HWH.out
        
            go_wp2_with (at_builtin; (refine wpList_append_row slB8 rfl rfl (by rfl) (by rfl) HT.out.1 HPC.out.1 HPC.out.2 (b8s_one _) (by unfold maxLen; omega) (by omega) (fun v7 w7 hw7 => ?_); have HW7 := Aside.mk hw7; clear hw7))
            have h7 := HW7.out
            rw [← b8s_append, ← H2.out.2.2.1, ← HN2.out] at h7
            have H7 := Aside.mk h7
            clear h7 HW7 HT HPC hTB HN2
            obtain ⟨A2, c2, rfl, hc2, hcm2⟩ := H7.out.row_slice
            have hcl := H7.out.row_cells
            obtain ⟨a0, rfl, -⟩ := hcl.at_ 0 (by rw [b8s_length, H2.out.1]; omega)
            obtain ⟨g2, o2, rfl⟩ := slice_addr hcl rfl (k := 0) (by rw [b8s_length, H2.out.1]; omega)
            clear hcl
            have hz : wrap64 (getN (T2.take 4) : Int) = ((getN (T2.take 4) : Nat) : Int) := by
              have h1 := getN_lt (T2.take 4) (fun x hx => H2.out.2.1 x (List.mem_of_mem_take hx))
              rw [show (T2.take 4).length = 4 by rw [List.length_take, H2.out.1]; omega] at h1
              unfold wrap64
              omega
            go_wp2_with fail
            refine (refint4_ok E _ g2 o2 T2 n2 c2 _ H2.out.1 hT24 hc2 H2.out.2.1 (fun w h => h.row_cells) H7.out).mono ?_
            rintro e w8 ⟨⟨o3, rfl, ho3⟩, h8⟩
            rw [hz]
            clear H7
            have hrest : Cells w8 (some ⟨g2, o3, none⟩) (b8s (T2.drop 4)) := by
              by_cases h44 : 4 < n2
              · have h := h8.row_cells.drop 4
                rw [addr_add, ← ho3 h44] at h
                unfold b8s at h ⊢
                rw [List.map_drop]; exact h
              · rw [List.drop_of_length_le (by rw [H2.out.1]; omega)]
                exact Cells.nil _ _
            obtain ⟨sz, hsz⟩ : ∃ sz, sz = getN (T2.take 4) := ⟨_, rfl⟩
            rw [← hsz]
            obtain ⟨m2, hm2⟩ : ∃ m2, m2 = n2 - 4 := ⟨_, rfl⟩
            obtain ⟨d2, hd2⟩ : ∃ d2, d2 = c2 - 4 := ⟨_, rfl⟩
            rw [← hm2, ← hd2]
            have H8 := Aside.mk (And.intro h8 (And.intro hrest (show (b8s (T2.drop 4)).length = m2 * 1 by rw [b8s_length, List.length_drop, H2.out.1]; omega)))
            have HZ := Aside.mk hsz
            have HM2 := Aside.mk (And.intro hm2 hd2)
            have hmd : m2 ≤ d2 := by omega
            have hm2n : m2 ≤ n2 := by omega
            clear h8 hrest hsz hz hm2 hd2
            by_cases hms : m2 = sz
            · subst hms
              have HX : Aside (refG A name c (i + 1) none (ss.map (·.l) ++ [T2.drop 4]) = rr) := ⟨by
                rw [← HRD.out]
                unfold takeS
                rw [if_neg (by have := HWH.out; unfold RecBad; dsimp only; omega), if_pos (by have := HWH.out; first | rfl | (dsimp only; omega) | omega)]
                dsimp only
                rw [← H2.out.2.2.1, if_pos (by rw [H2.out.1, ← HZ.out]; have := HM2.out.1; omega)]⟩
              go_wp2_with (at_builtin; first
                | (refine wpList_append_row slB8 rfl rfl (by rfl) (by rfl) (((H8.out.1.alloc _).right).row_nil _ _ _) (H8.out.2.1.alloc _) H8.out.2.2 (b8s_one _) (by unfold maxLen; omega) (by omega) (fun v9 w9 hw9 => ?_); rw [Nat.zero_add, List.nil_append] at hw9; obtain ⟨A9, c9, rfl, hc9, -⟩ := hw9.row_slice; have H9 : Aside (Sat E w9 (HP.row 28 1 (.slice V n cV) n (ss.map Sl.val8) * ((HP.row 5 1 (.slice A9 m2 c9) m2 (b8s (T2.drop 4)) * (HP.row 5 1 (.slice (some ⟨g2, o2, none⟩) n2 c2) n2 (b8s T2) * (HP.row 5 1 (.slice Ap np cp) np (b8s p) * R))) * (HP.rdisk y A * q)))) := ⟨hw9.perm (by ac_rfl)⟩; clear hw9)
                | (refine wpList_append_new slBB5 rfl rfl (by rfl) (by rfl) H9.out rfl rfl (by unfold maxLen; omega) (by omega) (fun v10 w10 hw10 => ?_); have HW10 := Aside.mk hw10; clear hw10))
              have HI : Aside (rrInv E q y A name en rr (i + 1) 0 gv (0 + 1) v10 (.slice (some ⟨g2, o2, none⟩) n2 c2) w10) := ⟨by
                have h := HW10.out
                refine ⟨none, ss ++ [⟨A9, c9, T2.drop 4⟩], T2, (HP.row 5 1 (.slice A9 m2 c9) m2 (b8s (T2.drop 4)) * (HP.row 5 1 (.slice Ap np cp) np (b8s p) * R)), ⟨by rw [List.length_append, ← HN.out]; simp only [List.length_cons, List.length_nil]; omega, by rw [H2.out.1]; exact hn2b⟩, by rw [← HX.out, List.map_append]; rw [show en - (i + 1) = c by omega]; rfl, H2.out.2.1, .inl ⟨rfl, rfl⟩, ?_, fun w' q' h s hs => ?_⟩
                · rw [H2.out.1, List.length_append, List.map_append, ← HN.out]
                  have e : ([(⟨A9, c9, T2.drop 4⟩ : Sl Int)].map Sl.val8) = [Value.slice A9 m2 c9] := by
                    show [Value.slice A9 (T2.drop 4).length c9] = _
                    rw [List.length_drop, H2.out.1, ← HM2.out.1]
                  rw [e]
                  exact h.perm (by ac_rfl)
                · have hx : Sat E w' (HP.row 5 1 (.slice A9 m2 c9) m2 (b8s (T2.drop 4)) * (R * (HP.row 5 1 (.slice Ap np cp) np (b8s p) * q'))) := h.perm (by ac_rfl)
                  rcases List.mem_append.1 hs with hs | hs
                  · exact HR.out w' _ hx.right s hs
                  · obtain rfl := List.mem_singleton.1 hs
                    exact hx.row_cells⟩
              clear HW10 H9 H8 H2 HX HRD HPP HTB HR HN HZ
              go_wp2
              refine ⟨⟨i + 1, 0, gv, 0 + 1, rfl, rfl, (by first | rfl | (push_cast; rfl)), (by first | rfl | (push_cast; rfl)), by omega, by omega, by omega, HI⟩, ?_⟩
              simp only [intOf]
              omega
            · have hmsi : ¬ (m2 : Int) = (sz : Int) := by omega
              
              have HX : Aside (rr = none) := ⟨by rw [← HRD.out]; unfold takeS; rw [if_neg (by have := HWH.out; unfold RecBad; dsimp only; omega), if_pos (by have := HWH.out; first | rfl | (dsimp only; omega) | omega)]; dsimp only; rw [← H2.out.2.2.1, if_neg (by rw [H2.out.1, ← HZ.out]; have := HM2.out.1; omega)]⟩
              have H4 : Aside (Sat E _ (HP.rdisk y A * q)) := ⟨H8.out.1.right.right.right.right⟩
              try go_wp2
              go_ret2
              rw [HX.out]
              exact ⟨rfl, H4.out⟩
        · exact absurd rfl hg
      · rw [hs] at HRD0
        have hWbeq : ((want : Int) == 0) = false := by rw [beq_eq_false_iff_ne]; omega
        have hWne : ¬ (want : Int) = 0 := by omega
        have HRD : Aside ((match takeS ⟨want, gen, had, tx⟩ (gv, p) with
          | none => none
          | some (.inl s) => refG A name c (i + 1) (some s) (ss.map (·.l))
          | some (.inr t) => refG A name c (i + 1) none (ss.map (·.l) ++ [t])) = rr) := ⟨by
          have h := HRD0.out
          unfold stepS at h
          rw [if_neg (by dsimp only; omega)] at h
          exact h⟩
        have HT : Aside (Sat E w4 (HP.row 5 1 u9 tx.length (b8s tx) * (HP.row 5 1 (.slice Ap np cp) np (b8s p) * (HP.row 28 1 (.slice V n cV) n (ss.map Sl.val8) * (R * (HP.rdisk y A * q))))) ∧ tx.length ≤ 106 * i) := ⟨H4A.out.perm (by ac_rfl), HTX.out.2⟩
        have HPC : Aside (Cells w4 Ap (b8s p) ∧ (b8s p).length = np * 1) := ⟨H4A.out.row_cells, by rw [b8s_length, HPP.out.2.2]; omega⟩
        have HTB : Aside (Bytes tx ∧ 4 ≤ (tx ++ p).length) := ⟨HTX.out.1, by rw [List.length_append]; omega⟩
        clear H4A HRD0 HST HTX ht4
        have hTB := HT.out.2
        have hpl64 : np ≤ 106 := HPP.out.1
        obtain ⟨T2, hT2⟩ : ∃ T2, T2 = tx ++ p := ⟨_, rfl⟩
        obtain ⟨n2, hn2⟩ : ∃ n2, n2 = tx.length + np := ⟨_, rfl⟩
        have hT2l : T2.length = n2 := by rw [hT2, hn2, List.length_append, HPP.out.2.2]
        have hT2b : Bytes T2 := by rw [hT2]; exact HTB.out.1.append HPP.out.2.1
        have hT24 : 4 ≤ n2 := by rw [← hT2l, hT2]; exact HTB.out.2
        have H2 := Aside.mk (And.intro hT2l (And.intro hT2b (And.intro hT2 hT24)))
        have HN2 := Aside.mk hn2
        have hn2b : n2 ≤ 106 * (i + 1) := by omega
        clear hT2 hn2 hT2l hT2b
        by_cases hg : gv = gen
        · subst hg
          by_cases hlt3 : had + 1 < want
          · have hlt4 : ((had : Int) + 1) < (want : Int) := by omega
            by_cases hp106 : np = 106
            · have HX : Aside (refG A name c (i + 1) (some ⟨want, gv, had + 1, T2⟩) (ss.map (·.l)) = rr) := ⟨by
                rw [← HRD.out]
                unfold takeS
                rw [if_neg (by unfold RecBad; dsimp only; rw [HPP.out.2.2]; omega), if_neg (by dsimp only; omega)]
                dsimp only [RecS.more]
                rw [H2.out.2.2.1]⟩
              have hne : ¬ ((had : Int) + 1) = (want : Int) := by omega
              have hneb : (((had : Int) + 1) == (want : Int)) = false := by rw [beq_eq_false_iff_ne]; exact hne
              subst hp106
              go_wp2_with (at_builtin; (refine wpList_append_row slB8 rfl rfl (by rfl) (by rfl) HT.out.1 HPC.out.1 HPC.out.2 (b8s_one _) (by unfold maxLen; omega) (by omega) (fun v7 w7 hw7 => ?_); have HW7 := Aside.mk hw7; clear hw7))
              have h7 := HW7.out
              rw [← b8s_append, ← H2.out.2.2.1, ← HN2.out] at h7
              have H7 := Aside.mk h7
              clear h7 HW7 HT HPC hTB HN2
              have HI : Aside (rrInv E q y A name en rr (i + 1) want gv (had + 1) (.slice V n cV) v7 w7) := ⟨by
                have h := H7.out
                refine ⟨some ⟨want, gv, had + 1, T2⟩, ss, T2, (HP.row 5 1 (.slice Ap 106 cp) 106 (b8s p) * R), ⟨by rw [← HN.out]; omega, by rw [H2.out.1]; exact hn2b⟩, by rw [← HX.out]; rw [show en - (i + 1) = c by omega], H2.out.2.1, .inr ⟨rfl, hlt3, by rw [H2.out.1]; exact H2.out.2.2.2⟩, ?_, fun w' q' h s hs => HR.out w' (HP.row 5 1 (.slice Ap 106 cp) 106 (b8s p) * q') (h.perm (by ac_rfl)) s hs⟩
                rw [H2.out.1, ← HN.out]
                exact h.perm (by ac_rfl)⟩
              clear H7 H2 HX HRD HPP HTB HR HN
              try go_wp2
              refine ⟨⟨i + 1, want, gv, had + 1, rfl, rfl, (by first | rfl | (push_cast; rfl)), (by first | rfl | (push_cast; rfl)), by omega, by omega, by omega, HI⟩, ?_⟩
              simp only [intOf]
              omega
            · have hp107 : ¬ (np : Int) = 106 := by omega
              go_wp2_with (at_builtin; (refine wpList_append_row slB8 rfl rfl (by rfl) (by rfl) HT.out.1 HPC.out.1 HPC.out.2 (b8s_one _) (by unfold maxLen; omega) (by omega) (fun v7 w7 hw7 => ?_); have HW7 := Aside.mk hw7; clear hw7))
              have h7 := HW7.out
              rw [← b8s_append, ← H2.out.2.2.1, ← HN2.out] at h7
              have H7 := Aside.mk h7
              clear h7 HW7 HT HPC hTB HN2
              have HX : Aside (rr = none) := ⟨by rw [← HRD.out]; unfold takeS; rw [if_pos (by unfold RecBad; dsimp only; rw [HPP.out.2.2]; omega)]⟩
              have H4 : Aside (Sat E _ (HP.rdisk y A * q)) := ⟨H7.out.right.right.right.right⟩
              try go_wp2
              go_ret2
              rw [HX.out]
              exact ⟨rfl, H4.out⟩
          · have hlt4 : ¬ ((had : Int) + 1) < (want : Int) := by omega
            have HWH : Aside (want = had + 1) := ⟨by omega⟩
        
            have heqb : (((had : Int) + 1) == (want : Int)) = true := by rw [beq_iff_eq]; omega
            go_wp2_with (at_builtin; (refine wpList_append_row slB8 rfl rfl (by rfl) (by rfl) HT.out.1 HPC.out.1 HPC.out.2 (b8s_one _) (by unfold maxLen; omega) (by omega) (fun v7 w7 hw7 => ?_); have HW7 := Aside.mk hw7; clear hw7))
            have h7 := HW7.out
            rw [← b8s_append, ← H2.out.2.2.1, ← HN2.out] at h7
            have H7 := Aside.mk h7
            clear h7 HW7 HT HPC hTB HN2
            obtain ⟨A2, c2, rfl, hc2, hcm2⟩ := H7.out.row_slice
            have hcl := H7.out.row_cells
            obtain ⟨a0, rfl, -⟩ := hcl.at_ 0 (by rw [b8s_length, H2.out.1]; omega)
            obtain ⟨g2, o2, rfl⟩ := slice_addr hcl rfl (k := 0) (by rw [b8s_length, H2.out.1]; omega)
            clear hcl
            have hz : wrap64 (getN (T2.take 4) : Int) = ((getN (T2.take 4) : Nat) : Int) := by
              have h1 := getN_lt (T2.take 4) (fun x hx => H2.out.2.1 x (List.mem_of_mem_take hx))
              rw [show (T2.take 4).length = 4 by rw [List.length_take, H2.out.1]; omega] at h1
              unfold wrap64
              omega
            go_wp2_with fail
            refine (refint4_ok E _ g2 o2 T2 n2 c2 _ H2.out.1 hT24 hc2 H2.out.2.1 (fun w h => h.row_cells) H7.out).mono ?_
            rintro e w8 ⟨⟨o3, rfl, ho3⟩, h8⟩
            rw [hz]
            clear H7
            have hrest : Cells w8 (some ⟨g2, o3, none⟩) (b8s (T2.drop 4)) := by
              by_cases h44 : 4 < n2
              · have h := h8.row_cells.drop 4
                rw [addr_add, ← ho3 h44] at h
                unfold b8s at h ⊢
                rw [List.map_drop]; exact h
              · rw [List.drop_of_length_le (by rw [H2.out.1]; omega)]
                exact Cells.nil _ _
            obtain ⟨sz, hsz⟩ : ∃ sz, sz = getN (T2.take 4) := ⟨_, rfl⟩
            rw [← hsz]
            obtain ⟨m2, hm2⟩ : ∃ m2, m2 = n2 - 4 := ⟨_, rfl⟩
            obtain ⟨d2, hd2⟩ : ∃ d2, d2 = c2 - 4 := ⟨_, rfl⟩
            rw [← hm2, ← hd2]
            have H8 := Aside.mk (And.intro h8 (And.intro hrest (show (b8s (T2.drop 4)).length = m2 * 1 by rw [b8s_length, List.length_drop, H2.out.1]; omega)))
            have HZ := Aside.mk hsz
            have HM2 := Aside.mk (And.intro hm2 hd2)
            have hmd : m2 ≤ d2 := by omega
            have hm2n : m2 ≤ n2 := by omega
            clear h8 hrest hsz hz hm2 hd2
            by_cases hms : m2 = sz
            · subst hms
              have HX : Aside (refG A name c (i + 1) none (ss.map (·.l) ++ [T2.drop 4]) = rr) := ⟨by
                rw [← HRD.out]
                unfold takeS
                rw [if_neg (by have := HWH.out; unfold RecBad; dsimp only; omega), if_pos (by have := HWH.out; first | rfl | (dsimp only; omega) | omega)]
                dsimp only
                rw [← H2.out.2.2.1, if_pos (by rw [H2.out.1, ← HZ.out]; have := HM2.out.1; omega)]⟩
              go_wp2_with (at_builtin; first
                | (refine wpList_append_row slB8 rfl rfl (by rfl) (by rfl) (((H8.out.1.alloc _).right).row_nil _ _ _) (H8.out.2.1.alloc _) H8.out.2.2 (b8s_one _) (by unfold maxLen; omega) (by omega) (fun v9 w9 hw9 => ?_); rw [Nat.zero_add, List.nil_append] at hw9; obtain ⟨A9, c9, rfl, hc9, -⟩ := hw9.row_slice; have H9 : Aside (Sat E w9 (HP.row 28 1 (.slice V n cV) n (ss.map Sl.val8) * ((HP.row 5 1 (.slice A9 m2 c9) m2 (b8s (T2.drop 4)) * (HP.row 5 1 (.slice (some ⟨g2, o2, none⟩) n2 c2) n2 (b8s T2) * (HP.row 5 1 (.slice Ap np cp) np (b8s p) * R))) * (HP.rdisk y A * q)))) := ⟨hw9.perm (by ac_rfl)⟩; clear hw9)
                | (refine wpList_append_new slBB5 rfl rfl (by rfl) (by rfl) H9.out rfl rfl (by unfold maxLen; omega) (by omega) (fun v10 w10 hw10 => ?_); have HW10 := Aside.mk hw10; clear hw10))
              have HI : Aside (rrInv E q y A name en rr (i + 1) 0 gv (had + 1) v10 (.slice (some ⟨g2, o2, none⟩) n2 c2) w10) := ⟨by
                have h := HW10.out
                refine ⟨none, ss ++ [⟨A9, c9, T2.drop 4⟩], T2, (HP.row 5 1 (.slice A9 m2 c9) m2 (b8s (T2.drop 4)) * (HP.row 5 1 (.slice Ap np cp) np (b8s p) * R)), ⟨by rw [List.length_append, ← HN.out]; simp only [List.length_cons, List.length_nil]; omega, by rw [H2.out.1]; exact hn2b⟩, by rw [← HX.out, List.map_append]; rw [show en - (i + 1) = c by omega]; rfl, H2.out.2.1, .inl ⟨rfl, rfl⟩, ?_, fun w' q' h s hs => ?_⟩
                · rw [H2.out.1, List.length_append, List.map_append, ← HN.out]
                  have e : ([(⟨A9, c9, T2.drop 4⟩ : Sl Int)].map Sl.val8) = [Value.slice A9 m2 c9] := by
                    show [Value.slice A9 (T2.drop 4).length c9] = _
                    rw [List.length_drop, H2.out.1, ← HM2.out.1]
                  rw [e]
                  exact h.perm (by ac_rfl)
                · have hx : Sat E w' (HP.row 5 1 (.slice A9 m2 c9) m2 (b8s (T2.drop 4)) * (R * (HP.row 5 1 (.slice Ap np cp) np (b8s p) * q'))) := h.perm (by ac_rfl)
                  rcases List.mem_append.1 hs with hs | hs
                  · exact HR.out w' _ hx.right s hs
                  · obtain rfl := List.mem_singleton.1 hs
                    exact hx.row_cells⟩
              clear HW10 H9 H8 H2 HX HRD HPP HTB HR HN HZ
              go_wp2
              refine ⟨⟨i + 1, 0, gv, had + 1, rfl, rfl, (by first | rfl | (push_cast; rfl)), (by first | rfl | (push_cast; rfl)), by omega, by omega, by omega, HI⟩, ?_⟩
              simp only [intOf]
              omega
            · have hmsi : ¬ (m2 : Int) = (sz : Int) := by omega
              
              have HX : Aside (rr = none) := ⟨by rw [← HRD.out]; unfold takeS; rw [if_neg (by have := HWH.out; unfold RecBad; dsimp only; omega), if_pos (by have := HWH.out; first | rfl | (dsimp only; omega) | omega)]; dsimp only; rw [← H2.out.2.2.1, if_neg (by rw [H2.out.1, ← HZ.out]; have := HM2.out.1; omega)]⟩
              have H4 : Aside (Sat E _ (HP.rdisk y A * q)) := ⟨H8.out.1.right.right.right.right⟩
              try go_wp2
              go_ret2
              rw [HX.out]
              exact ⟨rfl, H4.out⟩
        · have hgb : (gv == gen) = false := by rw [beq_eq_false_iff_ne]; exact hg
          go_wp2_with (at_builtin; (refine wpList_append_row slB8 rfl rfl (by rfl) (by rfl) HT.out.1 HPC.out.1 HPC.out.2 (b8s_one _) (by unfold maxLen; omega) (by omega) (fun v7 w7 hw7 => ?_); have HW7 := Aside.mk hw7; clear hw7))
          have h7 := HW7.out
          rw [← b8s_append, ← H2.out.2.2.1, ← HN2.out] at h7
          have H7 := Aside.mk h7
          clear h7 HW7 HT HPC hTB HN2
          have HX : Aside (rr = none) := ⟨by rw [← HRD.out]; unfold takeS; rw [if_pos (by unfold RecBad; dsimp only; exact .inl hg)]⟩
          have H4 : Aside (Sat E _ (HP.rdisk y A * q)) := ⟨H7.out.right.right.right.right⟩
          try go_wp2
          go_ret2
          rw [HX.out]
          exact ⟨rfl, H4.out⟩
    · obtain rfl : i = en := by omega
      have hlt2 : ¬ (i : Int) < (i : Int) := by omega
      rw [Nat.sub_self] at hrd
      rcases hst with ⟨rfl, rfl⟩ | ⟨rfl, h1, -⟩
      · have HX : Aside (rr = some (ss.map (·.l))) := ⟨hrd.symm⟩
        have H4 : Aside (Sat E wr ((HP.row 28 1 (.slice V ss.length cV) ss.length (ss.map Sl.val8) * R) * (HP.rdisk y A * q))) := ⟨(hS.perm (by ac_rfl : _ = HP.row 5 1 u9 tx.length (b8s tx) * ((HP.row 28 1 (.slice V ss.length cV) ss.length (ss.map Sl.val8) * R) * (HP.rdisk y A * q)))).right⟩
        have HR := Aside.mk (And.intro hR hcV)
        obtain ⟨n, hn⟩ : ∃ n, n = ss.length := ⟨_, rfl⟩
        have HN := Aside.mk hn
        rw [← hn]
        clear hS hrd hsl htl htb hR HI0 hcV hmV hn
        go_wp2
        go_ret2
        rw [HX.out, HN.out]
        refine ⟨V, cV, _, ss, rfl, rfl, HR.out.2, H4.out, fun w'' q' h => ?_⟩
        have h7 : Sat E w'' (HP.row 28 1 (.slice V ss.length cV) ss.length (ss.map Sl.val8) * (R * q')) := h.perm (by ac_rfl)
        exact ⟨h7.row_cells, fun s hs => HR.out.1 _ _ h7.right s hs⟩
      · have HX : Aside (rr = none) := ⟨hrd.symm⟩
        have H4 : Aside (Sat E wr (HP.rdisk y A * q)) := ⟨hS.right.right.right⟩
        have hw1 : (0 : Int) < (want : Int) := by omega
        clear hS hrd hsl htl htb hR HI0 hcV hmV
        go_wp2
        go_ret2
        rw [HX.out]
        exact ⟨rfl, H4.out⟩
end Go.Proofs.YtcjcccbjgooooaaGreatDoor

/- wal.Read. -/
namespace Go.Proofs.YtcjcccbjgooooaaGreatDoor
open Go.RowKit HP
set_option linter.unusedSimpArgs false
set_option linter.unusedVariables false

theorem moreW_ge {A : Dk} {name : ByteArray} {g : Int} {en : Nat} : ∀ (c a : Nat) (last text t : List Int) (a' : Nat), moreW A name g en c a last text = some (t, a') → a ≤ a'
  | 0, a, last, text, t, a', h => by
    simp only [moreW, Option.some.injEq, Prod.mk.injEq] at h
    omega
  | c + 1, a, last, text, t, a', h => by
    unfold moreW at h
    split at h
    · have := moreW_ge c (a + 1) _ _ t a' h
      omega
    · cases h
theorem recW_gt {A : Dk} {name : ByteArray} {en a : Nat} {t : List Int} {a' : Nat} (h : recW A name en a = some (t, a')) : a < a' := by
  unfold recW at h
  split at h
  · split at h
    · cases h
    · rename_i heq
      split at h
      · simp only [Option.some.injEq, Prod.mk.injEq] at h
        have := moreW_ge _ _ _ _ _ _ heq
        omega
      · cases h
  · cases h
def readEndW (E : Env) (q : HP) (d : Nat) (A : Dk) (r : Option (List (List Int))) (e : Ending) (w' : World) : Prop :=
  match r with
  | none => e = .returned (.tuple #[.slice none 0 0, .int .i64 50]) ∧ Sat E w' (HP.disk d A * q)
  | some l => ∃ V c R, ∃ ss : List (Sl Int), ss.map (·.l) = l ∧ e = .returned (.tuple #[.slice V ss.length c, .int .i64 0]) ∧ ss.length ≤ c ∧ Sat E w' (R * (HP.disk d A * q)) ∧ ∀ w'' q', Sat E w'' (R * q') → Cells w'' V (ss.map Sl.val8) ∧ ∀ s ∈ ss, Cells w'' s.A (b8s s.l)
theorem slBB : SlTy Tryz.prog 39 28 (.slice none 0 0) 1 24 := ⟨Tryz.underlying39, by kernel_rfl, rfl, by decide⟩
def sliceLenW : Value → Nat
  | .slice _ n _ => n
  | _ => 0
def readInv (E : Env) (q : HP) (d br : Nat) (A : Dk) (name : ByteArray) (en : Nat) (v : Value) (wr : World) : Prop :=
  ∃ (a c : Nat) (g : Int) (pay : Value) (R : HP) (ss : List (Sl Int)), sliceLenW v = ss.length ∧ ss.length ≤ a ∧ en ≤ a + c ∧ readG A name en c a (ss.map (·.l)) = readG A name en en 0 [] ∧
    Sat E wr (HP.row 28 1 v ss.length (ss.map Sl.val8) * (R * (HP.pt br (.cells #[.pointer (some ⟨d, 0, none⟩), .string name, .int .i64 (a : Int), .int .i64 (en : Int), .int .i64 g, pay] 93) * (HP.disk d A * q)))) ∧ ∀ w' q', Sat E w' (R * q') → ∀ s ∈ ss, Cells w' s.A (b8s s.l)
theorem val8_one (ss : List (Sl Int)) : (ss.map Sl.val8).all Value.oneCell' = true := by
  rw [List.all_eq_true]
  intro v hv
  obtain ⟨s, -, rfl⟩ := List.mem_map.1 hv
  rfl
set_option maxHeartbeats 4000000 in
set_option maxRecDepth 100000 in
theorem wal_read (E : Env) (q : HP) (d : Nat) (A : Dk) (seg : Int) (en : Nat) (w : World) (hs0 : 0 ≤ seg) (hs1 : seg ≤ 4611686018427387904) (he : en ≤ 2147483647) (hby : ∀ f ∈ halvesL (nameW seg), ∀ i c, A.cel f i = some c → Bytes c.read)
    (hq : ∀ w, Sat E w q → Quarter w ∧ Lib.TabIs Tryz.prog w "internal/strconv.uint64pow10" .u64 Lib.pow10Tab) (hw : Sat E w (HP.disk d A * q)) :
    Calls Tryz.prog 12 #[.pointer (some ⟨d, 0, none⟩), .int .i64 seg, .int .i64 en] w (readEndW E q d A (readG A (nameW seg) en en 0 [])) := by
  have hs64 : wf64 seg := by unfold wf64; omega
  have hsz : (nameW seg).size + 2 ≤ maxLen := by have := nameW_size hs64; unfold maxLen; omega
  have HQ := Aside.mk (And.intro hq (And.intro hw (And.intro hsz hs64)))
  have g0 : ¬ seg < 0 := by omega
  have g1 : ¬ 4611686018427387904 < seg := by omega
  have g2 : ¬ (en : Int) < 0 := by omega
  have g3 : ¬ 2147483647 < (en : Int) := by omega
  clear hq hw hsz hs64
  go_enter Tryz.func12, Tryz.ntmps12
  go_wp2_with fail
  refine (disk_asked E q d A _ HQ.out.2.1).mono ?_
  rintro e w1 ⟨rfl, h1⟩
  have H1 := Aside.mk h1
  clear h1
  go_wp2_with fail
  refine (wal_name E _ seg _ HQ.out.2.2.2 (fun w' h => (HQ.out.1 _ h.right).2) H1.out).mono ?_
  rintro e w2 ⟨rfl, h2⟩
  obtain ⟨name, hname⟩ : ∃ name, name = nameW seg := ⟨_, rfl⟩
  rw [← hname] at hby HQ ⊢
  have HBY := Aside.mk hby
  have HNM := Aside.mk hname
  clear hname hby
  obtain ⟨br, hbr⟩ : ∃ br, br = w2.heap.size := ⟨_, rfl⟩
  have h3 := h2.alloc (.cells #[.pointer (some ⟨d, 0, none⟩), .string name, .int .i64 0, .int .i64 (en : Int), .int .i64 0, .slice none 0 0] 93)
  rw [← hbr] at h3
  have H3 : Aside (readInv E q d br A name en (.slice none 0 0) (w2.alloc (.cells #[.pointer (some ⟨d, 0, none⟩), .string name, .int .i64 0, .int .i64 (en : Int), .int .i64 0, .slice none 0 0] 93))) :=
    ⟨0, en, 0, .slice none 0 0, HP.emp, [], rfl, Nat.le_refl _, by omega, rfl, (h3.emp_intro).row_nil _ _ _, fun _ _ _ s hs => by cases hs⟩
  clear h2 h3 H1
  go_wp2
  rw [← hbr]
  clear hbr
  go_loopw [9] (fun v9 wr => Aside (readInv E q d br A name en v9 wr)) (fun v _ => en - sliceLenW v)
  case atStart => exact H3
  case round =>
    clear H3
    obtain ⟨a, c, g, pay, R, ss, hsl, hsa, hac, hrd, hS, hR⟩ := hrel.out
    have k2 := hS.right.right.cell 2
    simp only [List.getElem?_toArray, List.getElem?_cons_zero, List.getElem?_cons_succ] at k2
    obtain ⟨V, cV, rfl, hcV, hmV⟩ := hS.row_slice
    by_cases hlt : a < en
    · have hlt2 : (a : Int) < en := by omega
      obtain ⟨c2, rfl⟩ : ∃ c2, c = c2 + 1 := ⟨c - 1, by omega⟩
      have HRD : Aside (readG A name en en 0 [] = match recW A name en a with | none => none | some (t, a') => readG A name en c2 a' (ss.map (·.l) ++ [t])) := ⟨by
        rw [← hrd]
        conv => lhs; unfold readG
        rw [if_pos hlt]
        try rfl⟩
      have HREC := Aside.mk (record_ok E (HP.row 28 1 (.slice V ss.length cV) ss.length (ss.map Sl.val8) * (R * q)) d br A name a en g pay wr HQ.out.2.2.1 he HBY.out (fun w h => (HQ.out.1 w h.right.right).1) (hS.perm (by ac_rfl)))
      obtain ⟨n, hn⟩ : ∃ n, n = ss.length := ⟨_, rfl⟩
      rw [← hn] at HREC hsa ⊢
      have hn31 : n ≤ 2147483647 := by omega
      have HN := Aside.mk (And.intro hn hR)
      clear hS hrd hsl hn hR hrel hcV hmV
      go_wp2_with fail
      refine HREC.out.mono ?_
      intro e w4 h4
      clear HREC
      cases hrec : recW A name en a with
      | none =>
        rw [hrec] at h4 HRD
        obtain ⟨rfl, h4⟩ := h4
        have H4 := Aside.mk ((h4.perm (by ac_rfl : _ = HP.row 28 1 (.slice V n cV) n (ss.map Sl.val8) * (R * (HP.disk d A * q)))).right.right)
        clear h4
        go_wp2
        go_ret2
        rw [← HNM.out, HRD.out]
        exact ⟨rfl, H4.out⟩
      | some ta =>
        obtain ⟨t, a'⟩ := ta
        have hgt := recW_gt hrec
        rw [hrec] at h4 HRD
        dsimp only at HRD
        obtain ⟨v, g', pay', rfl, h4⟩ := h4
        obtain ⟨At, ct, rfl, hct, -⟩ := h4.row_slice
        obtain ⟨tl, htl⟩ : ∃ tl, tl = t.length := ⟨_, rfl⟩
        have h5 : Sat E w4 (HP.row 28 1 (.slice V n cV) n (ss.map Sl.val8) * ((HP.row 5 1 (.slice At t.length ct) t.length (b8s t) * R) * (HP.pt br (.cells #[.pointer (some ⟨d, 0, none⟩), .string name, .int .i64 (a' : Int), .int .i64 (en : Int), .int .i64 g', pay'] 93) * (HP.disk d A * q)))) := h4.perm (by ac_rfl)
        rw [← htl] at h5 ⊢
        have H5 := Aside.mk (And.intro (h5.alloc (.cells [Value.slice At tl ct].toArray 28)).right (And.intro (Cells.fresh w4 [Value.slice At tl ct] 28 (0, 0)) (show [Value.slice At tl ct].length = 1 * 1 from rfl)))
        have HT := Aside.mk (And.intro htl hgt)
        clear h4 h5 htl hgt hrec
        go_wp2_with (at_builtin; refine wpList_append_row slBB rfl rfl (by rfl) (by rfl) H5.out.1 H5.out.2.1 H5.out.2.2 rfl (by unfold maxLen; omega) (by omega) (fun v5 w5 hw5 => ?_); have HW5 := Aside.mk hw5; clear hw5)
        have HI : Aside (readInv E q d br A name en v5 w5) := ⟨by
          have hv := HW5.out
          obtain ⟨A5, c5, rfl, -, -⟩ := hv.row_slice
          refine ⟨a', c2, g', pay', (HP.row 5 1 (.slice At tl ct) tl (b8s t) * R), ss ++ [⟨At, ct, t⟩], by rw [List.length_append, ← HN.out.1]; rfl, by rw [List.length_append, ← HN.out.1]; have := HT.out.2; simp only [List.length_cons, List.length_nil]; omega, by have := HT.out.2; omega, ?_, ?_, ?_⟩
          · rw [List.map_append]
            exact HRD.out.symm
          · rw [List.length_append, List.map_append, ← HN.out.1]
            have e : ([(⟨At, ct, t⟩ : Sl Int)].map Sl.val8) = [Value.slice At tl ct] := by rw [HT.out.1]; rfl
            rw [e]
            exact hv
          · intro w' q' h s hs
            have h7 : Sat E w' (HP.row 5 1 (.slice At tl ct) tl (b8s t) * (R * q')) := h.perm (by ac_rfl)
            rcases List.mem_append.1 hs with hs | hs
            · exact HN.out.2 w' _ h7.right s hs
            · obtain rfl := List.mem_singleton.1 hs
              exact h7.row_cells⟩
        have hme : en - sliceLenW v5 < en - n := by
          obtain ⟨A5, c5, rfl, -, -⟩ := HW5.out.row_slice
          simp only [sliceLenW]
          omega
        clear HW5 H5
        go_wp2
        first
          | exact ⟨HI, hme⟩
          | (go_roundw; exact HI; exact hme)
    · have hlt2 : ¬ (a : Int) < en := by omega
      have HX : Aside (readG A name en en 0 [] = some (ss.map (·.l))) := ⟨by
        rw [← hrd]
        cases c with
        | zero => rfl
        | succ c => unfold readG; rw [if_neg hlt]⟩
      have H4 : Aside (Sat E wr ((HP.row 28 1 (.slice V ss.length cV) ss.length (ss.map Sl.val8) * R) * (HP.disk d A * q))) := ⟨(hS.perm (by ac_rfl : _ = HP.pt br (.cells #[.pointer (some ⟨d, 0, none⟩), .string name, .int .i64 (a : Int), .int .i64 (en : Int), .int .i64 g, pay] 93) * ((HP.row 28 1 (.slice V ss.length cV) ss.length (ss.map Sl.val8) * R) * (HP.disk d A * q)))).right⟩
      have HR := Aside.mk (And.intro hR hcV)
      obtain ⟨n, hn⟩ : ∃ n, n = ss.length := ⟨_, rfl⟩
      have HN := Aside.mk hn
      rw [← hn]
      clear hS hrd hsl hR hrel hsa hac hcV hmV hn
      go_wp2
      go_ret2
      rw [← HNM.out, HX.out, HN.out]
      refine ⟨V, cV, _, ss, rfl, rfl, HR.out.2, H4.out, fun w'' q' h => ?_⟩
      have h7 : Sat E w'' (HP.row 28 1 (.slice V ss.length cV) ss.length (ss.map Sl.val8) * (R * q')) := h.perm (by ac_rfl)
      exact ⟨h7.row_cells, fun s hs => HR.out.1 _ _ h7.right s hs⟩
end Go.Proofs.YtcjcccbjgooooaaGreatDoor
/- Disks whose images are bytes: kept by what pairs do. -/
namespace Go.Proofs.YtcjcccbjgooooaaGreatDoor
open Go.RowKit HP
set_option linter.unusedSimpArgs false
set_option linter.unusedVariables false

theorem Dk.Byt.wrF {f : ByteArray} {gen : Nat} : ∀ (ps : List (List Int)) {A : Dk} (i : Nat), A.Byt → (∀ p ∈ ps, Bytes p) → (wrF A f gen i ps).2.Byt
  | [], A, i, h, _ => h.sync f
  | p :: ps, A, i, h, hp => by
    show (if ¬ FrameOk i gen p.length then ((1 : Int), A) else if (A.write f i (extI f i gen p)).1 = 0 then Go.Proofs.YtcjcccbjgooooaaGreatDoor.wrF (A.write f i (extI f i gen p)).2 f gen (i + 1) ps else A.write f i (extI f i gen p)).2.Byt
    by_cases hf : FrameOk i gen p.length
    · rw [if_neg (by simpa using hf)]
      have hw := h.write f i (extI_bytes (name := f) (index := i) (gen := gen) hf.2.2.2.2 (hp p (List.mem_cons_self ..)))
      split
      · exact Dk.Byt.wrF ps (i + 1) hw fun x hx => hp x (List.mem_cons_of_mem _ hx)
      · exact hw
    · rw [if_pos hf]; exact h
theorem Dk.Byt.wrL {i gen : Nat} {ps : List (List Int)} (hp : ∀ p ∈ ps, Bytes p) : ∀ (fs : List ByteArray) {A : Dk}, A.Byt → (wrL A i gen ps fs).2.Byt
  | [], A, h => h
  | f :: fs, A, h => by
    show (if (Go.Proofs.YtcjcccbjgooooaaGreatDoor.wrF A f gen i ps).1 = 0 then Go.Proofs.YtcjcccbjgooooaaGreatDoor.wrL (Go.Proofs.YtcjcccbjgooooaaGreatDoor.wrF A f gen i ps).2 i gen ps fs else Go.Proofs.YtcjcccbjgooooaaGreatDoor.wrF A f gen i ps).2.Byt
    have hw := Dk.Byt.wrF (f := f) (gen := gen) ps i h hp
    split
    · exact Dk.Byt.wrL hp fs hw
    · exact hw
theorem Dk.Byt.wrP {A : Dk} (h : A.Byt) (x : ByteArray) (i gen : Nat) {ps : List (List Int)} (hp : ∀ p ∈ ps, Bytes p) : (wrP A x i gen ps).2.Byt := Dk.Byt.wrL hp _ h
theorem Dk.Byt.mendL {i g : Nat} {p : List Int} (hl : p.length ≤ 106) (hp : Bytes p) : ∀ (fs : List ByteArray) {A : Dk} (wr : Bool), A.Byt → (mendL i g p wr A fs).2.Byt
  | [], A, wr, h => h
  | f :: fs, A, wr, h => by
    rw [mendL_cons]
    have hw := h.write f (i : Int) (extI_bytes (name := f) (index := i) (gen := g) hl hp)
    split
    · exact Dk.Byt.mendL hl hp fs wr h
    · split
      · split
        · exact Dk.Byt.mendL hl hp fs true (hw.sync f)
        · exact hw.sync f
      · exact hw
theorem Dk.Byt.reads {A : Dk} (h : A.Byt) : ∀ f i c, A.cel f i = some c → Bytes c.read := fun f i c hc => by
  unfold Dk.cel at hc
  split at hc
  · exact (h.at f c (List.mem_of_getElem? hc)).1
  · cases hc
theorem Dk.Byt.mendP {A : Dk} (h : A.Byt) (x : ByteArray) (i : Int) : (mendP A x i).2.Byt := by
  unfold Go.Proofs.YtcjcccbjgooooaaGreatDoor.mendP
  split
  · exact h
  · exact Dk.Byt.mendL (getP_ok A x i).len (getP_byt fun f _ c hc => h.reads f i c hc) _ false h
end Go.Proofs.YtcjcccbjgooooaaGreatDoor
/- The two readers of a segment at whatever arguments, in one form. -/
namespace Go.Proofs.YtcjcccbjgooooaaGreatDoor
open Go.RowKit HP
set_option linter.unusedSimpArgs false
set_option linter.unusedVariables false

def ReadOk (seg ext : Int) : Prop := 0 ≤ seg ∧ seg ≤ 4611686018427387904 ∧ 0 ≤ ext ∧ ext ≤ 2147483647
instance (seg ext : Int) : Decidable (ReadOk seg ext) := by unfold ReadOk; infer_instance
/-- What the reading of a segment answers: the code, the records. -/
def readX (A : Dk) (seg ext : Int) : Int × List (List Int) :=
  if ReadOk seg ext then (match readG A (nameW seg) ext.toNat ext.toNat 0 [] with | none => (50, []) | some l => (0, l)) else (1, [])
def uniT (E : Env) (q : HP) (r : Int × List (List Int)) (e : Ending) (w' : World) : Prop :=
  ∃ V c R, ∃ ss : List (Sl Int), ss.map (·.l) = r.2 ∧ e = .returned (.tuple #[.slice V ss.length c, .int .i64 r.1]) ∧ ss.length ≤ c ∧ Sat E w' (R * q) ∧ ∀ w'' q', Sat E w'' (R * q') → Cells w'' V (ss.map Sl.val8) ∧ ∀ s ∈ ss, Cells w'' s.A (b8s s.l)
theorem uniT_nil {E : Env} {q : HP} {k : Int} {w' : World} (h : Sat E w' q) : uniT E q (k, []) (.returned (.tuple #[.slice none 0 0, .int .i64 k])) w' :=
  ⟨none, 0, HP.emp, [], rfl, rfl, Nat.le_refl _, h.emp_intro, fun w'' q' _ => ⟨Cells.nil _ _, fun s hs => by cases hs⟩⟩
theorem moreW_bytes {A : Dk} {name : ByteArray} {g : Int} {en : Nat} (hb : ∀ i, Bytes (getP A name i).2) : ∀ (c a : Nat) (last text t : List Int) (a' : Nat), Bytes text → moreW A name g en c a last text = some (t, a') → Bytes t
  | 0, a, last, text, t, a', ht, h => by
    unfold moreW at h
    cases h
    exact ht
  | c + 1, a, last, text, t, a', ht, h => by
    unfold moreW at h
    split at h
    · exact moreW_bytes hb c (a + 1) _ _ t a' (ht.append (hb _)) h
    · cases h
theorem recW_bytes {A : Dk} {name : ByteArray} {en a : Nat} {t : List Int} {a' : Nat} (hb : ∀ i, Bytes (getP A name i).2) (h : recW A name en a = some (t, a')) : Bytes t := by
  unfold recW at h
  split at h
  · split at h
    · cases h
    · rename_i t2 a2 hm
      have := moreW_bytes hb _ _ _ _ _ _ (hb _) hm
      split at h
      · cases h
        exact fun x hx => this x (List.mem_of_mem_drop hx)
      · cases h
  · cases h
theorem readG_all {A : Dk} {name : ByteArray} {en : Nat} (hb : ∀ i, Bytes (getP A name i).2) : ∀ (c a : Nat) (out l : List (List Int)), (∀ t ∈ out, Bytes t) → out.length ≤ a → out.length ≤ en → readG A name en c a out = some l → (∀ t ∈ l, Bytes t) ∧ l.length ≤ en
  | 0, a, out, l, ho, h1, h2, h => by
    unfold readG at h
    cases h
    exact ⟨ho, h2⟩
  | c + 1, a, out, l, ho, h1, h2, h => by
    unfold readG at h
    split at h
    · split at h
      · cases h
      · rename_i hlt t a2 hr
        have hgt := recW_gt hr
        refine readG_all hb c a2 _ l (fun x hx => ?_) (by rw [List.length_append, List.length_singleton]; omega) (by rw [List.length_append, List.length_singleton]; omega) h
        rcases List.mem_append.1 hx with hx | hx
        · exact ho x hx
        · rw [List.mem_singleton.1 hx]
          exact recW_bytes hb hr
    · cases h
      exact ⟨ho, h2⟩
theorem readX_all {A : Dk} (hb : A.Byt) (seg ext : Int) : (∀ t ∈ (readX A seg ext).2, Bytes t) ∧ (readX A seg ext).2.length ≤ 2147483647 := by
  by_cases h : ReadOk seg ext
  · cases hr : readG A (nameW seg) ext.toNat ext.toNat 0 [] with
    | none =>
      have e : readX A seg ext = (50, []) := by unfold readX; rw [if_pos h, hr]
      rw [e]
      exact ⟨fun t ht => (by cases ht), Nat.zero_le _⟩
    | some l =>
      have e : readX A seg ext = (0, l) := by unfold readX; rw [if_pos h, hr]
      rw [e]
      have := readG_all (fun i => getP_bytesW (fun f hf c hc => hb.reads f _ c hc)) _ _ [] _ (fun t ht => (by cases ht)) (Nat.le_refl _) (Nat.zero_le _) hr
      refine ⟨this.1, ?_⟩
      have h2 := this.2
      unfold ReadOk at h
      dsimp only
      omega
  · have e : readX A seg ext = (1, []) := by unfold readX; rw [if_neg h]
    rw [e]
    exact ⟨fun t ht => (by cases ht), Nat.zero_le _⟩
set_option maxHeartbeats 4000000 in
set_option maxRecDepth 100000 in
theorem wal_read_bad (E : Env) (q : HP) (d : Nat) (A : Dk) (seg ext : Int) (w : World) (hs : wf64 seg) (he : wf64 ext) (h : ¬ ReadOk seg ext) (hw : Sat E w (HP.disk d A * q)) :
    Calls Tryz.prog 12 #[.pointer (some ⟨d, 0, none⟩), .int .i64 seg, .int .i64 ext] w fun e w' => e = .returned (.tuple #[.slice none 0 0, .int .i64 1]) ∧ Sat E w' (HP.disk d A * q) := by
  have H := Aside.mk hw
  unfold wf64 at hs he
  have hd : seg < 0 ∨ (¬ seg < 0 ∧ 4611686018427387904 < seg) ∨ (¬ seg < 0 ∧ ¬ 4611686018427387904 < seg ∧ ext < 0) ∨ (¬ seg < 0 ∧ ¬ 4611686018427387904 < seg ∧ ¬ ext < 0 ∧ 2147483647 < ext) := by unfold ReadOk at h; omega
  clear h hw
  rcases hd with g0 | ⟨g0, g1⟩ | ⟨g0, g1, g2⟩ | ⟨g0, g1, g2, g3⟩
  all_goals
    go_enter Tryz.func12, Tryz.ntmps12
    go_wp2_with fail
    refine (disk_asked E q d A _ H.out).mono ?_
    rintro e w1 ⟨rfl, h1⟩
    have H1 := Aside.mk h1
    clear h1
    go_wp2
    go_ret2
    exact ⟨rfl, H1.out⟩
set_option maxHeartbeats 4000000 in
set_option maxRecDepth 100000 in
theorem ref_wread_bad (E : Env) (q : HP) (y : Nat) (A : Dk) (seg ext : Int) (w : World) (hs : wf64 seg) (he : wf64 ext) (h : ¬ ReadOk seg ext) (hw : Sat E w (HP.rdisk y A * q)) :
    Calls Tryz.prog 13 #[.pointer (some ⟨y, 0, none⟩), .int .i64 seg, .int .i64 ext] w fun e w' => e = .returned (.tuple #[.slice none 0 0, .int .i64 1]) ∧ Sat E w' (HP.rdisk y A * q) := by
  have H := Aside.mk hw
  unfold wf64 at hs he
  have hd : seg < 0 ∨ (¬ seg < 0 ∧ 4611686018427387904 < seg) ∨ (¬ seg < 0 ∧ ¬ 4611686018427387904 < seg ∧ ext < 0) ∨ (¬ seg < 0 ∧ ¬ 4611686018427387904 < seg ∧ ¬ ext < 0 ∧ 2147483647 < ext) := by unfold ReadOk at h; omega
  clear h hw
  rcases hd with g0 | ⟨g0, g1⟩ | ⟨g0, g1, g2⟩ | ⟨g0, g1, g2, g3⟩
  all_goals
    go_enter Tryz.func13, Tryz.ntmps13
    go_wp2
    go_ret2
    exact ⟨rfl, H.out⟩
theorem wal_readx (E : Env) (q : HP) (d : Nat) (A : Dk) (seg ext : Int) (w : World) (hs : wf64 seg) (he : wf64 ext) (hb : A.Byt)
    (hq : ∀ w, Sat E w q → Quarter w ∧ Lib.TabIs Tryz.prog w "internal/strconv.uint64pow10" .u64 Lib.pow10Tab) (hw : Sat E w (HP.disk d A * q)) :
    Calls Tryz.prog 12 #[.pointer (some ⟨d, 0, none⟩), .int .i64 seg, .int .i64 ext] w (uniT E (HP.disk d A * q) (readX A seg ext)) := by
  unfold readX
  by_cases h : ReadOk seg ext
  · rw [if_pos h]
    unfold ReadOk at h
    obtain ⟨en, rfl⟩ : ∃ en : Nat, ext = en := ⟨ext.toNat, by omega⟩
    rw [Int.toNat_natCast]
    refine (wal_read E q d A seg en w h.1 h.2.1 (by omega) (fun f hf i c hc => hb.reads f i c hc) hq hw).mono ?_
    intro e w' he
    cases hr : readG A (nameW seg) en en 0 [] with
    | none =>
      rw [hr] at he
      obtain ⟨rfl, hw'⟩ := he
      exact uniT_nil hw'
    | some l =>
      rw [hr] at he
      exact he
  · rw [if_neg h]
    refine (wal_read_bad E q d A seg ext w hs he h hw).mono ?_
    rintro e w' ⟨rfl, hw'⟩
    exact uniT_nil hw'
theorem ref_wreadx (E : Env) (q : HP) (y : Nat) (A : Dk) (seg ext : Int) (w : World) (hs : wf64 seg) (he : wf64 ext) (hb : A.Byt) (hw : Sat E w (HP.rdisk y A * q)) :
    Calls Tryz.prog 13 #[.pointer (some ⟨y, 0, none⟩), .int .i64 seg, .int .i64 ext] w (uniT E (HP.rdisk y A * q) (readX A seg ext)) := by
  unfold readX
  by_cases h : ReadOk seg ext
  · rw [if_pos h]
    unfold ReadOk at h
    obtain ⟨en, rfl⟩ : ∃ en : Nat, ext = en := ⟨ext.toNat, by omega⟩
    rw [Int.toNat_natCast]
    refine (ref_wread E q y A seg en w h.1 h.2.1 (by omega) (fun f hf i c hc => hb.reads f i c hc) hw).mono ?_
    intro e w' he
    cases hr : readG A (nameW seg) en en 0 [] with
    | none =>
      rw [hr] at he
      obtain ⟨rfl, hw'⟩ := he
      exact uniT_nil hw'
    | some l =>
      rw [hr] at he
      exact he
  · rw [if_neg h]
    refine (ref_wread_bad E q y A seg ext w hs he h hw).mono ?_
    rintro e w' ⟨rfl, hw'⟩
    exact uniT_nil hw'
theorem Dk.Byt.appendW {A : Dk} (h : A.Byt) (seg at_ lsn : Int) {b : List Int} (hb : Bytes b) : (Go.Proofs.YtcjcccbjgooooaaGreatDoor.appendW A seg at_ lsn b).2.Byt := by
  unfold Go.Proofs.YtcjcccbjgooooaaGreatDoor.appendW
  split
  · refine h.wrP _ _ _ fun p hp => ?_
    have := piecesW_mem hp
    exact fun x hx => textW_bytes hb x (this.2 x hx)
  · exact h
end Go.Proofs.YtcjcccbjgooooaaGreatDoor
/- wal.Append. -/
namespace Go.Proofs.YtcjcccbjgooooaaGreatDoor
open Go.RowKit HP
set_option linter.unusedSimpArgs false
set_option linter.unusedVariables false

theorem appendW_bad {A : Dk} {seg at_ lsn : Int} {b : List Int} (h : ¬ AppOk seg at_ lsn (wneedI b.length)) : appendW A seg at_ lsn b = ((0, 1), A) := by
  unfold appendW
  rw [if_neg h]
set_option maxHeartbeats 4000000 in
set_option maxRecDepth 100000 in
theorem wal_append (E : Env) (q : HP) (d : Nat) (A : Dk) (seg at_ lsn : Int) (Ap : Option Addr) (b : List Int) (n c : Nat) (w : World) (hs : wf64 seg) (ha : wf64 at_) (hl : wf64 lsn) (hbn : b.length = n) (hnc : n ≤ c) (hcm : c ≤ maxLen) (hb : Bytes b)
    (hq : ∀ w, Sat E w q → Quarter w ∧ Lib.TabIs Tryz.prog w "internal/strconv.uint64pow10" .u64 Lib.pow10Tab ∧ Cells w Ap (b8s b)) (hw : Sat E w (HP.disk d A * q)) :
    Calls Tryz.prog 8 #[.pointer (some ⟨d, 0, none⟩), .int .i64 seg, .int .i64 at_, .int .i64 lsn, .slice Ap n c] w fun e w' => e = .returned (.tuple #[.int .i64 (appendW A seg at_ lsn b).1.1, .int .i64 (appendW A seg at_ lsn b).1.2]) ∧ Sat E w' (HP.disk d (appendW A seg at_ lsn b).2 * q) := by
  have hn64 : wf64 (n : Int) := by unfold wf64 maxLen at *; omega
  have HQ := Aside.mk (And.intro hq (And.intro hw (And.intro hbn (And.intro hb hn64))))
  have HSZ := Aside.mk (nameW_size hs)
  have H64 := Aside.mk hs
  unfold wf64 at hs ha hl
  obtain ⟨N, hN⟩ : ∃ N, N = wneedI n := ⟨_, rfl⟩
  have HN := Aside.mk hN
  have hN0 : 0 ≤ N ∧ N ≤ 10000 := by rw [hN]; unfold wneedI; split <;> omega
  have HBAD : Aside (¬ AppOk seg at_ lsn N → appendW A seg at_ lsn b = ((0, 1), A)) := ⟨fun h => appendW_bad (by rw [hbn, ← hN]; exact h)⟩
  have HOK : Aside (AppOk seg at_ lsn N → appendW A seg at_ lsn b = (if (wrP A (nameW seg) at_.toNat lsn.toNat (piecesW (textW b))).1 = 0 then (N, 0) else (0, (wrP A (nameW seg) at_.toNat lsn.toNat (piecesW (textW b))).1), (wrP A (nameW seg) at_.toNat lsn.toNat (piecesW (textW b))).2)) := ⟨fun h => by
    unfold appendW
    rw [hbn, ← hN, if_pos h]⟩
  have HCH : Aside (N ≠ 0 → 1 ≤ n ∧ n ≤ 1000000 ∧ N = (chunkW (n + 4) : Int)) := ⟨fun h => by
    have h1 : 1 ≤ n ∧ n ≤ 1000000 := by
      rw [hN] at h
      unfold wneedI at h
      split at h
      · exact absurd rfl h
      · omega
    exact ⟨h1.1, h1.2, by rw [hN]; exact wneed_chunk h1.1 h1.2⟩⟩
  clear hq hw hbn hb hN hn64 hcm
  go_enter Tryz.func8, Tryz.ntmps8
  go_wp2_with fail
  refine (wal_need n _ HQ.out.2.2.2.2).mono ?_
  rintro e w0 ⟨rfl, hw0⟩
  subst w0
  rw [← HN.out]
  go_wp2_with fail
  refine (disk_asked E q d A _ HQ.out.2.1).mono ?_
  rintro e w1 ⟨rfl, h1⟩
  have H1 := Aside.mk h1
  clear h1
  by_cases g0 : N = 0
  · subst g0
    have HX : Aside (appendW A seg at_ lsn b = ((0, 1), A)) := ⟨HBAD.out (fun h => by obtain ⟨a1, a2, a3, a4, a5, a6, a7⟩ := h; omega)⟩
    go_wp2
    all_goals (go_ret2; rw [HX.out]; exact ⟨rfl, H1.out⟩)
  by_cases g1 : seg < 0
  · have HX : Aside (appendW A seg at_ lsn b = ((0, 1), A)) := ⟨HBAD.out (fun h => by obtain ⟨a1, a2, a3, a4, a5, a6, a7⟩ := h; omega)⟩
    go_wp2
    all_goals (go_ret2; rw [HX.out]; exact ⟨rfl, H1.out⟩)
  by_cases g2 : 4611686018427387904 < seg
  · have HX : Aside (appendW A seg at_ lsn b = ((0, 1), A)) := ⟨HBAD.out (fun h => by obtain ⟨a1, a2, a3, a4, a5, a6, a7⟩ := h; omega)⟩
    go_wp2
    all_goals (go_ret2; rw [HX.out]; exact ⟨rfl, H1.out⟩)
  by_cases g3 : lsn < 0
  · have HX : Aside (appendW A seg at_ lsn b = ((0, 1), A)) := ⟨HBAD.out (fun h => by obtain ⟨a1, a2, a3, a4, a5, a6, a7⟩ := h; omega)⟩
    go_wp2
    all_goals (go_ret2; rw [HX.out]; exact ⟨rfl, H1.out⟩)
  by_cases g4 : 4611686018427387904 < lsn
  · have HX : Aside (appendW A seg at_ lsn b = ((0, 1), A)) := ⟨HBAD.out (fun h => by obtain ⟨a1, a2, a3, a4, a5, a6, a7⟩ := h; omega)⟩
    go_wp2
    all_goals (go_ret2; rw [HX.out]; exact ⟨rfl, H1.out⟩)
  by_cases g5 : at_ < 0
  · have HX : Aside (appendW A seg at_ lsn b = ((0, 1), A)) := ⟨HBAD.out (fun h => by obtain ⟨a1, a2, a3, a4, a5, a6, a7⟩ := h; omega)⟩
    go_wp2
    all_goals (go_ret2; rw [HX.out]; exact ⟨rfl, H1.out⟩)
  by_cases g6 : 2147483647 - N < at_
  · have HX : Aside (appendW A seg at_ lsn b = ((0, 1), A)) := ⟨HBAD.out (fun h => by obtain ⟨a1, a2, a3, a4, a5, a6, a7⟩ := h; omega)⟩
    go_wp2
    all_goals (go_ret2; rw [HX.out]; exact ⟨rfl, H1.out⟩)
  have hok : AppOk seg at_ lsn N := ⟨g0, by omega, by omega, by omega, by omega, by omega, by omega⟩
  have HX0 := Aside.mk (HOK.out hok)
  obtain ⟨n1, n2, hNc⟩ := HCH.out g0
  obtain ⟨K, hK⟩ : ∃ K, K = chunkW (n + 4) := ⟨_, rfl⟩
  rw [← hK] at hNc
  subst hNc
  obtain ⟨at1, rfl⟩ : ∃ at1 : Nat, at_ = (at1 : Int) := ⟨at_.toNat, by omega⟩
  obtain ⟨gen, rfl⟩ : ∃ gen : Nat, lsn = (gen : Int) := ⟨lsn.toNat, by omega⟩
  rw [Int.toNat_natCast, Int.toNat_natCast] at HX0
  have hKb : ((K : Int) == 0) = false := by rw [beq_eq_false_iff_ne]; exact g0
  have HK := Aside.mk hK
  have hwn : IntKind.u64.wrap (n : Int) = (n : Int) := by rw [IntKind.wrap_u64]; omega
  clear hok hK HBAD HOK HCH HN
  go_wp2_with fail
  refine (crc_put E _ n 4 _ (by omega) (by omega) H1.out).mono ?_
  rintro e w2 ⟨gp, rfl, h2⟩
  have h3 := h2.alloc (.cells #[.slice (some ⟨gp, 0, none⟩) 4 4, .slice Ap n c] 28)
  have H3 := Aside.mk h3
  have HQ3 : Aside (∀ w', Sat E w' (HP.row 5 1 (.slice (some ⟨gp, 0, none⟩) 4 4) 4 (b8s (putI n 4)) * (HP.disk d A * q)) → Cells w' (some ⟨gp, 0, none⟩) (b8s (putI n 4)) ∧ Cells w' Ap (b8s b)) := ⟨fun w' h => ⟨h.row_cells, (HQ.out.1 _ h.right.right).2.2⟩⟩
  clear h2 h3
  go_wp2_with fail
  refine (joined_ok E _ w2.heap.size (some ⟨gp, 0, none⟩) Ap (putI n 4) b 4 n 4 c _ (putI_length _ _) HQ.out.2.2.1 (by omega) (by omega) (by omega) HQ3.out H3.out).mono ?_
  rintro e w3 ⟨AT, cT, rfl, hcT, hmT, h4⟩
  have e4 : putI n 4 ++ b = textW b := by unfold textW; rw [HQ.out.2.2.1]
  rw [e4] at h4
  clear e4 H3 HQ3
  have htl : (textW b).length = 4 + n := by rw [textW_length, HQ.out.2.2.1]; omega
  obtain ⟨T, hT⟩ : ∃ T, T = textW b := ⟨_, rfl⟩
  have htb : Bytes T := by rw [hT]; exact textW_bytes HQ.out.2.2.2.1
  rw [← hT] at htl h4 HX0
  have HT := Aside.mk hT
  clear hT
  have hcl := h4.row_cells
  obtain ⟨a0, rfl, -⟩ := hcl.at_ 0 (by rw [b8s_length, htl]; omega)
  obtain ⟨gT, oT, rfl⟩ := slice_addr hcl rfl (k := 0) (by rw [b8s_length, htl]; omega)
  obtain ⟨L, hL⟩ : ∃ L, L = 4 + n := ⟨_, rfl⟩
  rw [← hL] at h4 htl hcT ⊢
  have HLL := Aside.mk hL
  clear hL
  have hQ2 : ∀ w', Sat E w' (HP.row 5 1 (.slice (some ⟨gT, oT, none⟩) L cT) L (b8s T) * q) → Quarter w' ∧ Lib.TabIs Tryz.prog w' "internal/strconv.uint64pow10" .u64 Lib.pow10Tab ∧ Cells w' (some ⟨gT, oT, none⟩) (b8s T) ∧ Sat E w' q := fun w' h => by
    have := HQ.out.1 _ h.right
    exact ⟨this.1, this.2.1, h.row_cells, h.right⟩
  have h5 : Sat E w3 (HP.disk d A * (HP.row 5 1 (.slice (some ⟨gT, oT, none⟩) L cT) L (b8s T) * q)) := h4.drop2.s2
  have HQ2 := Aside.mk (And.intro hQ2 (And.intro htb htl))
  have H5 := Aside.mk h5
  clear h4 h5 hQ2 htb htl hcl H1
  go_wp2_with fail
  refine (wal_name E _ seg _ H64.out (fun w' h => (HQ2.out.1 _ h.right).2.1) H5.out).mono ?_
  rintro e w4 ⟨rfl, h6⟩
  obtain ⟨name, hname⟩ : ∃ name, name = nameW seg := ⟨_, rfl⟩
  have hsz : name.size + 2 ≤ maxLen := by rw [hname]; have := HSZ.out; unfold maxLen; omega
  rw [← hname] at HX0 ⊢
  clear hname
  have hfa : (name ++ dotA).size ≤ maxLen := by rw [dotA_size]; exact hsz
  have hfb : (name ++ dotB).size ≤ maxLen := by rw [dotB_size]; exact hsz
  have HF : Aside (halvesL name = [name ++ dotA, name ++ dotB]) := ⟨rfl⟩
  have H6 := Aside.mk h6
  clear h6 H5
  go_wp2_with fail
  refine (wal_files E _ name _ hsz H6.out).mono ?_
  rintro e w5 ⟨rfl, h7⟩
  obtain ⟨fa, hfae⟩ : ∃ fa, fa = name ++ dotA := ⟨_, rfl⟩
  obtain ⟨fb, hfbe⟩ : ∃ fb, fb = name ++ dotB := ⟨_, rfl⟩
  rw [← hfae] at hfa HF ⊢
  rw [← hfbe] at hfb HF ⊢
  clear hfae hfbe hsz
  have H7 := Aside.mk h7
  clear h7 H6
  obtain ⟨ps, hps⟩ : ∃ ps, ps = piecesW T := ⟨_, rfl⟩
  rw [← hps] at HX0
  have HPS := Aside.mk (And.intro hps (And.intro HK.out HLL.out))
  clear hps HLL
  have HR : Aside (wrP A name at1 gen ps = wrL A at1 gen ps (halvesL name)) := ⟨rfl⟩
  have i0 : ∀ w, (Instr.index 73 (.agg #[.string fa, .string fb]) (.int .i64 0)).run Tryz.prog w = .ok (.string fa) w := fun w => by kernel_rfl
  have i1 : ∀ w, (Instr.index 73 (.agg #[.string fa, .string fb]) (.int .i64 1)).run Tryz.prog w = .ok (.string fb) w := fun w => by kernel_rfl
  have hL6 : L ≤ 1000004 := by have := HPS.out.2.2; omega
  have hLK : 106 * K ≤ L + 105 ∧ L ≤ 106 * K := by have := HPS.out.2.1; have := HPS.out.2.2; unfold chunkW at *; omega
  have hatK : (at1 : Int) + K ≤ 2147483647 := by omega
  have hgen : (gen : Int) ≤ 4611686018427387904 := by omega
  clear g0 g1 g2 g3 g4 g5 g6 hN0 n1 n2 hs ha hl
  go_wp2
  go_loopw [67] (fun v67 wr => ∃ (h : Nat) (A' : Dk), h ≤ 2 ∧ v67 = .int .i64 h ∧ Aside (wrL A' at1 gen ps ((halvesL name).drop h) = wrP A name at1 gen ps) ∧ Aside (Sat E wr (HP.disk d A' * (HP.row 5 1 (.slice (some ⟨gT, oT, none⟩) L cT) L (b8s T) * q)))) (fun i _ => 2 - (intOf i).toNat)
  case atStart => exact ⟨0, A, by omega, rfl, ⟨by rw [HR.out]; rfl⟩, H7⟩
  case round =>
    obtain ⟨h, A', hh, rfl, HA, HS⟩ := hrel
    by_cases hlt : h < 2
    · obtain ⟨f, hf, hff, hix⟩ : ∃ f : ByteArray, f.size ≤ maxLen ∧ (halvesL name).drop h = f :: (halvesL name).drop (h + 1) ∧ ∀ w, (Instr.index 73 (.agg #[.string fa, .string fb]) (.int .i64 (h : Int))).run Tryz.prog w = .ok (.string f) w := by
        rw [HF.out]
        rcases Nat.lt_or_ge h 1 with h0 | h0
        · obtain rfl : h = 0 := by omega
          exact ⟨fa, hfa, rfl, i0⟩
        · obtain rfl : h = 1 := by omega
          exact ⟨fb, hfb, rfl, i1⟩
      rw [hff] at HA
      clear hff
      have hlt2 : (h : Int) < 2 := by omega
      have HW : Aside (wrL A' at1 gen ps (f :: (halvesL name).drop (h + 1)) = if (wrF A' f gen at1 ps).1 = 0 then wrL (wrF A' f gen at1 ps).2 at1 gen ps ((halvesL name).drop (h + 1)) else wrF A' f gen at1 ps) := ⟨rfl⟩
      go_wp2
      go_loopw [71] (fun v71 w2 => ∃ (k : Nat) (B : Dk), k ≤ K ∧ v71 = .int .i64 k ∧ Aside (wrF B f gen (at1 + k) (ps.drop k) = wrF A' f gen at1 ps) ∧ Aside (Sat E w2 (HP.disk d B * (HP.row 5 1 (.slice (some ⟨gT, oT, none⟩) L cT) L (b8s T) * q)))) (fun i _ => K - (intOf i).toNat)
      case atStart => exact ⟨0, A', by omega, rfl, ⟨by rw [Nat.add_zero]; rfl⟩, HS⟩
      case round =>
        obtain ⟨k, B, hk, rfl, HB, HTT⟩ := hrel
        by_cases hkn : k < K
        · have hpk : ps.drop k = pieceW T k :: ps.drop (k + 1) := by
            rw [HPS.out.1]
            have hl : k < (piecesW T).length := by rw [piecesW_length, HQ2.out.2.2, HPS.out.2.2, Nat.add_comm 4 n, ← HPS.out.2.1]; exact hkn
            rw [List.drop_eq_getElem_cons hl]
            congr 1
            have := piecesW_at (l := T) (k := k) (by rw [← piecesW_length]; exact hl)
            rw [List.getElem?_eq_getElem hl] at this
            exact Option.some.inj this
          rw [hpk] at HB
          clear hpk
          obtain ⟨j, hj⟩ : ∃ j, j = 106 * k := ⟨_, rfl⟩
          obtain ⟨m, hm⟩ : ∃ m, m = min (j + 106) L := ⟨_, rfl⟩
          have x1 : (k : Int) * 106 = (j : Int) := by omega
          obtain ⟨j2, hj2⟩ : ∃ j2, j2 = j + 106 := ⟨_, rfl⟩
          have x2 : ((k : Int) + 1) * 106 = (j2 : Int) := by omega
          have x3 : (if (L : Int) < (j2 : Int) then (L : Int) else (j2 : Int)) = (m : Int) := by split <;> omega
          have x4 : min (j2 : Int) (L : Int) = (m : Int) := by omega
          have x5 : j ≤ m := by omega
          have x6 : m ≤ cT := by omega
          have x7 : m - j ≤ 106 := by omega
          have x8 : j < cT := by omega
          have hkn2 : (k : Int) < K := by omega
          obtain ⟨p, hp⟩ : ∃ p, p = pieceW T k := ⟨_, rfl⟩
          have hpl : p.length = m - j := by rw [hp, pieceW_length, HQ2.out.2.2]; omega
          have hpb : Bytes p := fun y hy => by rw [hp] at hy; exact HQ2.out.2.1 y (List.mem_of_mem_drop (List.mem_of_mem_take hy))
          have hpc : ∀ w', Sat E w' (HP.disk d B * (HP.row 5 1 (.slice (some ⟨gT, oT, none⟩) L cT) L (b8s T) * q)) → Quarter w' ∧ Cells w' (some ⟨gT, oT + j, none⟩) (b8s p) := fun w' h => by
            have h2 := HQ2.out.1 _ h.right
            refine ⟨h2.1, ?_⟩
            have h3 := (h2.2.2.1.drop j).take 106
            rw [addr_add] at h3
            rw [hp, hj] at *
            unfold pieceW
            unfold b8s at h3 ⊢
            rw [List.map_take, List.map_drop]
            exact h3
          rw [← hp] at HB
          have HP2 := Aside.mk (And.intro hpl (And.intro hpb hpc))
          clear hp hpl hpb hpc hm hj hj2
          have HN2 : Aside (wrF B f gen (at1 + k) (p :: ps.drop (k + 1)) = if ¬ FrameOk ((at1 + k : Nat) : Int) gen p.length then (1, B)
            else if (B.write f ((at1 + k : Nat) : Int) (extI f (at1 + k) gen p)).1 = 0 then wrF (B.write f ((at1 + k : Nat) : Int) (extI f (at1 + k) gen p)).2 f gen (at1 + k + 1) (ps.drop (k + 1))
            else B.write f ((at1 + k : Nat) : Int) (extI f (at1 + k) gen p)) := ⟨rfl⟩
          rw [HB.out] at HN2
          obtain ⟨i, hi⟩ : ∃ i : Nat, (at1 : Int) + k = i := ⟨at1 + k, by omega⟩
          have hi2 : at1 + k = i := by omega
          have hi3 : (i : Int) ≤ 2147483647 := by omega
          rw [hi2] at HN2
          rw [if_neg (by
            intro hn
            exact hn ⟨by omega, hi3, by omega, hgen, by rw [HP2.out.1]; exact x7⟩)] at HN2
          go_wp2_with fail
          refine (ext_frame E (HP.disk d B * (HP.row 5 1 (.slice (some ⟨gT, oT, none⟩) L cT) L (b8s T) * q)) f i gen (some ⟨gT, oT + j, none⟩) p (m - j) (cT - j) _ hf hi3 hgen HP2.out.1 x7 HP2.out.2.1 HP2.out.2.2 HTT.out).mono ?_
          rintro e w3 ⟨gI, rfl, h3⟩
          have hIl : (extI f i gen p).length = 128 := extI_length (by rw [HP2.out.1]; exact x7)
          obtain ⟨I, hIe⟩ : ∃ I, I = extI f i gen p := ⟨_, rfl⟩
          rw [← hIe] at hIl h3 HN2
          clear hIe
          have H3 := Aside.mk (And.intro h3 hIl)
          clear h3 hIl HP2
          go_wp2_with fail
          refine (disk_write E (HP.pt gI (.cells (b8s I).toArray 133) * (HP.row 5 1 (.slice (some ⟨gT, oT, none⟩) L cT) L (b8s T) * q)) d B f i (some ⟨gI, 0, none⟩) I 128 128 _ hf H3.out.2 (by unfold maxLen; omega) (fun w h => Sat.ptCells (off := 0) h (by rw [List.drop_zero, List.take_length])) H3.out.1.s2).mono ?_
          rintro e w4 ⟨rfl, h4⟩
          have H4 := Aside.mk h4.drop2
          clear h4 H3
          by_cases h0 : (B.write f (i : Int) I).1 = 0
          · rw [h0]
            rw [if_pos h0] at HN2
            generalize (B.write f (i : Int) I).2 = B2 at *
            have HX : Aside (wrF B2 f gen (at1 + (k + 1)) (ps.drop (k + 1)) = wrF A' f gen at1 ps) := ⟨by rw [HN2.out, show at1 + (k + 1) = i + 1 by omega]⟩
            clear HN2 h0 HB
            go_wp2
            go_roundw
            case rel => exact ⟨k + 1, B2, by omega, by push_cast; rfl, HX, H4⟩
            case measure => simp [intOf]; omega
          · rw [if_neg h0] at HN2
            have HX : Aside (wrP A name at1 gen ps = B.write f (i : Int) I) := ⟨by rw [← HA.out, HW.out, HN2.out, if_neg h0]⟩
            obtain ⟨ec, hec⟩ : ∃ ec, ec = (B.write f (i : Int) I).1 := ⟨_, rfl⟩
            rw [← hec] at h0 ⊢
            have HE := Aside.mk (And.intro hec h0)
            clear HN2 hec HB HA HW
            go_wp2
            go_ret2
            rw [HX0.out, HX.out, ← HE.out.1, if_neg HE.out.2]
            exact ⟨rfl, H4.out.drop2⟩
        · have hkn' : k = K := by omega
          subst hkn'
          have hpl : ps.drop k = [] := by rw [HPS.out.1]; exact List.drop_eq_nil_of_le (by rw [piecesW_length, HQ2.out.2.2, HPS.out.2.2, Nat.add_comm 4 n, ← HPS.out.2.1]; exact Nat.le_refl _)
          rw [hpl] at HB
          clear hpl
          have HB2 : Aside (wrF A' f gen at1 ps = B.sync f) := ⟨by rw [← HB.out]; rfl⟩
          clear HB hix i0 i1
          rw [HB2.out] at HW
          go_wp2_with fail
          refine (disk_sync E (HP.row 5 1 (.slice (some ⟨gT, oT, none⟩) L cT) L (b8s T) * q) d B f _ hf HTT.out).mono ?_
          rintro e w4 ⟨rfl, h4⟩
          have H4 := Aside.mk h4
          clear h4
          by_cases h0 : (B.sync f).1 = 0
          · rw [h0]
            rw [if_pos h0] at HW
            have HX : Aside (wrL (B.sync f).2 at1 gen ps ((halvesL name).drop (h + 1)) = wrP A name at1 gen ps) := ⟨by rw [← HW.out, HA.out]⟩
            generalize (B.sync f).2 = B2 at *
            clear HW HA HB2 h0
            go_wp2
            go_roundw
            case rel => exact ⟨h + 1, B2, by omega, by push_cast; rfl, HX, H4⟩
            case measure => simp [intOf]; omega
          · rw [if_neg h0] at HW
            have HX : Aside (wrP A name at1 gen ps = B.sync f) := ⟨by rw [← HA.out, HW.out]⟩
            obtain ⟨ec, hec⟩ : ∃ ec, ec = (B.sync f).1 := ⟨_, rfl⟩
            rw [← hec] at h0 ⊢
            have HE := Aside.mk (And.intro hec h0)
            clear hec HB2 HA HW
            go_wp2
            go_ret2
            rw [HX0.out, HX.out, ← HE.out.1, if_neg HE.out.2]
            exact ⟨rfl, H4.out.drop2⟩
    · have hh2 : h = 2 := by omega
      subst hh2
      rw [HF.out] at HA
      have HX : Aside (wrP A name at1 gen ps = (0, A')) := ⟨by rw [← HA.out]; rfl⟩
      clear HA i0 i1
      go_wp2
      go_ret2
      rw [HX0.out, HX.out, if_pos rfl]
      exact ⟨rfl, HS.out.drop2⟩
end Go.Proofs.YtcjcccbjgooooaaGreatDoor
/- wal, the plain part: records on a new disk. -/
namespace Go.Proofs.YtcjcccbjgooooaaGreatDoor
open Go.RowKit HP
set_option linter.unusedSimpArgs false
set_option linter.unusedVariables false

structure NewHas (room : Int) (x : ByteArray) (gen : Nat) (ps : List (List Int)) (B : Dk) : Prop where
  eq : wrP (Dk.new room) x 0 gen ps = (0, B)
  held : Holds B x gen ps
  has : HasBoth B x 0 gen ps
  free : B.free = room - 2 * ps.length
  fuse : B.fuse = -1
  sorted : Sorted B.files
  bytes : ∀ f ∈ halvesL x, ∀ i c, B.cel f i = some c → Bytes c.read
theorem holds_bytes {B : Dk} {x : ByteArray} {gen : Nat} {ps : List (List Int)} (h : Holds B x gen ps) (hl : ∀ p ∈ ps, p.length ≤ 106) (hb : ∀ p ∈ ps, Bytes p) : ∀ f ∈ halvesL x, ∀ i c, B.cel f i = some c → Bytes c.read := by
  have key : ∀ f, B.at f = (newCels f gen 0 ps).map Cel.syncd → ∀ i c, B.cel f i = some c → Bytes c.read := by
    intro f hf i c hc
    have hc2 := hc
    unfold Dk.cel at hc
    split at hc
    · rename_i h0
      rw [hf, List.getElem?_map] at hc
      have hlt : i.toNat < ps.length := by
        refine Nat.lt_of_not_le fun hn => ?_
        rw [List.getElem?_eq_none (by rw [newCels_length]; omega)] at hc
        cases hc
      have hg := held_cel (k := i.toNat) hf (List.getElem?_eq_getElem hlt)
      rw [show ((i.toNat : Nat) : Int) = i by omega, hc2] at hg
      cases hg
      exact extI_bytes (hl _ (List.getElem_mem hlt)) (hb _ (List.getElem_mem hlt))
    · cases hc
  intro f hf
  rcases List.mem_cons.1 hf with rfl | hf
  · exact key _ h.a
  · rcases List.mem_cons.1 hf with rfl | hf
    · exact key _ h.b
    · cases hf
theorem holds_has {B : Dk} {x : ByteArray} {gen : Nat} {ps : List (List Int)} (h : Holds B x gen ps) : HasBoth B x 0 gen ps :=
  ⟨fun k p hp => ⟨_, by rw [Nat.zero_add]; exact held_cel h.a hp, by rw [Nat.zero_add]; rfl⟩, fun k p hp => ⟨_, by rw [Nat.zero_add]; exact held_cel h.b hp, by rw [Nat.zero_add]; rfl⟩⟩
theorem cel_past {B : Dk} {f : ByteArray} {k : Nat} (h : (B.at f).length ≤ k) : B.cel f k = none := by
  unfold Dk.cel
  rw [if_pos (by omega), Int.toNat_natCast, List.getElem?_eq_none h]
theorem holds_past {B : Dk} {x : ByteArray} {gen k : Nat} {ps : List (List Int)} (h : Holds B x gen ps) (hk : ps.length ≤ k) : (getP B x k).1 = -1 :=
  none_get (cel_past (by rw [h.a, List.length_map, newCels_length]; exact hk)) (cel_past (by rw [h.b, List.length_map, newCels_length]; exact hk))
theorem new_has {x : ByteArray} (T : TwoNames (x ++ dotA) (x ++ dotB)) {room : Int} {gen : Nat} {ps : List (List Int)} (hg : (gen : Int) ≤ 4611686018427387904) (h0 : 0 < ps.length) (hr : 2 * (ps.length : Int) ≤ room) (hm : ps.length ≤ 2147483647) (hp : ∀ p ∈ ps, p.length ≤ 106) (hb : ∀ p ∈ ps, Bytes p) : ∃ B, NewHas room x gen ps B := by
  have hs0 : Sorted (Dk.new room).files := List.Pairwise.nil
  have hz : sizeF (Dk.new room).files = 0 := rfl
  have c1 : (ps.length : Int) ≤ (Dk.new room).free := by show _ ≤ room - (0 : Nat); omega
  obtain ⟨B1, h1, f1, -⟩ := wrF_fresh (f := x ++ dotA) T.na hg ps (Dk.new room) 0 hs0 rfl rfl c1 hp (by omega) (by omega)
  have g1 := wrF_cels (f := x ++ dotA) T.na hg ps (Dk.new room) 0 hs0 rfl rfl c1 hp (by omega) (by omega)
  have hr1 : B1.room = room := f1.room
  have c2 : (ps.length : Int) ≤ B1.free := by
    have := f1.size
    unfold Dk.free
    omega
  have hb0 : (B1.at (x ++ dotB)).length = 0 := by rw [f1.others _ T.ne]; rfl
  obtain ⟨B2, h2, f2, -⟩ := wrF_fresh (f := x ++ dotB) T.nb hg ps B1 0 f1.sorted f1.fuse hb0 c2 hp (by omega) (by omega)
  have g2 := wrF_cels (f := x ++ dotB) T.nb hg ps B1 0 f1.sorted f1.fuse hb0 c2 hp (by omega) (by omega)
  have hst : wrP (Dk.new room) x 0 gen ps = (0, B2) := by
    unfold wrP halvesL
    simp only [wrL, h1, h2, if_pos rfl]
    rfl
  rw [h1] at g1
  rw [h2] at g2
  have hH : Holds B2 x gen ps := by
    refine ⟨?_, ?_⟩
    · rw [f2.others _ (Ne.symm T.ne)]
      exact g1
    · rw [List.eq_nil_of_length_eq_zero hb0, List.nil_append] at g2
      exact g2
  exact ⟨B2, hst, hH, holds_has hH, by
    have := f1.size
    have := f2.size
    have := f2.room
    unfold Dk.free
    omega, f2.fuse, f2.sorted, holds_bytes hH hp hb⟩
theorem nameW_one : nameW 1 = ⟨#[119, 49]⟩ := by
  unfold nameW
  rw [show (1 : Int).toNat = 1 from rfl, decB_small (by omega)]
  rfl
theorem nameW_three : nameW 3 = ⟨#[119, 51]⟩ := by
  unfold nameW
  rw [show (3 : Int).toNat = 3 from rfl, decB_small (by omega)]
  rfl
theorem twoW1 : TwoNames (nameW 1 ++ dotA) (nameW 1 ++ dotB) := by
  rw [nameW_one]
  exact ⟨by kernel_rfl, by kernel_rfl, by decide, by kernel_rfl, by kernel_rfl⟩
theorem twoW3 : TwoNames (nameW 3 ++ dotA) (nameW 3 ++ dotB) := by
  rw [nameW_three]
  exact ⟨by kernel_rfl, by kernel_rfl, by decide, by kernel_rfl, by kernel_rfl⟩
theorem piecesW_bytes {b : List Int} (hb : Bytes b) : ∀ p ∈ piecesW (textW b), Bytes p := fun p hp x hx => textW_bytes hb x ((piecesW_mem hp).2 x hx)
/-- A record appended to an empty disk. -/
structure AppNew (room seg : Int) (b : List Int) (B : Dk) : Prop where
  eq : appendW (Dk.new room) seg 0 1 b = ((wneedI b.length, 0), B)
  has : NewHas room (nameW seg) 1 (piecesW (textW b)) B
theorem app_new {room seg : Int} {b : List Int} (T : TwoNames (nameW seg ++ dotA) (nameW seg ++ dotB)) (hs : 0 ≤ seg) (hs2 : seg ≤ 4611686018427387904) (hb : Bytes b) (h1 : 1 ≤ b.length) (h2 : b.length ≤ 1000000) (hr : 2 * wneedI b.length ≤ room) : ∃ B, AppNew room seg b B := by
  have hw := wneed_chunk h1 h2
  have hc : (piecesW (textW b)).length = chunkW (b.length + 4) := by rw [piecesW_length, textW_length]
  have hc0 : 0 < chunkW (b.length + 4) := by unfold chunkW; omega
  have hc1 : chunkW (b.length + 4) ≤ 10000 := by unfold chunkW; omega
  obtain ⟨B, hB⟩ := new_has T (room := room) (gen := 1) (ps := piecesW (textW b)) (by omega) (by omega) (by omega) (by omega) (fun p hp => (piecesW_mem hp).1) (piecesW_bytes hb)
  refine ⟨B, ?_, hB⟩
  unfold appendW
  rw [if_pos ⟨by omega, hs, hs2, by omega, by omega, by omega, by omega⟩]
  have e : wrP (Dk.new room) (nameW seg) (0 : Int).toNat (1 : Int).toNat (piecesW (textW b)) = (0, B) := hB.eq
  rw [e]
  rfl
theorem app_none {A : Dk} {seg at_ lsn : Int} : appendW A seg at_ lsn [] = ((0, 1), A) := by
  unfold appendW
  rw [if_neg (fun h => h.1 rfl)]
/-- What a record's segment gives, read so far. -/
theorem read_all {room seg : Int} {b : List Int} {B : Dk} (h : AppNew room seg b B) (h1 : 1 ≤ b.length) (h2 : b.length ≤ 1000000) : readG B (nameW seg) (chunkW (b.length + 4)) (chunkW (b.length + 4)) 0 [] = some [b] := by
  have h0 : 0 < chunkW (b.length + 4) := by unfold chunkW; omega
  have hc1 : chunkW (b.length + 4) ≤ 10000 := by unfold chunkW; omega
  have hr := rec_has (en := chunkW (b.length + 4)) h1 h2 h.has.has (by omega) (by omega) h0
  obtain ⟨c, hc⟩ : ∃ c, chunkW (b.length + 4) = c + 1 := ⟨chunkW (b.length + 4) - 1, by omega⟩
  rw [if_pos (by omega), Nat.zero_add] at hr
  rw [hc] at hr ⊢
  unfold readG
  rw [if_pos (by omega), hr]
  dsimp only
  cases c with
  | zero => rfl
  | succ c => unfold readG; rw [if_neg (by omega)]; rfl
theorem read_cut {room seg : Int} {b : List Int} {B : Dk} (h : AppNew room seg b B) (h1 : 1 ≤ b.length) (h2 : b.length ≤ 1000000) {m : Nat} (hm : 0 < m) (hm2 : m < chunkW (b.length + 4)) : readG B (nameW seg) m m 0 [] = none := by
  have hc1 : chunkW (b.length + 4) ≤ 10000 := by unfold chunkW; omega
  have hr := rec_has (en := m) h1 h2 h.has.has (by omega) (by omega) hm
  obtain ⟨c, rfl⟩ : ∃ c, m = c + 1 := ⟨m - 1, by omega⟩
  unfold readG
  rw [if_pos (by omega), hr, if_neg (by omega)]
theorem rec_past {B : Dk} {x : ByteArray} {en at_ : Nat} (h : (getP B x at_).1 < 0) : recW B x en at_ = none := by
  unfold recW
  rw [if_neg (fun h2 => by omega)]
theorem read_past {room seg : Int} {b : List Int} {B : Dk} (h : AppNew room seg b B) (h1 : 1 ≤ b.length) (h2 : b.length ≤ 1000000) : readG B (nameW seg) (chunkW (b.length + 4) + 1) (chunkW (b.length + 4) + 1) 0 [] = none := by
  have h0 : 0 < chunkW (b.length + 4) := by unfold chunkW; omega
  have hc1 : chunkW (b.length + 4) ≤ 10000 := by unfold chunkW; omega
  have hr := rec_has (en := chunkW (b.length + 4) + 1) h1 h2 h.has.has (by omega) (by omega) (by omega)
  rw [if_pos (by omega), Nat.zero_add] at hr
  have hp := holds_past (k := chunkW (b.length + 4)) h.has.held (by rw [piecesW_length, textW_length]; exact Nat.le_refl _)
  have hl := rec_past (B := B) (x := nameW seg) (en := chunkW (b.length + 4) + 1) (at_ := chunkW (b.length + 4)) (by rw [hp]; decide)
  obtain ⟨c, hc⟩ : ∃ c, chunkW (b.length + 4) = c + 1 := ⟨chunkW (b.length + 4) - 1, by omega⟩
  rw [hc] at hr hl ⊢
  unfold readG
  rw [if_pos (by omega), hr]
  dsimp only
  unfold readG
  rw [if_pos (by omega), hl]
end Go.Proofs.YtcjcccbjgooooaaGreatDoor
