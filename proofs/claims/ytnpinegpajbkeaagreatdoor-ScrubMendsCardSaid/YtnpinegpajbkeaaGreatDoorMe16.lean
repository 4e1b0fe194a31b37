/- Texts of one claim, one behind the other: Rf6D, Rf6E, Rf6F, Rf6H, Rf5M, BytP. -/
import Derived.Test.YtnpinegpajbkeaaGreatDoorMe15
import Derived.Lib.SliceRun
import Derived.WalkSpells
set_option linter.unusedSimpArgs false
set_option linter.unusedVariables false
namespace Go.Proofs.YtnpinegpajbkeaaGreatDoor
open Go.RowKit HP
theorem readS_readO (A : Dk) (f : ByteArray) (file : Nat) (gen i : Int) : readS A f file gen i = match openI (readO A f i) f i with
    | none => (slotZ, false)
    | some x => if (x.2 : Int) ≠ gen then (slotZ, false) else readT file x.1 := by
  unfold readS
  cases hc : A.cel f i with
  | none => simp only [readO_of_none hc, openI_nil]
  | some c =>
    simp only [readO_of_some hc]
    cases openI c.read f i <;> rfl
structure SlotOk (A : Dk) (x : ByteArray) (gen i : Int) (k : Nat) (s : Sl Int) : Prop where
  right : (slotOf A x gen i k).2 = true → s.l = (slotOf A x gen i k).1 ∧ (∃ a, s.A = some a) ∧ s.l.length ≤ s.cap ∧ s.cap ≤ maxLen
  wrong : (slotOf A x gen i k).2 = false → s = ⟨none, 0, []⟩
def SlotsInv (E : Env) (y : Nat) (A : Dk) (x : ByteArray) (gen i : Int) (q F : HP) (k : Nat) (v : Value) (w : World) : Prop :=
  ∃ (ss : List (Sl Int)) (R : HP), ss.length = k ∧ (∀ j s, ss[j]? = some s → SlotOk A x gen i j s) ∧ Sat E w (HP.row 43 1 v k (ss.map Sl.val8) * (R * (F * (HP.rdisk y A * q)))) ∧ ∀ w' q', Sat E w' (R * q') → ∀ s ∈ ss, Cells w' s.A (b8s s.l)
theorem badN_bad {A : Dk} {x : ByteArray} {gen i : Int} {k : Nat} (h : slotOf A x gen i k = (slotZ, false) ∨ (slotOf A x gen i k).2 = false) : badN A x gen i (k + 1) = badN A x gen i k + 1 := by
  have h2 : (slotOf A x gen i k).2 = false := by rcases h with h | h; rw [h]; exact h
  rw [badN, if_neg (by rw [h2]; decide)]
theorem badN_good {A : Dk} {x : ByteArray} {gen i : Int} {k : Nat} {X : List Int} (h : slotOf A x gen i k = (X, true)) : badN A x gen i (k + 1) = badN A x gen i k := by
  rw [badN, if_pos (by rw [h]), Nat.add_zero]
section
variable {E : Env} {y : Nat} {A : Dk} {x : ByteArray} {gen i : Int} {q F R : HP} {k : Nat} {v : Value} {w : World} {ss : List (Sl Int)}
theorem slotsInv_bad (hl : ss.length = k) (ho : ∀ j s, ss[j]? = some s → SlotOk A x gen i j s) (hb : slotOf A x gen i k = (slotZ, false) ∨ (slotOf A x gen i k).2 = false) (hR : ∀ w' q', Sat E w' (R * q') → ∀ s ∈ ss, Cells w' s.A (b8s s.l))
    (hw : Sat E w (HP.row 43 1 v (k + 1) (ss.map Sl.val8 ++ [.slice none 0 0]) * (R * (F * (HP.rdisk y A * q))))) : SlotsInv E y A x gen i q F (k + 1) v w := by
  have hb2 : (slotOf A x gen i k).2 = false := by rcases hb with h | h; rw [h]; exact h
  refine ⟨ss ++ [⟨none, 0, []⟩], R, by rw [List.length_append, hl]; rfl, fun j s hs => ?_, by rw [List.map_append]; exact hw, fun w' q' h s hs => ?_⟩
  · rcases Nat.lt_or_ge j ss.length with h | h
    · rw [List.getElem?_append_left h] at hs; exact ho j s hs
    · rw [List.getElem?_append_right h] at hs
      have : j = k := by
        have := (List.getElem?_eq_some_iff.1 hs).1
        simp at this
        omega
      subst this
      rw [hl, Nat.sub_self] at hs
      simp only [List.getElem?_cons_zero, Option.some.injEq] at hs
      subst hs
      exact ⟨fun h => (by rw [hb2] at h; cases h), fun _ => rfl⟩
  · rcases List.mem_append.1 hs with hs | hs
    · exact hR w' q' h s hs
    · rw [List.mem_singleton.1 hs]; exact Cells.nil _ _
theorem slotsInv_good {AS : Option Addr} {cS n : Nat} {X : List Int} (hl : ss.length = k) (ho : ∀ j s, ss[j]? = some s → SlotOk A x gen i j s) (hb : slotOf A x gen i k = (X, true)) (hX : X.length = n) (hcap : n ≤ cS ∧ cS ≤ maxLen) (hA : ∃ a, AS = some a) (hR : ∀ w' q', Sat E w' (R * q') → ∀ s ∈ ss, Cells w' s.A (b8s s.l))
    (hw : Sat E w (HP.row 43 1 v (k + 1) (ss.map Sl.val8 ++ [.slice AS n cS]) * ((HP.row 5 1 (.slice AS n cS) n (b8s X) * R) * (F * (HP.rdisk y A * q))))) : SlotsInv E y A x gen i q F (k + 1) v w := by
  refine ⟨ss ++ [⟨AS, cS, X⟩], HP.row 5 1 (.slice AS n cS) n (b8s X) * R, by rw [List.length_append, hl]; rfl, fun j s hs => ?_, by rw [List.map_append]; unfold Sl.val8 at hw ⊢; rw [List.map_cons, List.map_nil, hX]; exact hw, fun w' q' h s hs => ?_⟩
  · rcases Nat.lt_or_ge j ss.length with h | h
    · rw [List.getElem?_append_left h] at hs; exact ho j s hs
    · rw [List.getElem?_append_right h] at hs
      have : j = k := by
        have := (List.getElem?_eq_some_iff.1 hs).1
        simp at this
        omega
      subst this
      rw [hl, Nat.sub_self] at hs
      simp only [List.getElem?_cons_zero, Option.some.injEq] at hs
      subst hs
      exact ⟨fun _ => ⟨by rw [hb], hA, by show X.length ≤ cS; rw [hX]; exact hcap.1, hcap.2⟩, fun h => (by rw [hb] at h; cases h)⟩
  · rw [HP.mul_assoc] at h
    rcases List.mem_append.1 hs with hs | hs
    · exact hR w' _ h.right s hs
    · rw [List.mem_singleton.1 hs]; exact h.row_cells
end
set_option maxHeartbeats 8000000 in
set_option maxRecDepth 100000 in
theorem ref6_slots (E : Env) (q : HP) (y : Nat) (A : Dk) (name : ByteArray) (gen i : Int) (w : World) (hname : name.size + 2 ≤ maxLen) (hby : ∀ k, k < 4 → ∀ c, A.cel (stripeF name k) i = some c → Bytes c.read) (hw : Sat E w (HP.rdisk y A * q)) :
    Calls Tryz.prog 72 #[.pointer (some ⟨y, 0, none⟩), .string name, .int .i64 gen, .int .i64 i] w fun e w' => ∃ V c R, ∃ ss : List (Sl Int), e = .returned (.tuple #[.slice V 4 c, .int .i64 (badN A name gen i 4 : Int)]) ∧ ss.length = 4 ∧ (∀ j s, ss[j]? = some s → SlotOk A name gen i j s) ∧ Sat E w' (R * (HP.rdisk y A * q)) ∧ ∀ w'' q', Sat E w'' (R * q') → Cells w'' V (ss.map Sl.val8) ∧ ∀ s ∈ ss, Cells w'' s.A (b8s s.l) := by
  have HQ := Aside.mk (And.intro hby hw)
  have hfa : (name ++ dot0).size ≤ maxLen := by rw [(dot_size name).1]; exact hname
  have hfb : (name ++ dot1).size ≤ maxLen := by rw [(dot_size name).2.1]; exact hname
  have hfc : (name ++ dot2).size ≤ maxLen := by rw [(dot_size name).2.2.1]; exact hname
  have hfd : (name ++ dotP).size ≤ maxLen := by rw [(dot_size name).2.2.2]; exact hname
  have HF : Aside (stripeF name 0 = name ++ dot0 ∧ stripeF name 1 = name ++ dot1 ∧ stripeF name 2 = name ++ dot2 ∧ stripeF name 3 = name ++ dotP) := ⟨rfl, rfl, rfl, rfl⟩
  clear hby hw
  go_enter Tryz.func72, Tryz.ntmps72
  go_wp2_with fail
  refine (ref6_files E _ name _ hname HQ.out.2).mono ?_
  rintro e w2 ⟨g, rfl, k2⟩
  obtain ⟨fa, hfae⟩ : ∃ fa, fa = name ++ dot0 := ⟨_, rfl⟩
  obtain ⟨fb, hfbe⟩ : ∃ fb, fb = name ++ dot1 := ⟨_, rfl⟩
  obtain ⟨fc, hfce⟩ : ∃ fc, fc = name ++ dot2 := ⟨_, rfl⟩
  obtain ⟨fd, hfde⟩ : ∃ fd, fd = name ++ dotP := ⟨_, rfl⟩
  rw [← hfae] at hfa HF k2
  rw [← hfbe] at hfb HF k2
  rw [← hfce] at hfc HF k2
  rw [← hfde] at hfd HF k2
  clear hfae hfbe hfce hfde
  have K2 : Aside (SlotsInv E y A name gen i q (HP.pt g (.cells #[.string fa, .string fb, .string fc, .string fd] 9)) 0 (.slice none 0 0) w2) := ⟨[], HP.emp, rfl, (fun j s hs => by simp at hs), (k2.emp_intro).row_nil 43 1 none, fun _ _ _ s hs => by cases hs⟩
  clear k2
  go_wp2
  go_loopw [10, 11, 23] (fun v10 v11 v23 wr => ∃ (k bad : Nat), k ≤ 4 ∧ v23 = .int .i64 k ∧ v11 = .int .i64 bad ∧ bad ≤ k ∧ Aside (bad = badN A name gen i k) ∧ Aside (SlotsInv E y A name gen i q (HP.pt g (.cells #[.string fa, .string fb, .string fc, .string fd] 9)) k v10 wr)) (fun _ _ x _ => 4 - (intOf x).toNat)
  case atStart => exact ⟨0, 0, by omega, rfl, rfl, by omega, ⟨rfl⟩, K2⟩
  case round =>
    clear K2
    obtain ⟨k, bad, hk, rfl, rfl, hbk, HN, HI⟩ := hrel
    obtain ⟨ss, R, hsl, hso, hS, hR⟩ := HI.out
    obtain ⟨V, cV, rfl, hcV, hcmV⟩ := hS.row_slice
    clear HI
    by_cases hlt : k < 4
    · obtain ⟨f, hf, hff, hix⟩ : ∃ f : ByteArray, f.size ≤ maxLen ∧ stripeF name k = f ∧ (#[Value.string fa, Value.string fb, Value.string fc, Value.string fd] : Array Value)[k]? = some (.string f) := by
        have hc : k = 0 ∨ k = 1 ∨ k = 2 ∨ k = 3 := by omega
        rcases hc with h0 | h0 | h0 | h0 <;> subst h0
        · exact ⟨fa, hfa, HF.out.1, rfl⟩
        · exact ⟨fb, hfb, HF.out.2.1, rfl⟩
        · exact ⟨fc, hfc, HF.out.2.2.1, rfl⟩
        · exact ⟨fd, hfd, HF.out.2.2.2, rfl⟩
      have kc : wr.cell? ⟨g, k, none⟩ = some (.string f) := by rw [hS.right.right.cell]; exact hix
      have hlt2 : (k : Int) < 4 := by omega
      have HBY : Aside (∀ c, A.cel f i = some c → Bytes c.read) := ⟨by rw [← hff]; exact HQ.out.1 k hlt⟩
      have HSL : Aside (slotOf A name gen i k = match openI (readO A f i) f i with
        | none => (slotZ, false)
        | some x => if (x.2 : Int) ≠ gen then (slotZ, false) else readT k x.1) := ⟨by unfold slotOf; rw [hff]; exact readS_readO _ _ _ _ _⟩
      have HS2 : Aside (Sat E wr (HP.rdisk y A * (HP.row 43 1 (.slice V k cV) k (ss.map Sl.val8) * (R * (HP.pt g (.cells #[.string fa, .string fb, .string fc, .string fd] 9) * q))))) := ⟨hS.perm (by ac_rfl)⟩
      clear hS hix hff
      go_wp2_with fail
      refine (rdisk_any E _ y A f i _ HBY.out HS2.out).mono ?_
      rintro e w3 ⟨Ar, nr, cr, er, X, rfl, hrl, hnc, hcm, hrb, hX, h3⟩
      obtain ⟨B, hB⟩ : ∃ B, B = readO A f i := ⟨_, rfl⟩
      rw [← hB] at hrl hrb hX HSL
      have H3 := Aside.mk (And.intro h3 (And.intro hrl (And.intro hrb hX)))
      clear h3 hrl hrb hX hB HS2 kc HBY
      go_wp2_with fail
      refine (ref_open E _ f i Ar B nr cr _ hf H3.out.2.1 hnc H3.out.2.2.1 (fun w h => H3.out.2.2.2 _ w _ h) H3.out.1).mono ?_
      rintro e w4 (⟨ho, rfl, h4⟩ | ⟨p2, G, vp, ho, rfl, h4⟩)
      · rw [ho] at HSL
        have HB : Aside (slotOf A name gen i k = (slotZ, false)) := ⟨HSL.out⟩
        clear ho H3 HSL
        have HX : Aside (Sat E w4 (HP.row 43 1 (.slice V k cV) k (ss.map Sl.val8) * (R * (HP.pt g (.cells #[.string fa, .string fb, .string fc, .string fd] 9) * (HP.rdisk y A * q))))) := ⟨h4.right.perm (by ac_rfl)⟩
        clear h4
        go_wp2_with (at_builtin; (refine wpList_append_new slBB5 rfl rfl (by rfl) (by rfl) HX.out rfl rfl (by unfold maxLen; omega) (by omega) (fun v6 w6 hw6 => ?_); obtain ⟨V6, c6, rfl, -, -⟩ := hw6.row_slice; have HW6 := Aside.mk hw6; clear hw6))
        have H6 : Aside (SlotsInv E y A name gen i q (HP.pt g (.cells #[.string fa, .string fb, .string fc, .string fd] 9)) (k + 1) (.slice V6 (k + 1) c6) w6) := ⟨slotsInv_bad hsl hso (.inl HB.out) hR HW6.out⟩
        have HN2 : Aside (bad + 1 = badN A name gen i (k + 1)) := ⟨by rw [HN.out]; exact (badN_bad (.inl HB.out)).symm⟩
        clear HX HW6 HN hR
        go_roundw
        case rel => exact ⟨k + 1, bad + 1, by omega, by push_cast; rfl, by push_cast; rfl, by omega, HN2, H6⟩
        case measure => first | (simp [intOf]; done) | (simp [intOf]; omega)
      · obtain ⟨hG1, hp2⟩ := openI_gen ho
        rw [ho] at HSL
        dsimp only at HSL
        obtain ⟨Ap, cp, rfl, hcp, hcmp⟩ := h4.row_slice
        clear ho H3
        by_cases hGg : (G : Int) = gen
        · have hGb : ((G : Int) == gen) = true := by rw [hGg]; simp
          rw [if_neg (by omega)] at HSL
          by_cases hk3 : k < 3
          · have hk32 : (k : Int) < 3 := by omega
            have hk33 : ((k : Int) == 3) = false := by rw [beq_eq_false_iff_ne]; omega
            have hk34 : ¬ (k : Int) = 3 := by omega
            by_cases hl5 : p2.length ≤ 105
            · have hl52 : (p2.length : Int) ≤ 105 := by omega
              have HB : Aside (slotOf A name gen i k = (slotI p2, true) ∧ (slotI p2).length = 106) := ⟨by
                rw [HSL.out]
                unfold readT
                rw [if_neg (by omega), List.take_of_length_le (by omega), decide_eq_true (by omega)], slotI_length (by omega)⟩
              have H4 : Aside (Sat E w4 (HP.row 5 1 (.slice Ap p2.length cp) p2.length (b8s p2) * (HP.row 43 1 (.slice V k cV) k (ss.map Sl.val8) * (R * (HP.pt g (.cells #[.string fa, .string fb, .string fc, .string fd] 9) * (HP.rdisk y A * q)))))) := ⟨(h4.perm (by ac_rfl : _ = X * (HP.row 5 1 (.slice Ap p2.length cp) p2.length (b8s p2) * (HP.row 43 1 (.slice V k cV) k (ss.map Sl.val8) * (R * (HP.pt g (.cells #[.string fa, .string fb, .string fc, .string fd] 9) * (HP.rdisk y A * q))))))).right⟩
              clear h4 HSL
              go_wp2_with fail
              refine (ref6_slot E _ Ap p2 p2.length cp _ rfl hl5 hcp (fun w h => h.row_cells) H4.out).mono ?_
              rintro e w5 ⟨vs, rfl, h5⟩
              have h6 : Sat E w5 (HP.row 5 1 vs 106 (b8s (slotI p2)) * (HP.row 43 1 (.slice V k cV) k (ss.map Sl.val8) * (R * (HP.pt g (.cells #[.string fa, .string fb, .string fc, .string fd] 9) * (HP.rdisk y A * q))))) := (h5.perm (by ac_rfl : _ = HP.row 5 1 (.slice Ap p2.length cp) p2.length (b8s p2) * (HP.row 5 1 vs 106 (b8s (slotI p2)) * (HP.row 43 1 (.slice V k cV) k (ss.map Sl.val8) * (R * (HP.pt g (.cells #[.string fa, .string fb, .string fc, .string fd] 9) * (HP.rdisk y A * q))))))).right
              clear h5 H4
              obtain ⟨AS, cS, rfl, hcS, hcmS⟩ := h6.row_slice
              have HSA : Aside (∃ a, AS = some a) := ⟨by
                obtain ⟨a, ha, -⟩ := h6.row_cells.at_ 0 (by rw [b8s_length, HB.out.2]; omega)
                exact ⟨a, ha⟩⟩
              have HX : Aside (Sat E w5 (HP.row 43 1 (.slice V k cV) k (ss.map Sl.val8) * ((HP.row 5 1 (.slice AS 106 cS) 106 (b8s (slotI p2)) * R) * (HP.pt g (.cells #[.string fa, .string fb, .string fc, .string fd] 9) * (HP.rdisk y A * q))))) := ⟨h6.perm (by ac_rfl)⟩
              clear h6
              go_wp2_with (at_builtin; (refine wpList_append_new slBB5 rfl rfl (by rfl) (by rfl) HX.out rfl rfl (by unfold maxLen; omega) (by omega) (fun v6 w6 hw6 => ?_); obtain ⟨V6, c6, rfl, -, -⟩ := hw6.row_slice; have HW6 := Aside.mk hw6; clear hw6))
              have H6 : Aside (SlotsInv E y A name gen i q (HP.pt g (.cells #[.string fa, .string fb, .string fc, .string fd] 9)) (k + 1) (.slice V6 (k + 1) c6) w6) := ⟨slotsInv_good hsl hso HB.out.1 HB.out.2 ⟨hcS, hcmS⟩ HSA.out hR HW6.out⟩
              have HN2 : Aside (bad = badN A name gen i (k + 1)) := ⟨by rw [HN.out]; exact (badN_good HB.out.1).symm⟩
              clear HX HW6 HN hR
              go_roundw
              case rel => exact ⟨k + 1, bad, by omega, by push_cast; rfl, by push_cast; rfl, by omega, HN2, H6⟩
              case measure => first | (simp [intOf]; done) | (simp [intOf]; omega)
            · have hl52 : (p2.length : Int) = 106 := by omega
              have HB : Aside ((slotOf A name gen i k).2 = false) := ⟨by
                rw [HSL.out]
                unfold readT
                rw [if_neg (by omega)]
                exact decide_eq_false (by omega)⟩
              clear HSL
              have HX : Aside (Sat E w4 (HP.row 43 1 (.slice V k cV) k (ss.map Sl.val8) * (R * (HP.pt g (.cells #[.string fa, .string fb, .string fc, .string fd] 9) * (HP.rdisk y A * q))))) := ⟨h4.right.right.perm (by ac_rfl)⟩
              clear h4
              go_wp2_with (at_builtin; (refine wpList_append_new slBB5 rfl rfl (by rfl) (by rfl) HX.out rfl rfl (by unfold maxLen; omega) (by omega) (fun v6 w6 hw6 => ?_); obtain ⟨V6, c6, rfl, -, -⟩ := hw6.row_slice; have HW6 := Aside.mk hw6; clear hw6))
              have H6 : Aside (SlotsInv E y A name gen i q (HP.pt g (.cells #[.string fa, .string fb, .string fc, .string fd] 9)) (k + 1) (.slice V6 (k + 1) c6) w6) := ⟨slotsInv_bad hsl hso (.inr HB.out) hR HW6.out⟩
              have HN2 : Aside (bad + 1 = badN A name gen i (k + 1)) := ⟨by rw [HN.out]; exact (badN_bad (.inr HB.out)).symm⟩
              clear HX HW6 HN hR
              go_roundw
              case rel => exact ⟨k + 1, bad + 1, by omega, by push_cast; rfl, by push_cast; rfl, by omega, HN2, H6⟩
              case measure => first | (simp [intOf]; done) | (simp [intOf]; omega)
          · obtain rfl : k = 3 := by omega
            by_cases hl6 : p2.length = 106
            · have hl62 : (p2.length : Int) = 106 := by omega
              have hl63 : ((p2.length : Int) == 106) = true := by rw [hl62]; rfl
              have HB : Aside (slotOf A name gen i 3 = (p2, true) ∧ p2.length = 106) := ⟨by
                rw [HSL.out]
                unfold readT
                rw [if_pos rfl, hl6, Nat.sub_self, List.replicate_zero, List.append_nil]
                rfl, hl6⟩
              have h6 : Sat E w4 (HP.row 5 1 (.slice Ap p2.length cp) p2.length (b8s p2) * (HP.row 43 1 (.slice V 3 cV) 3 (ss.map Sl.val8) * (R * (HP.pt g (.cells #[.string fa, .string fb, .string fc, .string fd] 9) * (HP.rdisk y A * q))))) := (h4.perm (by ac_rfl : _ = X * (HP.row 5 1 (.slice Ap p2.length cp) p2.length (b8s p2) * (HP.row 43 1 (.slice V 3 cV) 3 (ss.map Sl.val8) * (R * (HP.pt g (.cells #[.string fa, .string fb, .string fc, .string fd] 9) * (HP.rdisk y A * q))))))).right
              clear h4 HSL hl6
              skip
              have HSA : Aside (∃ a, Ap = some a) := ⟨by
                obtain ⟨a, ha, -⟩ := h6.row_cells.at_ 0 (by rw [b8s_length, HB.out.2]; omega)
                exact ⟨a, ha⟩⟩
              have HX : Aside (Sat E w4 (HP.row 43 1 (.slice V 3 cV) 3 (ss.map Sl.val8) * ((HP.row 5 1 (.slice Ap p2.length cp) p2.length (b8s p2) * R) * (HP.pt g (.cells #[.string fa, .string fb, .string fc, .string fd] 9) * (HP.rdisk y A * q))))) := ⟨h6.perm (by ac_rfl)⟩
              clear h6
              go_wp2_with (at_builtin; (refine wpList_append_new slBB5 rfl rfl (by rfl) (by rfl) HX.out rfl rfl (by unfold maxLen; omega) (by omega) (fun v6 w6 hw6 => ?_); obtain ⟨V6, c6, rfl, -, -⟩ := hw6.row_slice; have HW6 := Aside.mk hw6; clear hw6))
              have H6 : Aside (SlotsInv E y A name gen i q (HP.pt g (.cells #[.string fa, .string fb, .string fc, .string fd] 9)) (3 + 1) (.slice V6 (3 + 1) c6) w6) := ⟨slotsInv_good hsl hso HB.out.1 rfl ⟨hcp, hcmp⟩ HSA.out hR HW6.out⟩
              have HN2 : Aside (bad = badN A name gen i (3 + 1)) := ⟨by rw [HN.out]; exact (badN_good HB.out.1).symm⟩
              clear HX HW6 HN hR
              go_roundw
              case rel => exact ⟨3 + 1, bad, by omega, by push_cast; rfl, by push_cast; rfl, by omega, HN2, H6⟩
              case measure => first | (simp [intOf]; done) | (simp [intOf]; omega)
            · have hl62 : ¬ (p2.length : Int) = 106 := by omega
              have hl63 : ((p2.length : Int) == 106) = false := by rw [beq_eq_false_iff_ne]; exact hl62
              have HB : Aside ((slotOf A name gen i 3).2 = false) := ⟨by
                rw [HSL.out]
                unfold readT
                rw [if_pos rfl]
                exact decide_eq_false (by omega)⟩
              clear HSL
              have HX : Aside (Sat E w4 (HP.row 43 1 (.slice V 3 cV) 3 (ss.map Sl.val8) * (R * (HP.pt g (.cells #[.string fa, .string fb, .string fc, .string fd] 9) * (HP.rdisk y A * q))))) := ⟨h4.right.right.perm (by ac_rfl)⟩
              clear h4
              go_wp2_with (at_builtin; (refine wpList_append_new slBB5 rfl rfl (by rfl) (by rfl) HX.out rfl rfl (by unfold maxLen; omega) (by omega) (fun v6 w6 hw6 => ?_); obtain ⟨V6, c6, rfl, -, -⟩ := hw6.row_slice; have HW6 := Aside.mk hw6; clear hw6))
              have H6 : Aside (SlotsInv E y A name gen i q (HP.pt g (.cells #[.string fa, .string fb, .string fc, .string fd] 9)) (3 + 1) (.slice V6 (3 + 1) c6) w6) := ⟨slotsInv_bad hsl hso (.inr HB.out) hR HW6.out⟩
              have HN2 : Aside (bad + 1 = badN A name gen i (3 + 1)) := ⟨by rw [HN.out]; exact (badN_bad (.inr HB.out)).symm⟩
              clear HX HW6 HN hR
              go_roundw
              case rel => exact ⟨3 + 1, bad + 1, by omega, by push_cast; rfl, by push_cast; rfl, by omega, HN2, H6⟩
              case measure => first | (simp [intOf]; done) | (simp [intOf]; omega)
        · have hGb : ((G : Int) == gen) = false := by rw [beq_eq_false_iff_ne]; exact hGg
          rw [if_pos hGg] at HSL
          have HB : Aside (slotOf A name gen i k = (slotZ, false)) := ⟨HSL.out⟩
          clear HSL
          have HX : Aside (Sat E w4 (HP.row 43 1 (.slice V k cV) k (ss.map Sl.val8) * (R * (HP.pt g (.cells #[.string fa, .string fb, .string fc, .string fd] 9) * (HP.rdisk y A * q))))) := ⟨h4.right.right.perm (by ac_rfl)⟩
          clear h4
          go_wp2_with (at_builtin; (refine wpList_append_new slBB5 rfl rfl (by rfl) (by rfl) HX.out rfl rfl (by unfold maxLen; omega) (by omega) (fun v6 w6 hw6 => ?_); obtain ⟨V6, c6, rfl, -, -⟩ := hw6.row_slice; have HW6 := Aside.mk hw6; clear hw6))
          have H6 : Aside (SlotsInv E y A name gen i q (HP.pt g (.cells #[.string fa, .string fb, .string fc, .string fd] 9)) (k + 1) (.slice V6 (k + 1) c6) w6) := ⟨slotsInv_bad hsl hso (.inl HB.out) hR HW6.out⟩
          have HN2 : Aside (bad + 1 = badN A name gen i (k + 1)) := ⟨by rw [HN.out]; exact (badN_bad (.inl HB.out)).symm⟩
          clear HX HW6 HN hR
          go_roundw
          case rel => exact ⟨k + 1, bad + 1, by omega, by push_cast; rfl, by push_cast; rfl, by omega, HN2, H6⟩
          case measure => first | (simp [intOf]; done) | (simp [intOf]; omega)
    · obtain rfl : k = 4 := by omega
      have H9 : Aside (Sat E wr ((HP.row 43 1 (.slice V 4 cV) 4 (ss.map Sl.val8) * R) * (HP.rdisk y A * q))) := ⟨by
        rw [HP.mul_assoc]
        exact (hS.perm (by ac_rfl : _ = HP.pt g (.cells #[.string fa, .string fb, .string fc, .string fd] 9) * (HP.row 43 1 (.slice V 4 cV) 4 (ss.map Sl.val8) * (R * (HP.rdisk y A * q))))).right⟩
      have HN2 := Aside.mk HN.out.symm
      clear hS HN
      go_wp2
      go_ret2
      rw [HN2.out]
      refine ⟨V, cV, _, ss, rfl, hsl, hso, H9.out, fun w'' q' h => ?_⟩
      rw [HP.mul_assoc] at h
      exact ⟨h.row_cells, hR _ _ h.right⟩
end Go.Proofs.YtnpinegpajbkeaaGreatDoor
namespace Go.Proofs.YtnpinegpajbkeaaGreatDoor
open Go.RowKit HP
def othersOk (A : Dk) (x : ByteArray) (gen i : Int) (k : Nat) : Nat → Bool
  | 0 => true
  | j + 1 => othersOk A x gen i k j && (decide (j = k) || (slotOf A x gen i j).2)
def missOk (A : Dk) (x : ByteArray) (gen i : Int) (k : Nat) : Bool := othersOk A x gen i k 4 && (decide (k = 3) || fineS (missP A x gen i k))
def missEnd (E : Env) (q : HP) (A : Dk) (x : ByteArray) (gen i : Int) (k : Nat) (e : Ending) (w' : World) : Prop :=
  if missOk A x gen i k = true then ∃ g o c, e = .returned (.slice (some ⟨g, o, none⟩) 106 c) ∧ 106 ≤ c ∧ c ≤ maxLen ∧ Sat E w' (HP.row 5 1 (.slice (some ⟨g, o, none⟩) 106 c) 106 (b8s (missP A x gen i k)) * q)
  else e = .returned (.slice none 0 0) ∧ Sat E w' q
theorem othersOk_false {A : Dk} {x : ByteArray} {gen i : Int} {k j : Nat} : ∀ n, j < n → j ≠ k → (slotOf A x gen i j).2 = false → othersOk A x gen i k n = false
  | 0, h, _, _ => absurd h (Nat.not_lt_zero _)
  | n + 1, h, hne, hs => by
    unfold othersOk
    rcases Nat.lt_or_ge j n with h1 | h1
    · rw [othersOk_false n h1 hne hs, Bool.false_and]
    · obtain rfl : j = n := by omega
      rw [decide_eq_false hne, hs, Bool.false_or, Bool.and_false]
theorem xorLs_snoc (ls : List (List Int)) (s : List Int) : xorLs (ls ++ [s]) = zipX (xorLs ls) s := by
  unfold xorLs
  rw [List.foldl_append]
  rfl
set_option maxHeartbeats 8000000 in
set_option maxRecDepth 100000 in
theorem ref6_missing (E : Env) (q : HP) (A : Dk) (x : ByteArray) (gen i : Int) (V : Option Addr) (ss : List (Sl Int)) (k c : Nat) (w : World) (hk : k < 4) (hl : ss.length = 4) (hso : ∀ j s, ss[j]? = some s → SlotOk A x gen i j s) (hby : ∀ j, j < 4 → Bytes (slotsL A x gen i j))
    (hq : ∀ w, Sat E w q → Cells w V (ss.map Sl.val8) ∧ ∀ s ∈ ss, Cells w s.A (b8s s.l)) (hw : Sat E w q) :
    Calls Tryz.prog 73 #[.slice V 4 c, .int .i64 k] w (missEnd E q A x gen i k) := by
  have HME : Aside (∀ e w', missEnd E q A x gen i k e w' ↔ if (othersOk A x gen i k 4 && (decide (k = 3) || fineS (missP A x gen i k))) = true then ∃ g o c, e = .returned (.slice (some ⟨g, o, none⟩) 106 c) ∧ 106 ≤ c ∧ c ≤ maxLen ∧ Sat E w' (HP.row 5 1 (.slice (some ⟨g, o, none⟩) 106 c) 106 (b8s (missP A x gen i k)) * q)
    else e = .returned (.slice none 0 0) ∧ Sat E w' q) := ⟨fun e w' => Iff.rfl⟩
  have HQ := Aside.mk (And.intro hq (And.intro hl (And.intro hso hby)))
  have HMB : Aside (missP A x gen i k = xorO (slotsL A x gen i) k 4 ∧ (missP A x gen i k).length = 106 ∧ Bytes (missP A x gen i k)) := ⟨by
    refine ⟨rfl, xorO_length (slotsL_length A x gen i) k 4, ?_⟩
    unfold missP
    have h4 : xorO (slotsL A x gen i) k 4 = xorO (fun j => if j < 4 then slotsL A x gen i j else List.replicate 106 0) k 4 := xorO_ext k 4 fun j hj _ => by rw [if_pos hj]
    rw [h4]
    refine xorO_bytes (fun j => ?_) k 4
    split
    · rename_i h; exact hby j h
    · exact fun y hy => by rw [List.eq_of_mem_replicate hy]; omega⟩
  have nil28 : ∀ (w : World) (a : Option Addr) (n c n' c' : Nat), (binOp .eql 43 (.slice a n c) (.slice none n' c')).run Tryz.prog w = .ok (.bool a.isNone) w := fun w a n c n' c' => Lib.run_eql_slice_nil w _ _ a n c n' c' Tryz.underlying43
  have hk2 : (k : Int) < 4 := by omega
  have H0 := Aside.mk (hw.row_nil 43 1 none)
  clear hq hl hso hby hw
  go_enter Tryz.func73, Tryz.ntmps73
  go_wp2
  go_loopw [5, 13] (fun v5 v13 wr => ∃ (j : Nat) (os : List (Sl Int)), v13 = .int .i64 j ∧ j ≤ 4 ∧ Aside (os.length ≤ j ∧ (∀ s ∈ os, s ∈ ss ∧ s.l.length = 106) ∧ xorLs (os.map (·.l)) = xorO (slotsL A x gen i) k j ∧ othersOk A x gen i k j = true) ∧ Aside (Sat E wr (HP.row 43 1 v5 os.length (os.map Sl.val8) * q))) (fun _ x _ => 4 - (intOf x).toNat)
  case atStart => exact ⟨0, [], rfl, Nat.zero_le _, ⟨Nat.le_refl _, (fun s hs => by cases hs), rfl, rfl⟩, H0⟩
  case round =>
    clear H0
    obtain ⟨j, os, rfl, hj, HO, HS⟩ := hrel
    obtain ⟨V5, c5, rfl, hc5, hcm5⟩ := HS.out.row_slice
    have ho4 : os.length ≤ 4 := by have := HO.out.1; omega
    by_cases hlt : j < 4
    · have hjs : j < ss.length := by rw [HQ.out.2.1]; exact hlt
      obtain ⟨ap, rfl, hcx⟩ := (HQ.out.1 _ HS.out.right).1.at_ j (by rw [List.length_map]; exact hjs)
      rw [List.getElem_map] at hcx
      have hsj := List.getElem?_eq_getElem hjs
      obtain ⟨s, hs⟩ : ∃ s, s = ss[j] := ⟨_, rfl⟩
      have hsm : s ∈ ss := by rw [hs]; exact List.getElem_mem hjs
      rw [← hs] at hcx hsj
      have hok := HQ.out.2.2.1 j s hsj
      have hlt2 : (j : Int) < 4 := by omega
      unfold Sl.val8 at hcx
      clear hs hsj hjs
      by_cases hjk : j = k
      · subst hjk
        have HO2 : Aside (os.length ≤ j + 1 ∧ (∀ s ∈ os, s ∈ ss ∧ s.l.length = 106) ∧ xorLs (os.map (·.l)) = xorO (slotsL A x gen i) j (j + 1) ∧ othersOk A x gen i j (j + 1) = true) := ⟨by
          refine ⟨by have := HO.out.1; omega, HO.out.2.1, ?_, ?_⟩
          · conv => rhs; unfold xorO
            rw [if_pos rfl]; exact HO.out.2.2.1
          · unfold othersOk
            rw [decide_eq_true rfl, HO.out.2.2.2]; rfl⟩
        clear HO hok hsm
        go_wp2
        go_roundw
        case rel => exact ⟨j + 1, os, by push_cast; rfl, by omega, HO2, HS⟩
        case measure => simp [intOf]; omega
      · have hjk2 : ¬ (j : Int) = (k : Int) := by omega
        have hjk3 : ((j : Int) == (k : Int)) = false := by rw [beq_eq_false_iff_ne]; exact hjk2
        cases hr : (slotOf A x gen i j).2 with
        | false =>
          have hsn := hok.wrong hr
          subst hsn
          have HE : Aside (othersOk A x gen i k 4 = false) := ⟨othersOk_false 4 hlt hjk hr⟩
          have HS9 := Aside.mk HS.out.right
          dsimp only at hcx
          clear HO hok hsm HS hr
          go_wp2
          go_ret
          rw [HME.out, HE.out, Bool.false_and, if_neg (by decide)]
          exact ⟨rfl, HS9.out⟩
        | true =>
          obtain ⟨hsl, ⟨a, hsa⟩, -, -⟩ := hok.right hr
          obtain ⟨SA, sn, X⟩ := s
          dsimp only at hcx hsl hsa
          subst hsa
          have hXl : X.length = 106 := by rw [hsl]; exact readS_length _ _ _ _ _
          have HO2 : Aside ((os ++ [(⟨some a, sn, X⟩ : Sl Int)]).length ≤ j + 1 ∧ (∀ s ∈ os ++ [(⟨some a, sn, X⟩ : Sl Int)], s ∈ ss ∧ s.l.length = 106) ∧ xorLs ((os ++ [(⟨some a, sn, X⟩ : Sl Int)]).map (·.l)) = xorO (slotsL A x gen i) k (j + 1) ∧ othersOk A x gen i k (j + 1) = true) := ⟨by
            refine ⟨by rw [List.length_append, List.length_singleton]; have := HO.out.1; omega, fun s hs => ?_, ?_, ?_⟩
            · rcases List.mem_append.1 hs with hs | hs
              · exact HO.out.2.1 s hs
              · rw [List.mem_singleton.1 hs]; exact ⟨hsm, hXl⟩
            · conv => rhs; unfold xorO
              rw [if_neg hjk, List.map_append, List.map_cons, List.map_nil, xorLs_snoc, HO.out.2.2.1, hsl]
              rfl
            · unfold othersOk
              rw [HO.out.2.2.2, hr, Bool.or_true]; rfl⟩
          rw [hXl] at hcx
          have HXL := Aside.mk hXl
          clear HO hok hsm hr hsl hXl
          go_wp2_with (at_builtin; (refine wpList_append_new slBB5 rfl rfl (by rfl) (by rfl) HS.out rfl rfl (by unfold maxLen; omega) (by omega) (fun v6 w6 hw6 => ?_); obtain ⟨V6, c6, rfl, -, -⟩ := hw6.row_slice; have HW6 := Aside.mk hw6; clear hw6))
          have H6 : Aside (Sat E w6 (HP.row 43 1 (.slice V6 (os.length + 1) c6) (os ++ [(⟨some a, sn, X⟩ : Sl Int)]).length ((os ++ [(⟨some a, sn, X⟩ : Sl Int)]).map Sl.val8) * q)) := ⟨by
            have h := HW6.out
            rw [List.length_append, List.map_append, List.map_cons, List.map_nil]
            unfold Sl.val8 at h ⊢
            rw [HXL.out]
            exact h⟩
          clear HW6 HS
          go_roundw
          case rel => exact ⟨j + 1, os ++ [(⟨some a, sn, X⟩ : Sl Int)], by push_cast; rfl, by omega, HO2, H6⟩
          case measure => simp [intOf]; omega
    · obtain rfl : j = 4 := by omega
      go_wp2_with fail
      refine (ref6_xor E _ V5 os os.length c5 _ rfl ho4 (fun s hs => (HO.out.2.1 s hs).2) (fun w h => ⟨h.row_cells, fun s hs => (HQ.out.1 _ h.right).2 s (HO.out.2.1 s hs).1⟩) HS.out).mono ?_
      rintro e w7 ⟨v7, rfl, h7⟩
      rw [HO.out.2.2.1, ← HMB.out.1] at h7
      obtain ⟨A7, c7, rfl, hc7, hcm7⟩ := h7.row_slice
      have h8 : Sat E w7 (HP.row 5 1 (.slice A7 106 c7) 106 (b8s (missP A x gen i k)) * q) := (h7.perm (by ac_rfl : _ = HP.row 43 1 (.slice V5 os.length c5) os.length (os.map Sl.val8) * (HP.row 5 1 (.slice A7 106 c7) 106 (b8s (missP A x gen i k)) * q))).right
      obtain ⟨g, o, rfl⟩ : ∃ g o, A7 = some ⟨g, o, none⟩ := by
        have h1 := h8.row_cells
        obtain ⟨a, ha, -⟩ := h1.at_ 0 (by rw [b8s_length, HMB.out.2.1]; omega)
        obtain ⟨gs, os, rfl⟩ := slice_addr h1 ha (k := 0) (by rw [b8s_length, HMB.out.2.1]; omega)
        exact ⟨gs, os, ha⟩
      have HOK := Aside.mk HO.out.2.2.2
      have H8 := Aside.mk h8
      clear h7 h8 HO HS
      unfold maxLen at hcm7
      by_cases hk3 : k = 3
      · have hk32 : (k : Int) = 3 := by omega
        have HE : Aside ((othersOk A x gen i k 4 && (decide (k = 3) || fineS (missP A x gen i k))) = true) := ⟨by rw [HOK.out, decide_eq_true hk3]; rfl⟩
        clear hk3
        go_wp2
        go_ret
        rw [HME.out, if_pos HE.out]
        exact ⟨g, o, c7, rfl, hc7, by unfold maxLen; omega, H8.out⟩
      · have hk32 : ¬ (k : Int) = 3 := by omega
        have hk33 : ((k : Int) == 3) = false := by rw [beq_eq_false_iff_ne]; exact hk32
        obtain ⟨S, hSe⟩ : ∃ S, S = missP A x gen i k := ⟨_, rfl⟩
        rw [← hSe] at HMB H8
        have HSE := Aside.mk hSe
        have hSl := HMB.out.2.1
        have hx0 := getD_byte HMB.out.2.2 0
        have hhd : S.headD 0 = S.getD 0 0 := by cases S <;> rfl
        obtain ⟨s0, hs0⟩ : ∃ s0 : Nat, (s0 : Int) = S.getD 0 0 := ⟨(S.getD 0 0).toNat, by omega⟩
        have hs255 : s0 ≤ 255 := by omega
        have g8 : w7.cell? ⟨g, o, none⟩ = some (.int .u8 (s0 : Int)) := by
          have h := H8.out.row_cell 0 (.int .u8 (S.getD 0 0)) (by
            unfold b8s
            rw [List.getElem?_map, List.getElem?_eq_getElem (by rw [hSl]; omega), List.getD_eq_getElem?_getD, List.getElem?_eq_getElem (by rw [hSl]; omega)]
            rfl)
          rw [hs0]
          exact h
        have HFI : Aside ((othersOk A x gen i k 4 && (decide (k = 3) || fineS (missP A x gen i k))) = (decide (s0 ≤ 105) && (S.drop (1 + s0)).all fun x => decide (x = 0))) := ⟨by
          rw [HOK.out, decide_eq_false hk3, Bool.true_and, Bool.false_or, ← HSE.out]
          unfold fineS
          rw [hhd, ← hs0, Int.toNat_natCast]
          congr 1
          exact decide_eq_decide.2 (by omega)⟩
        have HSL := Aside.mk hSl
        clear hSe hSl hx0 hhd hs0 hk3
        by_cases h105 : s0 ≤ 105
        · have h105b : ¬ (105 : Int) < (s0 : Int) := by omega
          rw [decide_eq_true h105, Bool.true_and] at HFI
          obtain ⟨sh, hsh⟩ : ∃ sh, sh = (if c7 = 1 + s0 then o else o + (1 + s0)) := ⟨_, rfl⟩
          have hc7s : 1 + s0 ≤ 106 := by omega
          by_cases hc : c7 = 1 + s0
          · have h5 : s0 = 105 := by omega
            subst h5
            have hc6 : c7 = 106 := by omega
            subst hc6
            have HAL : Aside (((S.drop (1 + 105)).all fun x => decide (x = 0)) = true) := ⟨by rw [List.drop_of_length_le (by rw [HSL.out]; omega)]; rfl⟩
            clear hsh hc
            go_wp2
            go_loopw [45] (fun v45 wr => v45 = .int .i64 0 ∧ Aside (Sat E wr (HP.row 5 1 (.slice (some ⟨g, o, none⟩) 106 106) 106 (b8s S) * q))) (fun x _ => 0)
            case atStart => exact ⟨rfl, H8⟩
            case round =>
              obtain ⟨rfl, HT⟩ := hrel
              go_wp2
              go_ret
              rw [HME.out, HFI.out, HAL.out, if_pos rfl, ← HSE.out]
              exact ⟨g, o, 106, rfl, Nat.le_refl _, by unfold maxLen; omega, HT.out⟩
          · obtain ⟨m, hm⟩ : ∃ m, 106 = 1 + s0 + m := ⟨105 - s0, by omega⟩
            have hm2 : m ≤ 105 := by omega
            have HM := Aside.mk hm
            have e1 : (106 : Int) - (1 + (s0 : Int)) = (m : Int) := by omega
            have e2 : 106 - (1 + s0) = m := by omega
            clear hsh hm
            go_wp2
            go_loopw [45] (fun v45 wr => ∃ t : Nat, v45 = .int .i64 t ∧ t ≤ m ∧ Aside (∀ y ∈ (S.drop (1 + s0)).take t, y = 0) ∧ Aside (Sat E wr (HP.row 5 1 (.slice (some ⟨g, o, none⟩) 106 c7) 106 (b8s S) * q))) (fun x _ => m - (intOf x).toNat)
            case atStart => exact ⟨0, rfl, Nat.zero_le _, ⟨fun y hy => by simp at hy⟩, H8⟩
            case round =>
              obtain ⟨t, rfl, ht, HZ, HT⟩ := hrel
              by_cases htm : t < m
              · have htm2 : (t : Int) < (m : Int) := by omega
                have htl : 1 + s0 + t < S.length := by rw [HSL.out]; have := HM.out; omega
                have hy := List.getElem?_eq_getElem htl
                obtain ⟨y, hye⟩ : ∃ y, y = S[1 + s0 + t] := ⟨_, rfl⟩
                rw [← hye] at hy
                have gy : wr.cell? ⟨g, o + (1 + s0) + t, none⟩ = some (.int .u8 y) := by
                  have h := HT.out.row_cell (1 + s0 + t) (.int .u8 y) (by unfold b8s; rw [List.getElem?_map, hy]; rfl)
                  rwa [show o + (1 + s0) + t = o + (1 + s0 + t) by omega]
                have HY : Aside ((S.drop (1 + s0)).take (t + 1) = (S.drop (1 + s0)).take t ++ [y] ∧ y ∈ S.drop (1 + s0)) := ⟨by
                  have h2 : (S.drop (1 + s0))[t]? = some y := by rw [List.getElem?_drop]; exact hy
                  exact ⟨by rw [List.take_add_one, h2]; rfl, List.mem_of_getElem? h2⟩⟩
                clear hye hy htl
                by_cases hz : y = 0
                · subst hz
                  have HZ2 : Aside (∀ y ∈ (S.drop (1 + s0)).take (t + 1), y = 0) := ⟨fun y hy => by
                    rw [HY.out.1] at hy
                    rcases List.mem_append.1 hy with hy | hy
                    · exact HZ.out y hy
                    · exact List.mem_singleton.1 hy⟩
                  clear HZ HY
                  go_wp2
                  go_roundw
                  case rel => exact ⟨t + 1, by push_cast; rfl, by omega, HZ2, HT⟩
                  case measure => simp [intOf]; omega
                · have hz2 : (y == 0) = false := by rw [beq_eq_false_iff_ne]; exact hz
                  have HAL : Aside (((S.drop (1 + s0)).all fun x => decide (x = 0)) = false) := ⟨by
                    rw [← Bool.not_eq_true, List.all_eq_true]
                    intro h
                    exact hz (of_decide_eq_true (h y HY.out.2))⟩
                  go_wp2
                  go_ret
                  rw [HME.out, HFI.out, HAL.out, if_neg (by decide)]
                  exact ⟨rfl, HT.out.right⟩
              · obtain rfl : t = m := by omega
                have HAL : Aside (((S.drop (1 + s0)).all fun x => decide (x = 0)) = true) := ⟨by
                  rw [List.all_eq_true]
                  intro y hy
                  refine decide_eq_true (HZ.out y ?_)
                  rw [List.take_of_length_le (by rw [List.length_drop, HSL.out]; have := HM.out; omega)]
                  exact hy⟩
                go_wp2
                go_ret
                rw [HME.out, HFI.out, HAL.out, if_pos rfl, ← HSE.out]
                exact ⟨g, o, c7, rfl, hc7, by unfold maxLen; omega, HT.out⟩
        · have h105b : (105 : Int) < (s0 : Int) := by omega
          rw [decide_eq_false h105, Bool.false_and] at HFI
          go_wp2
          go_ret
          rw [HME.out, HFI.out, if_neg (by decide)]
          exact ⟨rfl, H8.out.right⟩
theorem others_bad {A : Dk} {x : ByteArray} {gen i : Int} {k : Nat} (hk : k < 4) (hr : (slotOf A x gen i k).2 = false) : othersOk A x gen i k 4 = decide (¬ 1 < badN A x gen i 4) := by
  have b : ∀ j, (slotOf A x gen i j).2 = true ∨ (slotOf A x gen i j).2 = false := fun j => by cases (slotOf A x gen i j).2 <;> simp
  have hc : k = 0 ∨ k = 1 ∨ k = 2 ∨ k = 3 := by omega
  rcases hc with h | h | h | h <;> subst h <;> rcases b 0 with h0 | h0 <;> rcases b 1 with h1 | h1 <;> rcases b 2 with h2 | h2 <;> rcases b 3 with h3 | h3 <;> simp_all [othersOk, badN]
theorem atF_wrong {A : Dk} {x : ByteArray} {gen i : Int} {k : Nat} (hk : k < 4) (hr : (slotOf A x gen i k).2 = false) : (atF A x gen i k).2 = missOk A x gen i k ∧ (missOk A x gen i k = true → (atF A x gen i k).1 = missP A x gen i k) := by
  unfold atF missOk
  rw [if_neg (by rw [hr]; decide), others_bad hk hr]
  by_cases hb : 1 < badN A x gen i 4
  · rw [if_pos hb, decide_eq_false (by omega)]
    exact ⟨rfl, fun h => by cases h⟩
  · rw [if_neg hb, decide_eq_true hb]
    exact ⟨rfl, fun _ => rfl⟩
def partS (S : List Int) : List Int := (S.drop 1).take (S.headD 0).toNat
def readEnd6 (E : Env) (q : HP) (at_ : List Int × Bool) (e : Ending) (w' : World) : Prop :=
  ∃ A' m c' X, e = .returned (.slice A' m c') ∧ m ≤ c' ∧ c' ≤ maxLen ∧ Sat E w' (X * q) ∧ (at_.2 = true → (partS at_.1).length = m ∧ ∀ w'' q', Sat E w'' (X * q') → Cells w'' A' (b8s (partS at_.1))) ∧ (at_.2 = false → A' = none) ∧ (A' = none → m = 0)
theorem badN_four (A : Dk) (x : ByteArray) (gen i : Int) : badN A x gen i 4 = (if (slotOf A x gen i 0).2 = true then 0 else 1) + (if (slotOf A x gen i 1).2 = true then 0 else 1) + (if (slotOf A x gen i 2).2 = true then 0 else 1) + (if (slotOf A x gen i 3).2 = true then 0 else 1) := by
  simp only [badN]; omega
theorem badN_zero {A : Dk} {x : ByteArray} {gen i : Int} : badN A x gen i 4 = 0 → ∀ j, j < 4 → (slotOf A x gen i j).2 = true := by
  intro h j hj
  rw [badN_four] at h
  have hc : j = 0 ∨ j = 1 ∨ j = 2 ∨ j = 3 := by omega
  by_cases a0 : (slotOf A x gen i 0).2 = true <;> by_cases a1 : (slotOf A x gen i 1).2 = true <;> by_cases a2 : (slotOf A x gen i 2).2 = true <;> by_cases a3 : (slotOf A x gen i 3).2 = true <;> simp [a0, a1, a2, a3] at h
  rcases hc with rfl | rfl | rfl | rfl <;> assumption
theorem badN_one {A : Dk} {x : ByteArray} {gen i : Int} {k : Nat} (hk : k < 4) (hb : ¬ 1 < badN A x gen i 4) (hr : (slotOf A x gen i k).2 = false) : ∀ j, j < 4 → j ≠ k → (slotOf A x gen i j).2 = true := by
  intro j hj hne
  rw [badN_four] at hb
  have hc : j = 0 ∨ j = 1 ∨ j = 2 ∨ j = 3 := by omega
  have hd : k = 0 ∨ k = 1 ∨ k = 2 ∨ k = 3 := by omega
  rcases hd with h | h | h | h <;> subst h <;> rcases hc with h | h | h | h <;> subst h <;> (first | exact absurd rfl hne | (cases h1 : (slotOf A x gen i _).2 with | true => rfl | false => simp [hr, h1] at hb; (try omega)))
def RMend (E : Env) (q : HP) (y : Nat) (A : Dk) (name : ByteArray) (gen i : Int) (R : HP) (k : Nat) (w : World) : Prop :=
  ((∀ j, j < k → (slotOf A name gen i j).2 = true) ∧ Sat E w (R * (HP.rdisk y A * q))) ∨
  (∃ B, (∀ j, k ≤ j → j < 4 → (slotOf A name gen i j).2 = true) ∧ mendK A name gen i (firstBad A name gen i) = ((true, 0), B) ∧ Sat E w (R * (HP.rdisk y B * q)))
set_option maxHeartbeats 8000000 in
set_option maxRecDepth 100000 in
theorem ref6_mend_arg (E : Env) (q : HP) (y : Nat) (A : Dk) (name : ByteArray) (gen i : Int) (w : World) (hi64 : wf64 i) (hi : i < 0 ∨ 2147483647 < i) (hw : Sat E w (HP.rdisk y A * q)) :
    Calls Tryz.prog 17 #[.pointer (some ⟨y, 0, none⟩), .string name, .int .i64 gen, .int .i64 i] w fun e w' => e = .returned (.tuple #[.bool false, .int .i64 1]) ∧ Sat E w' (HP.rdisk y A * q) := by
  have H := Aside.mk hw
  have hd : i < 0 ∨ (¬ i < 0 ∧ 2147483647 < i) := by omega
  clear hw hi
  rcases hd with h0 | ⟨h0, h1⟩
  all_goals
    go_enter Tryz.func17, Tryz.ntmps17
    go_wp2
    go_ret2
    exact ⟨rfl, H.out⟩
set_option maxHeartbeats 8000000 in
set_option maxRecDepth 100000 in
theorem ref6_mend (E : Env) (q : HP) (y : Nat) (A : Dk) (name : ByteArray) (gen i : Int) (w : World) (hname : name.size + 2 ≤ maxLen) (hi64 : wf64 i) (hby : ∀ k, k < 4 → ∀ (i : Int) c, A.cel (stripeF name k) i = some c → Bytes c.read) (hbs : ∀ (i : Int) j, j < 4 → Bytes (slotsL A name gen i j)) (hw : Sat E w (HP.rdisk y A * q)) :
    Calls Tryz.prog 17 #[.pointer (some ⟨y, 0, none⟩), .string name, .int .i64 gen, .int .i64 i] w fun e w' => e = .returned (.tuple #[.bool (mendS A name gen i).1.1, .int .i64 (mendS A name gen i).1.2]) ∧ Sat E w' (HP.rdisk y (mendS A name gen i).2 * q) := by
  by_cases hi : i < 0 ∨ 2147483647 < i
  · have e : mendS A name gen i = ((false, 1), A) := by unfold mendS; rw [if_pos hi]
    rw [e]
    exact ref6_mend_arg E q y A name gen i w hi64 hi hw
  have HM : Aside (mendS A name gen i = mendK A name gen i (firstBad A name gen i)) := ⟨by unfold mendS; rw [if_neg hi]⟩
  generalize mendS A name gen i = RES at *
  have nil28 : ∀ (w : World) (a : Option Addr) (n c n' c' : Nat), (binOp .eql 43 (.slice a n c) (.slice none n' c')).run Tryz.prog w = .ok (.bool a.isNone) w := fun w a n c n' c' => Lib.run_eql_slice_nil w _ _ a n c n' c' Tryz.underlying43
  have nnil28 : ∀ (w : World) (a : Option Addr) (n c n' c' : Nat), (binOp .neq 43 (.slice a n c) (.slice none n' c')).run Tryz.prog w = .ok (.bool (!a.isNone)) w := fun w a n c n' c' => run_neq_slice_nil_any w _ _ a n c n' c' Tryz.underlying43
  have HQ := Aside.mk (And.intro hby (And.intro (hbs i) hw))
  have HNM := Aside.mk hname
  have i0 : ¬ i < 0 := fun h => hi (.inl h)
  have i1 : ¬ 2147483647 < i := fun h => hi (.inr h)
  clear hby hbs hw hname hi
  go_enter Tryz.func17, Tryz.ntmps17
  go_wp2_with fail
  refine (ref6_slots E q y A name gen i _ HNM.out (fun k hk c => HQ.out.1 k hk _ c) HQ.out.2.2).mono ?_
  rintro e1 w2 ⟨V, c, R, ss, rfl, hl, hso, h2, hR⟩
  have hV : ∃ gV oV, V = some ⟨gV, oV, none⟩ := by
    have hc2 := hR w2 _ h2
    obtain ⟨a, ha, -⟩ := hc2.1.at_ 0 (by rw [List.length_map]; omega)
    obtain ⟨gs, os, rfl⟩ := slice_addr hc2.1 ha (k := 0) (by rw [List.length_map]; omega)
    exact ⟨gs, os, ha⟩
  obtain ⟨gV, oV, rfl⟩ := hV
  have H2 := Aside.mk (And.intro h2 (And.intro hR (And.intro hl hso)))
  have hb4 := badN_le A name gen i 4
  clear h2 hR hso hl
  by_cases hb0 : badN A name gen i 4 = 0
  · have HM2 : Aside (RES = ((false, 0), A)) := ⟨by rw [HM.out, firstBad_none (badN_zero hb0)]; rfl⟩
    have hb1 : ((badN A name gen i 4 : Nat) : Int) = 0 := by omega
    clear hb0
    go_wp2
    go_ret2
    rw [HM2.out]
    exact ⟨rfl, H2.out.1.right⟩
  · obtain ⟨bd, hbd⟩ : ∃ bd : Nat, bd = badN A name gen i 4 := ⟨_, rfl⟩
    have hb1 : ¬ ((badN A name gen i 4 : Nat) : Int) = 0 := by omega
    have hb2 : (((badN A name gen i 4 : Nat) : Int) == 0) = false := by rw [beq_eq_false_iff_ne]; exact hb1
    have HI : Aside (RMend E q y A name gen i R 0 w2) := ⟨.inl ⟨fun j hj => absurd hj (Nat.not_lt_zero _), H2.out.1⟩⟩
    go_wp2
    go_loopw [38] (fun v38 wr => ∃ k : Nat, v38 = .int .i64 k ∧ k ≤ 4 ∧ Aside (RMend E q y A name gen i R k wr)) (fun x _ => 4 - (intOf x).toNat)
    case atStart => exact ⟨0, rfl, Nat.zero_le _, HI⟩
    case round =>
      clear HI
      obtain ⟨k, rfl, hk, HR⟩ := hrel
      by_cases hlt : k < 4
      · have hks : k < ss.length := by rw [H2.out.2.2.1]; exact hlt
        obtain ⟨s, hs⟩ : ∃ s, ss[k]? = some s := ⟨_, List.getElem?_eq_getElem hks⟩
        have hok := H2.out.2.2.2 k s hs
        have hc2 : Cells wr (some ⟨gV, oV, none⟩) (ss.map Sl.val8) := by
          rcases HR.out with ⟨-, h⟩ | ⟨B, -, -, h⟩
          · exact (H2.out.2.1 _ _ h).1
          · exact (H2.out.2.1 _ _ h).1
        have kc : wr.cell? ⟨gV, oV + k, none⟩ = some (.slice s.A s.l.length s.cap) := by
          have := hc2.some_ k s.val8 (by rw [List.getElem?_map, hs]; rfl)
          rwa [addr_add] at this
        have hlt2 : (k : Int) < 4 := by omega
        have hk0 : (0 : Int) ≤ (k : Int) := by omega
        clear hs hks hc2
        cases hr : (slotOf A name gen i k).2 with
        | true =>
          obtain ⟨-, ⟨a, hsa⟩, -, -⟩ := hok.right hr
          rw [hsa] at kc
          have HR2 : Aside (RMend E q y A name gen i R (k + 1) wr) := ⟨by
            rcases HR.out with ⟨h1, h⟩ | ⟨B, h1, h3, h⟩
            · exact .inl ⟨fun j hj => by
                by_cases e : j = k
                · rw [e]; exact hr
                · exact h1 j (by omega), h⟩
            · exact .inr ⟨B, fun j hj hj4 => h1 j (by omega) hj4, h3, h⟩⟩
          clear HR hok hr hsa
          go_wp2
          go_roundw
          case rel => exact ⟨k + 1, by push_cast; rfl, by omega, HR2⟩
          case measure => simp [intOf]; omega
        | false =>
          have hsn := hok.wrong hr
          subst hsn
          dsimp only at kc
          have HR1 : Aside ((∀ j, j < k → (slotOf A name gen i j).2 = true) ∧ Sat E wr (R * (HP.rdisk y A * q))) := ⟨by
            rcases HR.out with h | ⟨B, h1, -, -⟩
            · exact h
            · have := h1 k (Nat.le_refl _) hlt
              rw [hr] at this; cases this⟩
          have HK : Aside (RES = if (atF A name gen i k).2 = true then mend1 A (stripeF name k) i.toNat gen.toNat (payI k (atF A name gen i k).1) else ((false, 50), A)) := ⟨by rw [HM.out, firstBad_at hlt HR1.out.1 hr]; rfl⟩
          have HAW := Aside.mk (atF_wrong (A := A) (x := name) (gen := gen) (i := i) (k := k) hlt hr)
          have HAM := Aside.mk (fun h => atF_miss (A := A) (x := name) (gen := gen) (i := i) (k := k) hlt hr h)
          have HOT := Aside.mk (others_bad (A := A) (x := name) (gen := gen) (i := i) (k := k) hlt hr)
          have HON := Aside.mk (fun h => badN_one (A := A) (x := name) (gen := gen) (i := i) (k := k) hlt h hr)
          have HAT := Aside.mk (And.intro (atF_length A name gen i k) (atF_byt (A := A) (x := name) (gen := gen) (i := i) (k := k) hlt HQ.out.2.1))
          have HFB := Aside.mk (firstBad_at hlt HR1.out.1 hr)
          clear HR hok hr
          go_wp2_with fail
          refine (ref6_missing E _ A name gen i (some ⟨gV, oV, none⟩) ss k c _ hlt H2.out.2.2.1 H2.out.2.2.2 HQ.out.2.1 (fun w h => H2.out.2.1 _ _ h) HR1.out.2).mono ?_
          intro e3 w3 h3
          unfold missEnd at h3
          by_cases hm : missOk A name gen i k = true
          · rw [if_pos hm] at h3
            obtain ⟨ga, oa, cp, rfl, hcap, hcapm, h4⟩ := h3
            have hat2 : (atF A name gen i k).2 = true := by rw [HAW.out.1]; exact hm
            obtain ⟨⟨hg0, hg1⟩, hh5⟩ := HAM.out hat2
            obtain ⟨S, hSe⟩ : ∃ S, S = (atF A name gen i k).1 := ⟨_, rfl⟩
            have hSm : missP A name gen i k = S := by rw [hSe, HAW.out.2 hm]
            rw [hSm] at h4
            rw [← hSe] at HAT hh5
            have HK2 : Aside (RES = mend1 A (stripeF name k) i.toNat gen.toNat (payI k S)) := ⟨by rw [HK.out, if_pos hat2, hSe]⟩
            have hb9 : ¬ 1 < badN A name gen i 4 := by
              have h1 : othersOk A name gen i k 4 = true := by unfold missOk at hm; rw [Bool.and_eq_true] at hm; exact hm.1
              rw [HOT.out] at h1
              exact of_decide_eq_true h1
            have hb91 : ¬ (1 : Int) < ((badN A name gen i 4 : Nat) : Int) := by omega
            have HON2 := Aside.mk (HON.out hb9)
            obtain ⟨gn, rfl⟩ : ∃ gn : Nat, gen = gn := ⟨gen.toNat, by omega⟩
            obtain ⟨ni, rfl⟩ : ∃ ni : Nat, i = ni := ⟨i.toNat, by omega⟩
            rw [Int.toNat_natCast, Int.toNat_natCast] at HK2
            have H4 := Aside.mk h4
            have hSl := HAT.out.1
            have hSb := HAT.out.2
            unfold maxLen at hcapm
            clear hat2 HAW HAM HOT HON HK hSm hSe hm h4 hb9 HFB
            by_cases hk3 : k < 3
            · have hk32 : (k : Int) < 3 := by omega
              have hx0 := getD_byte hSb 0
              have hhd : S.headD 0 = S.getD 0 0 := by cases S <;> rfl
              obtain ⟨s0, hs0⟩ : ∃ s0 : Nat, (s0 : Int) = S.getD 0 0 := ⟨(S.getD 0 0).toNat, by omega⟩
              have hs5 : s0 ≤ 105 := by have := hh5 (by omega); rw [hhd, ← hs0] at this; omega
              have g8 : w3.cell? ⟨ga, oa, none⟩ = some (.int .u8 (s0 : Int)) := by
                have h := H4.out.row_cell 0 (.int .u8 (S.getD 0 0)) (by
                  unfold b8s
                  rw [List.getElem?_map, List.getElem?_eq_getElem (by rw [hSl]; omega), List.getD_eq_getElem?_getD, List.getElem?_eq_getElem (by rw [hSl]; omega)]
                  rfl)
                rw [hs0]
                exact h
              have HPL : Aside ((payI k S).length = s0 ∧ Bytes (payI k S) ∧ ∀ w q', Sat E w (HP.row 5 1 (.slice (some ⟨ga, oa, none⟩) 106 cp) 106 (b8s S) * q') → Cells w (some ⟨ga, oa + 1, none⟩) (b8s (payI k S))) := ⟨by
                unfold payI
                rw [if_neg (by omega), hhd, ← hs0, Int.toNat_natCast]
                refine ⟨by rw [List.length_take, List.length_drop, hSl]; omega, fun x hx => hSb x (List.mem_of_mem_drop (List.mem_of_mem_take hx)), fun w q' h => ?_⟩
                have h1 := (h.row_cells.drop 1).take s0
                rw [addr_add] at h1
                unfold b8s at h1 ⊢
                rw [List.map_take, List.map_drop]
                exact h1⟩
              have hcp1 : 1 + s0 ≤ cp := by omega
              have hcp2 : ¬ cp = 1 := by omega
              have hcp4 : (1 : Int) + (s0 : Int) - 1 = (s0 : Int) := by omega
              clear hx0 hhd hs0 hh5 hSl hSb
              go_wp2_with fail
              refine (ref6_files E _ name _ HNM.out H4.out).mono ?_
              rintro e5 w5 ⟨gF, rfl, h5⟩
              obtain ⟨f, hf, hff, hix⟩ : ∃ f : ByteArray, f.size ≤ maxLen ∧ stripeF name k = f ∧ (#[Value.string (name ++ dot0), Value.string (name ++ dot1), Value.string (name ++ dot2), Value.string (name ++ dotP)] : Array Value)[k]? = some (.string f) := by
                have hd := dot_size name
                have hn := HNM.out
                have hc : k = 0 ∨ k = 1 ∨ k = 2 ∨ k = 3 := by omega
                rcases hc with h0 | h0 | h0 | h0 <;> subst h0
                · exact ⟨name ++ dot0, (by rw [hd.1]; exact hn), rfl, rfl⟩
                · exact ⟨name ++ dot1, (by rw [hd.2.1]; exact hn), rfl, rfl⟩
                · exact ⟨name ++ dot2, (by rw [hd.2.2.1]; exact hn), rfl, rfl⟩
                · exact ⟨name ++ dotP, (by rw [hd.2.2.2]; exact hn), rfl, rfl⟩
              have kf : w5.cell? ⟨gF, k, none⟩ = some (.string f) := by rw [h5.cell]; exact hix
              rw [hff] at HK2
              have H5 := Aside.mk h5
              clear h5 hix hff H4
              go_wp2_with fail
              refine (ref_frame E _ f ni gn (some ⟨ga, oa + 1, none⟩) (payI k S) _ _ _ hf (by omega) hg1 HPL.out.1 (by omega) HPL.out.2.1 (fun w h => HPL.out.2.2 _ _ h.right) H5.out).mono ?_
              rintro e6 w6 ⟨v6, rfl, h6⟩
              obtain ⟨A6, c6, rfl, hc6, hcm6⟩ := h6.row_slice
              have H6 : Aside (Sat E w6 (HP.rdisk y A * (HP.row 5 1 (.slice A6 128 c6) 128 (b8s (extI f ni gn (payI k S))) * (HP.pt gF (.cells #[.string (name ++ dot0), .string (name ++ dot1), .string (name ++ dot2), .string (name ++ dotP)] 9) * (HP.row 5 1 (.slice (some ⟨ga, oa, none⟩) 106 cp) 106 (b8s S) * (R * q)))))) := ⟨h6.perm (by ac_rfl)⟩
              have hpl := HPL.out.1
              have hel : (extI f ni gn (payI k S)).length = 128 := extI_length (by omega)
              unfold mend1 at HK2
              generalize extI f ni gn (payI k S) = X at *
              clear h6 H5 kf hpl HPL
              go_wp2_with fail
              refine (ref_write E _ y A f ni A6 X 128 c6 _ hf hel (by decide) (fun w h => h.row_cells) H6.out).mono ?_
              rintro e7 w7 ⟨rfl, h7⟩
              obtain ⟨c1, A1, hA1⟩ : ∃ c1 A1, A.write f ni X = (c1, A1) := ⟨_, _, rfl⟩
              rw [hA1] at h7 HK2 ⊢
              dsimp only at h7 HK2 ⊢
              have H7 := Aside.mk h7
              clear h7 hA1 H6
              by_cases hc1 : c1 = 0
              · subst hc1
                rw [if_pos rfl] at HK2
                go_wp2_with fail
                refine (ref_sync E _ y A1 f _ H7.out).mono ?_
                rintro e8 w8 ⟨rfl, h8⟩
                obtain ⟨c2, A2, hA2⟩ : ∃ c2 A2, A1.sync f = (c2, A2) := ⟨_, _, rfl⟩
                rw [hA2] at h8 HK2 ⊢
                dsimp only at h8 HK2 ⊢
                have H8 : Aside (Sat E w8 (R * (HP.rdisk y A2 * q))) := ⟨(h8.perm (by ac_rfl : _ = HP.row 5 1 (.slice A6 128 c6) 128 (b8s X) * (HP.pt gF (.cells #[.string (name ++ dot0), .string (name ++ dot1), .string (name ++ dot2), .string (name ++ dotP)] 9) * (HP.row 5 1 (.slice (some ⟨ga, oa, none⟩) 106 cp) 106 (b8s S) * (R * (HP.rdisk y A2 * q)))))).right.right.right⟩
                clear h8 hA2 H7
                by_cases hc2 : c2 = 0
                · subst hc2
                  have HR2 : Aside (RMend E q y A name gn ni R (k + 1) w8) := ⟨.inr ⟨A2, fun j hj hj4 => HON2.out j hj4 (by omega), by rw [← HM.out, HK2.out]; rfl, H8.out⟩⟩
                  clear HK2 H8
                  go_wp2
                  go_roundw
                  case rel => exact ⟨k + 1, by push_cast; rfl, by omega, HR2⟩
                  case measure => simp [intOf]; omega
                · have hc3 : (c2 == 0) = false := by rw [beq_eq_false_iff_ne]; exact hc2
                  rw [decide_eq_false hc2] at HK2
                  have HK3 := HK2
                  clear HK2
                  go_wp2
                  go_ret2
                  rw [HK3.out]
                  exact ⟨rfl, H8.out.right⟩
              · have hc3 : (c1 == 0) = false := by rw [beq_eq_false_iff_ne]; exact hc1
                rw [if_neg hc1] at HK2
                have HK3 := HK2
                have H9 : Aside (Sat E w7 (HP.rdisk y A1 * q)) := ⟨(H7.out.perm (by ac_rfl : _ = HP.row 5 1 (.slice A6 128 c6) 128 (b8s X) * (HP.pt gF (.cells #[.string (name ++ dot0), .string (name ++ dot1), .string (name ++ dot2), .string (name ++ dotP)] 9) * (HP.row 5 1 (.slice (some ⟨ga, oa, none⟩) 106 cp) 106 (b8s S) * (R * (HP.rdisk y A1 * q)))))).right.right.right.right⟩
                clear HK2 H7
                go_wp2
                go_ret2
                rw [HK3.out]
                exact ⟨rfl, H9.out⟩
            · have hk32 : ¬ (k : Int) < 3 := by omega
              have HPL : Aside ((payI k S).length = 106 ∧ Bytes (payI k S) ∧ ∀ w q', Sat E w (HP.row 5 1 (.slice (some ⟨ga, oa, none⟩) 106 cp) 106 (b8s S) * q') → Cells w (some ⟨ga, oa, none⟩) (b8s (payI k S))) := ⟨by
                unfold payI
                rw [if_pos (by omega)]
                exact ⟨hSl, hSb, fun w q' h => h.row_cells⟩⟩
              clear hh5 hSl hSb
              go_wp2_with fail
              refine (ref6_files E _ name _ HNM.out H4.out).mono ?_
              rintro e5 w5 ⟨gF, rfl, h5⟩
              obtain ⟨f, hf, hff, hix⟩ : ∃ f : ByteArray, f.size ≤ maxLen ∧ stripeF name k = f ∧ (#[Value.string (name ++ dot0), Value.string (name ++ dot1), Value.string (name ++ dot2), Value.string (name ++ dotP)] : Array Value)[k]? = some (.string f) := by
                have hd := dot_size name
                have hn := HNM.out
                have hc : k = 0 ∨ k = 1 ∨ k = 2 ∨ k = 3 := by omega
                rcases hc with h0 | h0 | h0 | h0 <;> subst h0
                · exact ⟨name ++ dot0, (by rw [hd.1]; exact hn), rfl, rfl⟩
                · exact ⟨name ++ dot1, (by rw [hd.2.1]; exact hn), rfl, rfl⟩
                · exact ⟨name ++ dot2, (by rw [hd.2.2.1]; exact hn), rfl, rfl⟩
                · exact ⟨name ++ dotP, (by rw [hd.2.2.2]; exact hn), rfl, rfl⟩
              have kf : w5.cell? ⟨gF, k, none⟩ = some (.string f) := by rw [h5.cell]; exact hix
              rw [hff] at HK2
              have H5 := Aside.mk h5
              clear h5 hix hff H4
              go_wp2_with fail
              refine (ref_frame E _ f ni gn (some ⟨ga, oa, none⟩) (payI k S) _ _ _ hf (by omega) hg1 HPL.out.1 (by omega) HPL.out.2.1 (fun w h => HPL.out.2.2 _ _ h.right) H5.out).mono ?_
              rintro e6 w6 ⟨v6, rfl, h6⟩
              obtain ⟨A6, c6, rfl, hc6, hcm6⟩ := h6.row_slice
              have H6 : Aside (Sat E w6 (HP.rdisk y A * (HP.row 5 1 (.slice A6 128 c6) 128 (b8s (extI f ni gn (payI k S))) * (HP.pt gF (.cells #[.string (name ++ dot0), .string (name ++ dot1), .string (name ++ dot2), .string (name ++ dotP)] 9) * (HP.row 5 1 (.slice (some ⟨ga, oa, none⟩) 106 cp) 106 (b8s S) * (R * q)))))) := ⟨h6.perm (by ac_rfl)⟩
              have hpl := HPL.out.1
              have hel : (extI f ni gn (payI k S)).length = 128 := extI_length (by omega)
              unfold mend1 at HK2
              generalize extI f ni gn (payI k S) = X at *
              clear h6 H5 kf hpl HPL
              go_wp2_with fail
              refine (ref_write E _ y A f ni A6 X 128 c6 _ hf hel (by decide) (fun w h => h.row_cells) H6.out).mono ?_
              rintro e7 w7 ⟨rfl, h7⟩
              obtain ⟨c1, A1, hA1⟩ : ∃ c1 A1, A.write f ni X = (c1, A1) := ⟨_, _, rfl⟩
              rw [hA1] at h7 HK2 ⊢
              dsimp only at h7 HK2 ⊢
              have H7 := Aside.mk h7
              clear h7 hA1 H6
              by_cases hc1 : c1 = 0
              · subst hc1
                rw [if_pos rfl] at HK2
                go_wp2_with fail
                refine (ref_sync E _ y A1 f _ H7.out).mono ?_
                rintro e8 w8 ⟨rfl, h8⟩
                obtain ⟨c2, A2, hA2⟩ : ∃ c2 A2, A1.sync f = (c2, A2) := ⟨_, _, rfl⟩
                rw [hA2] at h8 HK2 ⊢
                dsimp only at h8 HK2 ⊢
                have H8 : Aside (Sat E w8 (R * (HP.rdisk y A2 * q))) := ⟨(h8.perm (by ac_rfl : _ = HP.row 5 1 (.slice A6 128 c6) 128 (b8s X) * (HP.pt gF (.cells #[.string (name ++ dot0), .string (name ++ dot1), .string (name ++ dot2), .string (name ++ dotP)] 9) * (HP.row 5 1 (.slice (some ⟨ga, oa, none⟩) 106 cp) 106 (b8s S) * (R * (HP.rdisk y A2 * q)))))).right.right.right⟩
                clear h8 hA2 H7
                by_cases hc2 : c2 = 0
                · subst hc2
                  have HR2 : Aside (RMend E q y A name gn ni R (k + 1) w8) := ⟨.inr ⟨A2, fun j hj hj4 => HON2.out j hj4 (by omega), by rw [← HM.out, HK2.out]; rfl, H8.out⟩⟩
                  clear HK2 H8
                  go_wp2
                  go_roundw
                  case rel => exact ⟨k + 1, by push_cast; rfl, by omega, HR2⟩
                  case measure => simp [intOf]; omega
                · have hc3 : (c2 == 0) = false := by rw [beq_eq_false_iff_ne]; exact hc2
                  rw [decide_eq_false hc2] at HK2
                  have HK3 := HK2
                  clear HK2
                  go_wp2
                  go_ret2
                  rw [HK3.out]
                  exact ⟨rfl, H8.out.right⟩
              · have hc3 : (c1 == 0) = false := by rw [beq_eq_false_iff_ne]; exact hc1
                rw [if_neg hc1] at HK2
                have HK3 := HK2
                have H9 : Aside (Sat E w7 (HP.rdisk y A1 * q)) := ⟨(H7.out.perm (by ac_rfl : _ = HP.row 5 1 (.slice A6 128 c6) 128 (b8s X) * (HP.pt gF (.cells #[.string (name ++ dot0), .string (name ++ dot1), .string (name ++ dot2), .string (name ++ dotP)] 9) * (HP.row 5 1 (.slice (some ⟨ga, oa, none⟩) 106 cp) 106 (b8s S) * (R * (HP.rdisk y A1 * q)))))).right.right.right.right⟩
                clear HK2 H7
                go_wp2
                go_ret2
                rw [HK3.out]
                exact ⟨rfl, H9.out⟩
          · rw [if_neg hm] at h3
            obtain ⟨rfl, h4⟩ := h3
            have HKF : Aside (RES = ((false, 50), A)) := ⟨by rw [HK.out, if_neg (by rw [HAW.out.1]; exact hm)]⟩
            have H4 := Aside.mk h4.right
            clear h4 HAW HAM HOT HON HAT HFB HK
            by_cases hb9 : 1 < badN A name gen i 4
            · have hb91 : (1 : Int) < ((badN A name gen i 4 : Nat) : Int) := by omega
              go_wp2
              go_ret2
              rw [HKF.out]
              exact ⟨rfl, H4.out⟩
            · have hb91 : ¬ (1 : Int) < ((badN A name gen i 4 : Nat) : Int) := by omega
              go_wp2
              go_ret2
              rw [HKF.out]
              exact ⟨rfl, H4.out⟩
      · obtain rfl : k = 4 := by omega
        have HF : Aside (∃ B, RES = ((true, 0), B) ∧ Sat E wr (HP.rdisk y B * q)) := ⟨by
          rcases HR.out with ⟨h1, h⟩ | ⟨B, -, h3, h⟩
          · exfalso
            have := badN_zero (A := A) (x := name) (gen := gen) (i := i)
            rw [badN_four] at hb0
            simp [h1 0 (by omega), h1 1 (by omega), h1 2 (by omega), h1 3 (by omega)] at hb0
          · exact ⟨B, by rw [HM.out, h3], h.right⟩⟩
        obtain ⟨B, hB, hS⟩ := HF.out
        have HF2 := Aside.mk (And.intro hB hS)
        clear hB hS HF HR
        go_wp2
        go_ret2
        rw [HF2.out.1]
        exact ⟨rfl, HF2.out.2⟩
set_option maxHeartbeats 4000000 in
set_option maxRecDepth 100000 in
theorem ref_mendp (E : Env) (q : HP) (y : Nat) (A : Dk) (name : ByteArray) (i : Int) (w : World) (hname : name.size + 2 ≤ maxLen) (hby : ∀ f ∈ halvesL name, ∀ c, A.cel f i = some c → Bytes c.read)
    (hso : Sorted A.files) (hw : Sat E w (HP.rdisk y A * q)) :
    Calls Tryz.prog 98 #[.pointer (some ⟨y, 0, none⟩), .string name, .int .i64 i] w fun e w' => e = .returned (.tuple #[.bool (mendP A name i).1.1, .int .i64 (mendP A name i).1.2]) ∧ Sat E w' (HP.rdisk y (mendP A name i).2 * q) := by
  have hfa : (name ++ dotA).size ≤ maxLen := by rw [dotA_size]; exact hname
  have hfb : (name ++ dotB).size ≤ maxLen := by rw [dotB_size]; exact hname
  have HF : Aside (halvesL name = [name ++ dotA, name ++ dotB]) := ⟨rfl⟩
  have HNE := Aside.mk (halves_ne name)
  have HM : Aside (mendP A name i = if (getP A name i).1 < 0 then ((false, 50), A) else mendL i.toNat (getP A name i).1.toNat (getP A name i).2 false A (halvesL name)) := ⟨rfl⟩
  have HQ := Aside.mk (And.intro hby (And.intro hw hso))
  have HG := Aside.mk (And.intro (getP_ok A name i) (getP_byt hby))
  clear hby hw hso
  go_enter Tryz.func98, Tryz.ntmps98
  go_wp2_with fail
  refine (ref_getp E q y A name i _ hname HQ.out.1 HQ.out.2.1).mono ?_
  rintro e w1 ⟨v, rfl, h1⟩
  obtain ⟨Av, cv, rfl, hcv, hcm⟩ := h1.row_slice
  obtain ⟨⟨G0, p⟩, hGp⟩ : ∃ r, r = getP A name i := ⟨_, rfl⟩
  rw [← hGp] at h1 HM HG ⊢
  clear hGp
  dsimp only at h1 HM HG ⊢
  have H1 := Aside.mk h1
  clear h1
  unfold getEnd
  by_cases hneg : G0 < 0
  · rw [if_pos (by exact hneg)]
    rw [if_pos hneg] at HM
    go_wp2
    go_ret2
    rw [HM.out]
    exact ⟨rfl, H1.out.right⟩
  · rw [if_neg (by exact hneg)]
    rw [if_neg hneg] at HM
    obtain ⟨i0, i1⟩ := HG.out.1.place (by show 0 ≤ G0; omega)
    obtain ⟨i, rfl⟩ := Int.eq_ofNat_of_zero_le i0
    obtain ⟨G, rfl⟩ := Int.eq_ofNat_of_zero_le (show 0 ≤ G0 by omega)
    rw [Int.toNat_natCast, Int.toNat_natCast] at HM
    have hG : (G : Int) ≤ 4611686018427387904 := HG.out.1.gen
    have hpl : p.length ≤ 106 := HG.out.1.len
    obtain ⟨n, hn⟩ : ∃ n, n = p.length := ⟨_, rfl⟩
    rw [← hn] at H1 hpl ⊢
    have HPL := Aside.mk (And.intro hn.symm HG.out.2)
    clear hn HG hneg hcv hcm
    go_wp2_with fail
    refine (ref_halves E _ name _ hname H1.out).mono ?_
    rintro e w2 ⟨g, rfl, h2⟩
    obtain ⟨fa, hfae⟩ : ∃ fa, fa = name ++ dotA := ⟨_, rfl⟩
    obtain ⟨fb, hfbe⟩ : ∃ fb, fb = name ++ dotB := ⟨_, rfl⟩
    rw [← hfae] at hfa HF HNE h2
    rw [← hfbe] at hfb HF HNE h2
    clear hfae hfbe
    obtain ⟨q2, hq2⟩ : ∃ q2, q2 = HP.pt g (.cells #[.string fa, .string fb] 9) * (HP.row 5 1 (.slice Av n cv) n (b8s p) * q) := ⟨_, rfl⟩
    have H2 : Aside (Sat E w2 (HP.rdisk y A * q2)) := ⟨by rw [hq2]; exact h2.perm (by ac_rfl)⟩
    have HQ2 : Aside (∀ E w, Sat E w q2 → Cells w Av (b8s p) ∧ (∀ h : Nat, ∀ u, (#[Value.string fa, Value.string fb] : Array Value)[h]? = some u → w.cell? ⟨g, h, none⟩ = some u) ∧ Sat E w q) := ⟨fun E w h => by
      rw [hq2] at h
      exact ⟨h.right.row_cells, fun k u hu => by rw [h.cell]; exact hu, h.right.right⟩⟩
    have HQE := Aside.mk hq2
    clear h2 H1 hq2
    go_wp2
    go_loopw [11, 34] (fun v11 v33 wr => ∃ (h : Nat) (wrote : Bool) (A' : Dk), h ≤ 2 ∧ v33 = .int .i64 h ∧ v11 = .bool wrote ∧ Aside (mendL i G p wrote A' ((halvesL name).drop h) = mendP A name i) ∧ Aside ((∀ f ∈ (halvesL name).drop h, ∀ c, A'.cel f i = some c → Bytes c.read) ∧ Sorted A'.files) ∧ Aside (Sat E wr (HP.rdisk y A' * q2))) (fun _ x _ => 2 - (intOf x).toNat)
    case atStart => exact ⟨0, false, A, by omega, rfl, rfl, ⟨HM.out.symm⟩, ⟨HQ.out.1, HQ.out.2.2⟩, H2⟩
    case round =>
      clear H2
      obtain ⟨h, wrote, A', hh, rfl, rfl, HL, HY, HS⟩ := hrel
      by_cases hlt : h < 2
      · obtain ⟨f, hf, hff, hne, hix⟩ : ∃ f : ByteArray, f.size ≤ maxLen ∧ (halvesL name).drop h = f :: (halvesL name).drop (h + 1) ∧ (∀ t ∈ (halvesL name).drop (h + 1), f ≠ t) ∧ (#[Value.string fa, Value.string fb] : Array Value)[h]? = some (.string f) := by
          rw [HF.out]
          rcases Nat.lt_or_ge h 1 with h0 | h0
          · obtain rfl : h = 0 := by omega
            exact ⟨fa, hfa, rfl, fun t ht => by obtain rfl := List.mem_singleton.1 ht; exact HNE.out, rfl⟩
          · obtain rfl : h = 1 := by omega
            exact ⟨fb, hfb, rfl, fun t ht => (by cases ht), rfl⟩
        have kc : wr.cell? ⟨g, h, none⟩ = some (.string f) := (HQ2.out _ _ HS.out.right).2.1 h _ hix
        rw [hff] at HL HY
        have HNX := Aside.mk hne
        clear hff hne hix
        have hlt2 : (h : Int) < 2 := by omega
        have hIl : (extI f i G p).length = 128 := extI_length (by rw [HPL.out.1]; exact hpl)
        have hIb : Bytes (extI f i G p) := extI_bytes (by rw [HPL.out.1]; exact hpl) HPL.out.2
        have HX : Aside (mendL i G p wrote A' (f :: (halvesL name).drop (h + 1)) = if readO A' f i = extI f i G p then mendL i G p wrote A' ((halvesL name).drop (h + 1))
          else if (A'.write f i (extI f i G p)).1 = 0 then
            if ((A'.write f i (extI f i G p)).2.sync f).1 = 0 then mendL i G p true ((A'.write f i (extI f i G p)).2.sync f).2 ((halvesL name).drop (h + 1))
            else ((false, ((A'.write f i (extI f i G p)).2.sync f).1), ((A'.write f i (extI f i G p)).2.sync f).2)
          else ((false, (A'.write f i (extI f i G p)).1), (A'.write f i (extI f i G p)).2)) := ⟨rfl⟩
        rw [HL.out] at HX
        go_wp2_with fail
        refine (ref_frame E (HP.rdisk y A' * q2) f i G Av p n cv _ hf i1 hG HPL.out.1 hpl HPL.out.2 (fun w h => (HQ2.out _ _ h.right).1) HS.out).mono ?_
        rintro e w3 ⟨vI, rfl, h3⟩
        obtain ⟨AI, cI, rfl, hcI, hcM⟩ := h3.row_slice
        obtain ⟨I, hIe⟩ : ∃ I, I = extI f i G p := ⟨_, rfl⟩
        rw [← hIe] at hIl hIb h3 HX
        clear hIe
        have HI := Aside.mk (And.intro hIl hIb)
        have H3 := Aside.mk h3.s2
        clear h3 hIl hIb HS HL kc
        go_wp2_with fail
        refine (rdisk_any E _ y A' f i _ (fun c hc => HY.out.1 f (List.mem_cons_self ..) c hc) H3.out).mono ?_
        rintro e w4 ⟨Ar, nr, cr, er, X, rfl, hrl, hnc, hcm, hrb, hX, h4⟩
        obtain ⟨R, hR⟩ : ∃ R, R = readO A' f i := ⟨_, rfl⟩
        rw [← hR] at hrl hrb hX HX
        have e0 := run_string_m (P := Tryz.prog) (c := cr) hrl Tryz.underlying43 Tryz.underlying5 Tryz.underlying9 (hX _ _ _ h4)
        have e1 := run_string_m (P := Tryz.prog) (c := cI) HI.out.1 Tryz.underlying43 Tryz.underlying5 Tryz.underlying9 h4.right.right.row_cells
        have e2 := strOf_eqb hrb HI.out.2
        have H5 : Aside (Sat E w4 (HP.rdisk y A' * (HP.row 5 1 (.slice AI 128 cI) 128 (b8s I) * q2))) := ⟨h4.right⟩
        clear h4 hR hrl hrb hX H3
        by_cases hRI : R = I
        · rw [decide_eq_true hRI] at e2
          rw [if_pos hRI] at HX
          have HZ : Aside (Sat E w4 (HP.rdisk y A' * q2)) := ⟨H5.out.drop2⟩
          have HY2 : Aside ((∀ f ∈ (halvesL name).drop (h + 1), ∀ c, A'.cel f i = some c → Bytes c.read) ∧ Sorted A'.files) := ⟨fun t ht => HY.out.1 t (List.mem_cons_of_mem _ ht), HY.out.2⟩
          have HX2 := Aside.mk HX.out.symm
          clear hRI HX HY H5
          generalize strOf I = s0 at *
          generalize strOf R = s1 at *
          go_wp2
          go_roundw
          case rel => exact ⟨h + 1, wrote, A', by omega, by push_cast; rfl, rfl, HX2, HY2, HZ⟩
          case measure => simp [intOf]; omega
        · rw [decide_eq_false hRI] at e2
          rw [if_neg hRI] at HX
          clear hRI
          have HSO := Aside.mk HY.out.2
          generalize strOf I = s0 at *
          generalize strOf R = s1 at *
          go_wp2_with fail
          refine (ref_write E _ y A' f i AI I 128 cI _ hf HI.out.1 (by unfold maxLen; omega) (fun w h => h.row_cells) H5.out).mono ?_
          rintro e w6 ⟨rfl, h6⟩
          have H6 : Aside (Sat E w6 (HP.rdisk y (A'.write f (i : Int) I).2 * q2)) := ⟨h6.drop2⟩
          clear h6 H5 e0 e1 e2
          by_cases hw0 : (A'.write f (i : Int) I).1 = 0
          · rw [hw0]
            rw [if_pos hw0] at HX
            have HY2 : Aside ((∀ t ∈ (halvesL name).drop (h + 1), ∀ c, (A'.write f (i : Int) I).2.cel t i = some c → Bytes c.read) ∧ Sorted (A'.write f (i : Int) I).2.files) := ⟨fun t ht c hc => HY.out.1 t (List.mem_cons_of_mem _ ht) c (by rw [← cel_of_at (write_at_ne HSO.out (HNX.out t ht) i I)]; exact hc), write_sorted HSO.out f i I⟩
            clear hw0 HY HSO
            generalize (A'.write f (i : Int) I).2 = B at *
            go_wp2_with fail
            refine (ref_sync E _ y B f _ H6.out).mono ?_
            rintro e w7 ⟨rfl, h7⟩
            have H7 := Aside.mk h7
            clear h7 H6
            by_cases hs0 : (B.sync f).1 = 0
            · rw [hs0]
              rw [if_pos hs0] at HX
              have HY3 : Aside ((∀ t ∈ (halvesL name).drop (h + 1), ∀ c, (B.sync f).2.cel t i = some c → Bytes c.read) ∧ Sorted (B.sync f).2.files) := ⟨fun t ht c hc => HY2.out.1 t ht c (by rw [← cel_of_at (sync_at_ne HY2.out.2 (HNX.out t ht)) i]; exact hc), sync_sorted HY2.out.2 f⟩
              have HX2 := Aside.mk HX.out.symm
              clear hs0 HX HY2
              generalize (B.sync f).2 = C at *
              go_wp2
              go_roundw
              case rel => exact ⟨h + 1, true, C, by omega, by push_cast; rfl, rfl, HX2, HY3, H7⟩
              case measure => simp [intOf]; omega
            · rw [if_neg hs0] at HX
              obtain ⟨ec, hec⟩ : ∃ ec, ec = (B.sync f).1 := ⟨_, rfl⟩
              rw [← hec] at hs0 HX ⊢
              clear hec HY2
              go_wp2
              go_ret2
              rw [HX.out]
              exact ⟨rfl, by have := H7.out; rw [HQE.out] at this; exact this.drop2.drop2⟩
          · rw [if_neg hw0] at HX
            obtain ⟨ec, hec⟩ : ∃ ec, ec = (A'.write f (i : Int) I).1 := ⟨_, rfl⟩
            rw [← hec] at hw0 HX ⊢
            clear hec HY
            go_wp2
            go_ret2
            rw [HX.out]
            exact ⟨rfl, by have := H6.out; rw [HQE.out] at this; exact this.drop2.drop2⟩
      · obtain rfl : h = 2 := by omega
        rw [HF.out] at HL
        have HX : Aside (mendP A name i = ((wrote, 0), A')) := ⟨by rw [← HL.out]; rfl⟩
        clear HL
        go_wp2
        go_ret2
        rw [HX.out]
        exact ⟨rfl, by have := HS.out; rw [HQE.out] at this; exact this.drop2.drop2⟩
theorem Dk.Byt.wrF {f : ByteArray} {gen : Nat} : ∀ (ps : List (List Int)) {A : Dk} (i : Nat), A.Byt → (∀ p ∈ ps, Bytes p) → (wrF A f gen i ps).2.Byt
  | [], A, i, h, _ => h.sync f
  | p :: ps, A, i, h, hp => by
    show (if ¬ FrameOk i gen p.length then ((1 : Int), A) else if (A.write f i (extI f i gen p)).1 = 0 then Go.Proofs.YtnpinegpajbkeaaGreatDoor.wrF (A.write f i (extI f i gen p)).2 f gen (i + 1) ps else A.write f i (extI f i gen p)).2.Byt
    by_cases hf : FrameOk i gen p.length
    · rw [if_neg (by simpa using hf)]
      have hw := h.write f i (extI_bytes (name := f) (index := i) (gen := gen) hf.2.2.2.2 (hp p (List.mem_cons_self ..)))
      split
      · exact Dk.Byt.wrF ps (i + 1) hw fun x hx => hp x (List.mem_cons_of_mem _ hx)
      · exact hw
    · rw [if_pos hf]; exact h
theorem Dk.Byt.wrL {i gen : Nat} {ps : List (List Int)} (hp : ∀ p ∈ ps, Bytes p) : ∀ (fs : List ByteArray) {A : Dk}, A.Byt → (wrL A i gen ps fs).2.Byt
  | [], A, h => h
  | f :: fs, A, h => by
    show (if (Go.Proofs.YtnpinegpajbkeaaGreatDoor.wrF A f gen i ps).1 = 0 then Go.Proofs.YtnpinegpajbkeaaGreatDoor.wrL (Go.Proofs.YtnpinegpajbkeaaGreatDoor.wrF A f gen i ps).2 i gen ps fs else Go.Proofs.YtnpinegpajbkeaaGreatDoor.wrF A f gen i ps).2.Byt
    have hw := Dk.Byt.wrF (f := f) (gen := gen) ps i h hp
    split
    · exact Dk.Byt.wrL hp fs hw
    · exact hw
theorem Dk.Byt.wrP {A : Dk} (h : A.Byt) (x : ByteArray) (i gen : Nat) {ps : List (List Int)} (hp : ∀ p ∈ ps, Bytes p) : (wrP A x i gen ps).2.Byt := Dk.Byt.wrL hp _ h
theorem Dk.Byt.mendL {i g : Nat} {p : List Int} (hl : p.length ≤ 106) (hp : Bytes p) : ∀ (fs : List ByteArray) {A : Dk} (wr : Bool), A.Byt → (mendL i g p wr A fs).2.Byt
  | [], A, wr, h => h
  | f :: fs, A, wr, h => by
    rw [mendL_cons]
    have hw := h.write f (i : Int) (extI_bytes (name := f) (index := i) (gen := g) hl hp)
    split
    · exact Dk.Byt.mendL hl hp fs wr h
    · split
      · split
        · exact Dk.Byt.mendL hl hp fs true (hw.sync f)
        · exact hw.sync f
      · exact hw
theorem Dk.Byt.reads {A : Dk} (h : A.Byt) : ∀ f i c, A.cel f i = some c → Bytes c.read := fun f i c hc => by
  unfold Dk.cel at hc
  split at hc
  · exact (h.at f c (List.mem_of_getElem? hc)).1
  · cases hc
theorem Dk.Byt.mendP {A : Dk} (h : A.Byt) (x : ByteArray) (i : Int) : (mendP A x i).2.Byt := by
  unfold Go.Proofs.YtnpinegpajbkeaaGreatDoor.mendP
  split
  · exact h
  · exact Dk.Byt.mendL (getP_ok A x i).len (getP_byt fun f _ c hc => h.reads f i c hc) _ false h
end Go.Proofs.YtnpinegpajbkeaaGreatDoor
