/- Texts of one claim, one behind the other: StOnW, LaidU. -/
import Derived.Test.YtnpinegpajbkeaaDoorOn9
import Derived.Laws.Bits64
import Derived.Lib.LaidU8
import Derived.Lib.LaidTab
import Derived.Lay
/- StripeOne: the walk. -/
namespace Go.Proofs.YtnpinegpajbkeaaDoor
open Go.RowKit HP
set_option linter.unusedSimpArgs false
set_option linter.unusedVariables false

abbrev fourC : Array Value := #[.string ⟨#[120, 46, 48]⟩, .string ⟨#[120, 46, 49]⟩, .string ⟨#[120, 46, 50]⟩, .string ⟨#[120, 46, 112]⟩]
theorem four_get {k : Nat} (hk : k < 4) : (#[.string ⟨#[120, 46, 48]⟩, .string ⟨#[120, 46, 49]⟩, .string ⟨#[120, 46, 50]⟩, .string ⟨#[120, 46, 112]⟩] : Array Value)[k]? = some (.string (stripeF exS k)) := by
  have hc : k = 0 ∨ k = 1 ∨ k = 2 ∨ k = 3 := by omega
  rcases hc with rfl | rfl | rfl | rfl <;> rfl
theorem four_size {k : Nat} (hk : k < 4) : (stripeF exS k).size ≤ maxLen := by
  have hc : k = 0 ∨ k = 1 ∨ k = 2 ∨ k = 3 := by omega
  rcases hc with rfl | rfl | rfl | rfl <;> (show 3 ≤ maxLen; unfold maxLen; omega)
theorem held_len {room : Int} {A : Dk} {gen : Nat} {l : List Int} (h : StHas room exS gen l A) {k : Nat} (hk : k < 4) : (A.at (stripeF exS k)).length = groupsN l.length := by
  rw [h.held k hk, List.length_map, newCels_length, paysS_length]
theorem one_rot_ok (E : Env) (q : HP) (d : Nat) {room : Int} {A B : Dk} {gen : Nat} {l : List Int} {T : Nat → Option Nat} (h : StHas room exS gen l A) (hB : OneB A B gen l T) (i k t : Nat) (m : Int) (w : World) (hi : i < groupsN l.length) (hk : k < 4) (hT : T i = none) (ht : t < 128) (hm : 0 < m ∧ m ≤ 255) (hw : Sat E w (HP.disk d B * q)) :
    Calls Tryd.prog 20 #[.pointer (some ⟨d, 0, none⟩), .string (stripeF exS k), .int .i64 i, .int .i64 t, .int .u8 m] w fun e w' => ∃ x B', e = .returned x ∧ OneB A B' gen l (fun j => if j = i then some k else T j) ∧ Sat E w' (HP.disk d B' * q) :=
  (disk_rot E q d B (stripeF exS k) i t m w (four_size hk) hw).mono fun e w' h2 => ⟨_, _, h2.1, (one_rot h hB hi hk hT ht hm.1 hm.2).2, h2.2⟩
set_option maxHeartbeats 4000000 in
set_option maxRecDepth 100000 in
theorem stripeOne_ok (E : Env) (q : HP) (A0 : Option Addr) (l0 : List Int) (n0 c0 : Nat) (s : Sl Int) (w : World) (e0 : l0.length = n0) (k0 : n0 ≤ c0) (m0 : c0 ≤ maxLen) (b0 : Bytes l0) (hs : s.l.length ≤ s.cap ∧ s.cap ≤ maxLen)
    (hq : ∀ w, Sat E w q → Quarter w ∧ Cells w A0 (b8s l0) ∧ Cells w s.A (s.l.map (Value.int .i64))) (hw : Sat E w q) :
    Calls Tryd.prog 6 #[.slice A0 n0 c0, s.val] w fun e w' => e = .returned (.bool true) ∧ Sat E w' q := by
  unfold Sl.val
  obtain ⟨m, hm⟩ : ∃ m, m = min n0 1500 := ⟨_, rfl⟩
  have hn0 : (if 1500 < (n0 : Int) then 1500 else (n0 : Int)) = (m : Int) := by split <;> omega
  have hn1 : (min (n0 : Int) 1500).toNat = m := by omega
  obtain ⟨t, ht⟩ : ∃ t, t = l0.take m := ⟨_, rfl⟩
  have htl : t.length = m := by rw [ht, List.length_take]; omega
  have htb : Bytes t := by rw [ht]; exact fun x hx => b0 x (List.mem_of_mem_take hx)
  have htc : ∀ w, Sat E w q → Quarter w ∧ Cells w A0 (b8s t) := fun w h => ⟨(hq w h).1, by
    have := (hq w h).2.1.take m
    rw [ht]
    unfold b8s at this ⊢
    rw [List.map_take]; exact this⟩
  have hgb := groupsN_bounds m
  have hm5 : m ≤ 1500 := by omega
  obtain ⟨G, hG⟩ : ∃ G, G = groupsN m := ⟨_, rfl⟩
  rw [← hG] at hgb
  have hG1 : 1 ≤ G := hgb.1
  have hG5 : G ≤ 5 := by
    rw [hG]
    unfold groupsN
    split <;> omega
  obtain ⟨A, hA⟩ := storeS_new (room := 40) (x := exS) (gen := 4) (l := t) fourX (by omega) (by rw [htl, ← hG]; omega) (by rw [htl, ← hG]; omega)
  have hL : t.length ≤ 1500 ∧ groupsN t.length = G := by rw [htl, ← hG]; exact ⟨hm5, rfl⟩
  have HA := Aside.mk (And.intro hA (And.intro hL (And.intro (show groupsN t.length ≤ 2147483647 by rw [hL.2]; omega) (show 4 * (groupsN t.length : Int) ≤ 40 by rw [hL.2]; omega))))
  have HQ := Aside.mk (And.intro htc (And.intro hw (And.intro m0 (And.intro htl htb))))
  have HC := Aside.mk (fun w h => (hq w h).2.2 : ∀ w, Sat E w q → Cells w s.A (s.l.map (Value.int .i64)))
  have HGm := Aside.mk hG
  obtain ⟨N, hN⟩ : ∃ N, N = s.l.length := ⟨_, rfl⟩
  have HN := Aside.mk hN
  have hNm : N ≤ maxLen := by rw [hN]; omega
  unfold maxLen at hNm
  rw [← hN]
  have hx3 : exS.size + 2 ≤ maxLen := by show 3 ≤ maxLen; unfold maxLen; omega
  have HX3 := Aside.mk hx3
  have hmc : m ≤ c0 := by omega
  have hmn : m ≤ n0 := by omega
  clear hq hw m0 htc htl htb hA hm ht b0 e0 hgb hx3 hG hL hN hs
  go_enter Tryd.func6, Tryd.ntmps6
  go_wp2_with fail
  refine (disk_new_ok E q 40 _ ⟨by omega, by omega⟩ HQ.out.2.1).mono ?_
  rintro e w1 ⟨d, rfl, h1⟩
  have H1 := Aside.mk h1
  clear h1
  go_wp2_with fail
  refine (stripe_store E q d (Dk.new 40) exS 4 A0 t m c0 _ HX3.out (by omega) HQ.out.2.2.2.1 hmc HQ.out.2.2.1 (by omega) HQ.out.2.2.2.2 HQ.out.1 H1.out).mono ?_
  rintro e w2 ⟨rfl, h2⟩
  rw [HA.out.1.eq] at h2 ⊢
  have H2 := Aside.mk h2
  clear h2 H1
  go_wp2_with fail
  refine (disk_copy E _ d A _ H2.out).mono ?_
  rintro e w3 ⟨c, rfl, h3⟩
  have H3 := Aside.mk h3.s2
  clear h3 H2
  go_wp2_with fail
  refine (stripe_groups m _ (by unfold wf64; omega)).mono ?_
  rintro e w4 ⟨rfl, hw4⟩
  subst w4
  rw [groupsI_nat, ← HGm.out]
  have H4 := Aside.mk (H3.out.alloc (.cells #[.string ⟨#[120, 46, 48]⟩, .string ⟨#[120, 46, 49]⟩, .string ⟨#[120, 46, 50]⟩, .string ⟨#[120, 46, 112]⟩] 9))
  obtain ⟨bl, hbl⟩ : ∃ bl, bl = w3.heap.size := ⟨_, rfl⟩
  rw [← hbl] at H4
  clear H3
  go_wp2
  rw [← hbl]
  clear hbl
  go_loopw [48] (fun v48 wr => ∃ (k : Nat) (B : Dk) (T : Nat → Option Nat), v48 = .int .i64 k ∧ k ≤ N ∧ Aside (OneB A B 4 t T ∧ ∀ i, (T i).isSome = decide (i < G ∧ i < k)) ∧ Aside (Sat E wr (HP.pt bl (.cells #[.string ⟨#[120, 46, 48]⟩, .string ⟨#[120, 46, 49]⟩, .string ⟨#[120, 46, 50]⟩, .string ⟨#[120, 46, 112]⟩] 9) * (HP.disk d B * (HP.disk c A * q))))) (fun x _ => N - (intOf x).toNat)
  case atStart => exact ⟨0, A, fun _ => none, rfl, Nat.zero_le _, ⟨one_start HA.out.1, fun i => by simp⟩, H4⟩
  case round =>
    clear H4
    obtain ⟨k, B, T, rfl, hk, HO, HS⟩ := hrel
    by_cases hlt : k < N
    · have hk1 : (k : Int) < (N : Int) := by omega
      have hk0 : (0 : Int) ≤ (k : Int) := by omega
      have hcl := HC.out _ HS.out.right.right.right
      obtain ⟨x, hx⟩ : ∃ x, s.l[k]? = some x := ⟨_, List.getElem?_eq_getElem (by rw [← HN.out]; exact hlt)⟩
      have gk : (s.l.map (Value.int .i64))[k]? = some (.int .i64 x) := by rw [List.getElem?_map, hx]; rfl
      obtain ⟨gL, oL, hAl⟩ : ∃ g o, s.A = some ⟨g, o, none⟩ := by
        obtain ⟨a, ha, -⟩ := hcl _ _ gk
        obtain ⟨g, o, rfl⟩ : ∃ g o, a = ⟨g, o, none⟩ := slice_addr hcl ha (List.getElem?_eq_some_iff.1 gk).1
        exact ⟨g, o, ha⟩
      rw [hAl] at hcl
      have ck := hcl.some_ _ _ gk
      rw [addr_add] at ck
      rw [hAl]
      clear hcl gk hx hAl
      by_cases hkg : k < G
      · have hkg1 : (k : Int) < (G : Int) := by omega
        obtain ⟨f, hf, hzf⟩ : ∃ f : Nat, f < 4 ∧ wrap64 ((IntKind.u64.wrap x).tmod 4) = (f : Int) := by
          rw [IntKind.wrap_u64, Int.tmod_eq_emod_of_nonneg (by omega)]
          refine ⟨(x % 18446744073709551616 % 4).toNat, by omega, ?_⟩
          unfold wrap64
          omega
        obtain ⟨p, hp, hzp⟩ : ∃ p : Nat, p < 128 ∧ wrap64 ((IntKind.u64.wrap (x / 4)).tmod 128) = (p : Int) := by
          rw [IntKind.wrap_u64, Int.tmod_eq_emod_of_nonneg (by omega)]
          refine ⟨(x / 4 % 18446744073709551616 % 128).toNat, by omega, ?_⟩
          unfold wrap64
          omega
        have kc : wr.cell? ⟨bl, f, none⟩ = some (.string (stripeF exS f)) := by rw [HS.out.cell]; exact four_get hf
        have hf0 : (0 : Int) ≤ (f : Int) := by omega
        have hf4 : (f : Int) < 4 := by omega
        have HS2 := Aside.mk HS.out.s2
        have HKF := Aside.mk (And.intro hf (And.intro hp (And.intro (show k < groupsN t.length by rw [HA.out.2.1.2]; exact hkg) (show T k = none by
          have := HO.out.2 k
          rw [decide_eq_false (by omega)] at this
          exact Option.isSome_eq_false_iff.1 this |> Option.isNone_iff_eq_none.1))))
        clear HS
        go_wp2_with fail
        refine (one_rot_ok E _ d HA.out.1 HO.out.1 k f p _ _ HKF.out.2.2.1 HKF.out.1 HKF.out.2.2.2 HKF.out.2.1 (odd_range _) HS2.out).mono ?_
        rintro e w4 ⟨y, B', rfl, ho, h4⟩
        have HO2 : Aside (OneB A B' 4 t (fun j => if j = k then some f else T j) ∧ ∀ i, ((fun j => if j = k then some f else T j) i).isSome = decide (i < G ∧ i < k + 1)) := ⟨ho, fun i => by
          dsimp only
          by_cases e : i = k
          · rw [if_pos e, e, decide_eq_true (by omega)]; rfl
          · rw [if_neg e, HO.out.2 i]
            congr 1
            exact propext (by omega)⟩
        have H4 := Aside.mk h4.s2
        clear h4 ho HO HS2 HKF ck kc
        go_wp2
        go_roundw
        case rel => exact ⟨k + 1, B', _, by go_num, by omega, HO2, H4⟩
        case measure => simp [intOf]; omega
      · have hkg1 : ¬ (k : Int) < (G : Int) := by omega
        have HO2 : Aside (OneB A B 4 t T ∧ ∀ i, (T i).isSome = decide (i < G ∧ i < k + 1)) := ⟨HO.out.1, fun i => by
          rw [HO.out.2 i]
          congr 1
          exact propext (by omega)⟩
        clear HO
        go_wp2
        go_roundw
        case rel => exact ⟨k + 1, B, T, by go_num, by omega, HO2, HS⟩
        case measure => simp [intOf]; omega
    · obtain rfl : k = N := by omega
      have hkk : ¬ (k : Int) < (k : Int) := by omega
      have HS2 := Aside.mk HS.out.s2
      have HTX := Aside.mk (one_text HA.out.1 HO.out.1 (by omega) HA.out.2.2.1 HQ.out.2.2.2.2)
      have HPM : Aside (partM (fun (i : Nat) j => atF B exS 4 ((i : Nat) : Int) j) (0 + m) 0 (0 + m) [] = some t) := ⟨by
        have h := HTX.out.2
        rw [HQ.out.2.2.2.1] at h
        rw [Nat.zero_add]
        exact h⟩
      clear HS
      go_wp2_with fail
      refine (stripe_part E _ d B exS 4 0 m (fun (i : Nat) j => atF B exS 4 ((i : Nat) : Int) j) _ HX3.out (by omega) (by omega) (one_bytes (gen := 4) HA.out.1 HO.out.1 (by omega) HA.out.2.2.1 HQ.out.2.2.2.2) (one_atOk (gen := 4) HA.out.1 HO.out.1 (by omega) HA.out.2.2.1 HQ.out.2.2.2.2) (fun w h => (HQ.out.1 w h.right.right).1) HS2.out).mono ?_
      intro e w7 h7
      rw [HPM.out] at h7
      obtain ⟨v, rfl, h7⟩ := h7
      rw [HQ.out.2.2.2.1] at h7
      obtain ⟨Av, cv, rfl, -, -⟩ := h7.row_slice
      have H7 := Aside.mk h7
      clear h7 HPM HTX HS2
      go_wp2_with fail
      refine (bytesEq_ok Av A0 t t m m cv c0 _ HQ.out.2.2.2.1 HQ.out.2.2.2.1 H7.out.row_cells (HQ.out.1 _ H7.out.right.right.right.right).2 HQ.out.2.2.2.2 HQ.out.2.2.2.2).mono ?_
      rintro e w8 ⟨rfl, hw8⟩
      subst w8
      rw [decide_eq_true rfl]
      have H8 := Aside.mk H7.out.right
      have HO2 : Aside (OneB A B 4 t T ∧ (∀ i, i < 0 → T i = none) ∧ ∀ i, 0 ≤ i → i < G → (T i).isSome = decide (i < k)) := ⟨HO.out.1, fun i h => by omega, fun i h0 h1 => by
        rw [HO.out.2 i]
        congr 1
        exact propext (by omega)⟩
      clear H7 HO
      go_wp2
      go_loopw [92] (fun v92 wr => ∃ (j : Nat) (B : Dk) (T : Nat → Option Nat), v92 = .int .i64 j ∧ j ≤ G ∧ Aside (OneB A B 4 t T ∧ (∀ i, i < j → T i = none) ∧ ∀ i, j ≤ i → i < G → (T i).isSome = decide (i < k)) ∧ Aside (Sat E wr (HP.disk d B * (HP.pt bl (.cells #[.string ⟨#[120, 46, 48]⟩, .string ⟨#[120, 46, 49]⟩, .string ⟨#[120, 46, 50]⟩, .string ⟨#[120, 46, 112]⟩] 9) * (HP.disk c A * q))))) (fun x _ => G - (intOf x).toNat)
      case atStart => exact ⟨0, B, T, rfl, Nat.zero_le _, HO2, H8⟩
      case round =>
        clear H8 HO2 B T
        obtain ⟨j, B, T, rfl, hj, HO, HS⟩ := hrel
        by_cases hlt : j < G
        · have hj1 : (j : Int) < (G : Int) := by omega
          obtain ⟨r, hr⟩ : ∃ r, r = mendS B exS 4 (j : Int) := ⟨_, rfl⟩
          have hom := one_mend HA.out.1 HO.out.1 (by omega) HA.out.2.2.1 HQ.out.2.2.2.2 (i := j) (by rw [HA.out.2.1.2]; exact hlt)
          rw [show mendS B exS ((4 : Nat) : Int) (j : Int) = r from hr.symm] at hom
          obtain ⟨⟨b1, e1⟩, B2⟩ := r
          obtain ⟨hom1, hom2⟩ := hom
          simp only [Prod.mk.injEq] at hom1
          obtain ⟨hb1, rfl⟩ := hom1
          rw [HO.out.2.2 j (Nat.le_refl _) hlt] at hb1
          have HR := Aside.mk hr
          have HO2 : Aside (OneB A B2 4 t (fun i => if i = j then none else T i) ∧ (∀ i, i < j + 1 → (fun i => if i = j then none else T i) i = none) ∧ ∀ i, j + 1 ≤ i → i < G → ((fun i => if i = j then none else T i) i).isSome = decide (i < k)) := ⟨hom2, fun i h => by
            dsimp only
            by_cases e : i = j
            · rw [if_pos e]
            · rw [if_neg e]; exact HO.out.2.1 i (by omega), fun i h0 h1 => by
            dsimp only
            rw [if_neg (by omega)]; exact HO.out.2.2 i (by omega) h1⟩
          have HBY := Aside.mk (one_bytes (gen := 4) HA.out.1 HO.out.1 (by omega) HA.out.2.2.1 HQ.out.2.2.2.2)
          clear hr hom2 HO
          go_wp2_with fail
          refine (stripe_mend E _ d B exS 4 j _ HX3.out (by unfold wf64; omega) HBY.out (fun w h => (HQ.out.1 w h.right.right).1) HS.out).mono ?_
          rintro e w9 ⟨rfl, h9⟩
          rw [← HR.out] at h9 ⊢
          have H9 := Aside.mk h9
          dsimp only
          clear h9 HR HBY HS
          by_cases hjk : j < k
          · have hjk1 : (j : Int) < (k : Int) := by omega
            rw [decide_eq_true hjk] at hb1
            subst hb1
            go_wp2
            go_roundw
            case rel => exact ⟨j + 1, B2, _, by go_num, by omega, HO2, H9⟩
            case measure => simp [intOf]; omega
          · have hjk1 : ¬ (j : Int) < (k : Int) := by omega
            rw [decide_eq_false hjk] at hb1
            subst hb1
            go_wp2
            go_roundw
            case rel => exact ⟨j + 1, B2, _, by go_num, by omega, HO2, H9⟩
            case measure => simp [intOf]; omega
        · obtain rfl : j = G := by omega
          have hjj : ¬ (j : Int) < (j : Int) := by omega
          have HE : Aside ((∀ f (i : Nat), B.cel f i = A.cel f i) ∧ B.damaged = []) := ⟨one_end HA.out.1 HO.out.1 (fun i => by
            rcases Nat.lt_or_ge i j with h | h
            · exact HO.out.2.1 i h
            · cases e : T i with
              | none => rfl
              | some z =>
                have := (HO.out.1.turn i z e).2.1
                rw [HA.out.2.1.2] at this
                omega) (by omega) HA.out.2.2.2 HA.out.2.2.1⟩
          have HRD := Aside.mk (stRead_of HA.out.1 (by omega) HA.out.2.2.1 HQ.out.2.2.2.2).bytes
          have HAT : Aside (∀ h, h < 4 → (A.at (stripeF exS h)).length = j) := ⟨fun h hh => by rw [held_len HA.out.1 hh, HA.out.2.1.2]⟩
          have HS3 := Aside.mk HS.out.s2
          clear HS HO
          go_wp2
          go_loopw [114] (fun v114 wr => ∃ h : Nat, v114 = .int .i64 h ∧ h ≤ 4 ∧ Aside (Sat E wr (HP.pt bl (.cells #[.string ⟨#[120, 46, 48]⟩, .string ⟨#[120, 46, 49]⟩, .string ⟨#[120, 46, 50]⟩, .string ⟨#[120, 46, 112]⟩] 9) * (HP.disk d B * (HP.disk c A * q))))) (fun x _ => 4 - (intOf x).toNat)
          case atStart => exact ⟨0, rfl, by omega, HS3⟩
          case round =>
            clear HS3
            obtain ⟨h, rfl, hh, HS⟩ := hrel
            by_cases hlt : h < 4
            · have hlt2 : (h : Int) < 4 := by omega
              have hlt0 : (0 : Int) ≤ (h : Int) := by omega
              have kc : wr.cell? ⟨bl, h, none⟩ = some (.string (stripeF exS h)) := by rw [HS.out.cell]; exact four_get hlt
              obtain ⟨fn, hfn⟩ : ∃ fn, fn = stripeF exS h := ⟨_, rfl⟩
              have HFN := Aside.mk (And.intro (show fn.size ≤ maxLen by rw [hfn]; exact four_size hlt) (And.intro (show (A.at fn).length = j by rw [hfn]; exact HAT.out h hlt) (show ∀ (i : Int) c, A.cel fn i = some c → Bytes c.read by rw [hfn]; exact HRD.out h hlt)))
              rw [← hfn] at kc
              have HS2 := Aside.mk (HS.out.s3)
              clear hfn HS
              obtain ⟨wo, hwo⟩ : ∃ wo : World, wo = wr := ⟨_, rfl⟩
              subst hwo
              go_wp2
              clear kc
              go_loopw [119] (fun v119 wi => ∃ i : Nat, v119 = .int .i64 i ∧ i ≤ j ∧ Aside (Sat E wi (HP.disk c A * (HP.pt bl (.cells #[.string ⟨#[120, 46, 48]⟩, .string ⟨#[120, 46, 49]⟩, .string ⟨#[120, 46, 50]⟩, .string ⟨#[120, 46, 112]⟩] 9) * (HP.disk d B * q))))) (fun x _ => j - (intOf x).toNat)
              case atStart => exact ⟨0, rfl, Nat.zero_le _, HS2⟩
              case round =>
                clear HS2
                obtain ⟨i, rfl, hi, HI⟩ := hrel
                by_cases hil : i < j
                · have hil2 : (i : Int) < (j : Int) := by omega
                  obtain ⟨cl, hcl⟩ : ∃ cl, A.cel fn (i : Int) = some cl := ⟨_, by
                    unfold Dk.cel
                    rw [if_pos (by omega), Int.toNat_natCast]
                    exact List.getElem?_eq_getElem (by rw [HFN.out.2.1]; exact hil)⟩
                  have HBY := Aside.mk (HFN.out.2.2 _ cl hcl)
                  have HCL := Aside.mk hcl
                  have HCB : Aside (B.cel fn (i : Int) = some cl) := ⟨by rw [HE.out.1]; exact hcl⟩
                  have HI2 := Aside.mk HI.out.s3
                  clear hcl HI
                  go_wp2_with fail
                  refine (disk_read_ok E _ d B fn i _ HFN.out.1 HI2.out).mono ?_
                  intro e w13 h13
                  unfold readEnd at h13
                  rw [HCB.out] at h13
                  obtain ⟨v1, rfl, h13⟩ := h13
                  obtain ⟨A1, c1, rfl, -, -⟩ := h13.row_slice
                  have hl128 := h13.row_cases.1
                  rw [b8s_length] at hl128
                  have HL128 := Aside.mk hl128
                  have H13 : Aside (Sat E w13 (HP.disk c A * (HP.row 5 1 (.slice A1 128 c1) 128 (b8s cl.read) * (HP.pt bl (.cells #[.string ⟨#[120, 46, 48]⟩, .string ⟨#[120, 46, 49]⟩, .string ⟨#[120, 46, 50]⟩, .string ⟨#[120, 46, 112]⟩] 9) * (HP.disk d B * q))))) := ⟨h13.perm (by ac_rfl)⟩
                  clear h13 hl128 HI2
                  go_wp2_with fail
                  refine (disk_read_ok E _ c A fn i _ HFN.out.1 H13.out).mono ?_
                  intro e w14 h14
                  unfold readEnd at h14
                  rw [HCL.out] at h14
                  obtain ⟨v2, rfl, h14⟩ := h14
                  obtain ⟨A2, c2, rfl, -, -⟩ := h14.row_slice
                  have H14 := Aside.mk h14
                  clear h14 H13
                  go_wp2_with fail
                  refine (bytesEq_ok A1 A2 cl.read cl.read 128 128 c1 c2 _ HL128.out HL128.out H14.out.s3.row_cells H14.out.row_cells HBY.out HBY.out).mono ?_
                  rintro e w15 ⟨rfl, rfl⟩
                  rw [decide_eq_true rfl]
                  have H15 : Aside (Sat E w15 (HP.disk c A * (HP.pt bl (.cells #[.string ⟨#[120, 46, 48]⟩, .string ⟨#[120, 46, 49]⟩, .string ⟨#[120, 46, 50]⟩, .string ⟨#[120, 46, 112]⟩] 9) * (HP.disk d B * q)))) := ⟨H14.out.right.s2.right⟩
                  clear H14 HBY HCL HL128 HCB
                  go_wp2
                  go_roundw
                  case rel => exact ⟨i + 1, by go_num, by omega, H15⟩
                  case measure => simp [intOf]; omega
                · have hij : ¬ (i : Int) < (j : Int) := by omega
                  have H16 : Aside (Sat E wr (HP.pt bl (.cells #[.string ⟨#[120, 46, 48]⟩, .string ⟨#[120, 46, 49]⟩, .string ⟨#[120, 46, 50]⟩, .string ⟨#[120, 46, 112]⟩] 9) * (HP.disk d B * (HP.disk c A * q)))) := ⟨HI.out.perm (by ac_rfl)⟩
                  clear HI
                  go_wp2
                  go_roundw
                  case rel => exact ⟨h + 1, by go_num, by omega, H16⟩
                  case measure => simp [intOf]; omega
            · have hh2 : ¬ (h : Int) < 4 := by omega
              have H17 := Aside.mk HS.out.right
              clear HS
              go_wp2_with fail
              refine (disk_damaged E _ d B _ H17.out).mono ?_
              rintro e w16 ⟨v, rfl, h16⟩
              rw [HE.out.2] at h16
              obtain ⟨Ad, cd, rfl, -, -⟩ := h16.row_slice
              have H16 := Aside.mk h16.right.right.right
              clear h16 H17
              go_wp2
              go_ret
              exact ⟨rfl, H16.out⟩
end Go.Proofs.YtnpinegpajbkeaaDoor
/- The listed tables of a stripe: what the condition gives a walk. -/
namespace Go.Proofs.YtnpinegpajbkeaaDoor
open Go.ChangeShapes Go.WideShapes Go.ChangeAt Go.WideMaps Go.WideElems Go.RowKit HP
set_option linter.unusedVariables false

theorem quarterU_of_reads {W : World} (h : Lib.VarReads Tryd.prog W "dryrot/crc.quarter" Rows.laid_dryrot_crc_quarter) : Quarter W := by
  obtain ⟨g0, t0, cs0, f0, p0, hg0, ht0, hv0, hd0⟩ := h
  obtain rfl := Option.some.inj (gQuarter.symm.trans hg0)
  obtain rfl := Option.some.inj (tQuarter.symm.trans ht0)
  obtain ⟨xs, m1, rfl, hx1, hlen, hn3, hel⟩ := DataW.trod_array Tryd.underlying191 hd0
  have c3 : Tryd.prog.cellsOf 155 = 1 := by kernel_rfl
  simp only [Prod.mk.injEq, DataW.agg.injEq, Rows.laid_dryrot_crc_quarter] at hx1
  intro i hi
  have hi' := hel i hi
  rw [c3, Nat.mul_one] at hi'
  have hxl : i < xs.length := by omega
  rw [List.getElem?_eq_getElem hxl] at hi'
  obtain ⟨k, e1, e2, _⟩ := DataW.trod_int Tryd.underlying155 hi'
  have e3 : (xs.map (·.1))[i]? = some (DataW.lit (.int .u32 k)) := by
    rw [List.getElem?_map, List.getElem?_eq_getElem hxl]
    simp [e2]
  rw [← hx1.1] at e3
  have hk : k = quarterN i := by
    match i, hi with
    | 0, _ => simpa [quarterN] using e3.symm
    | 1, _ => simpa [quarterN] using e3.symm
    | 2, _ => simpa [quarterN] using e3.symm
    | 3, _ => simpa [quarterN] using e3.symm
  have e4 := World.var?_cell hg0 hv0 i
  have e5 : cs0.toList[i]? = some (.int .u32 k) := by
    have := congrArg (fun l => l[0]?) e1
    simpa [List.getElem?_take] using this
  rw [Array.getElem?_toList, hk] at e5
  rw [← e5, ← e4]
def laidU : List (String × DataW Unit) := [("dryrot/crc.quarter", Rows.laid_dryrot_crc_quarter), ("unicode/utf8.acceptRanges", Rows.laid_unicode_utf8_acceptRanges), ("unicode/utf8.first", Rows.laid_unicode_utf8_first)]
theorem door_metU (os : Os) (args : Array Value) : laidMetH Tryd.prog laidU ((World.laidAll Tryd.prog os laidU).forCall (fun _ _ => 0) ⟨#[], args, []⟩).memory := by
  rw [MakeChecks.laidMetH_plain _ _ _ (by kernel_rfl)]
  exact laidMet_laidAll _ (by kernel_rfl) (by kernel_rfl)
theorem laidU_reads {W : World} (h : laidMetH Tryd.prog laidU W) : Quarter W := by
  rw [MakeChecks.laidMetH_plain _ _ _ (by kernel_rfl)] at h
  obtain ⟨ps, hL, -⟩ := h
  exact quarterU_of_reads (Lib.LaidVars_reads hL _ _ (by simp [laidU]))
end Go.Proofs.YtnpinegpajbkeaaDoor
