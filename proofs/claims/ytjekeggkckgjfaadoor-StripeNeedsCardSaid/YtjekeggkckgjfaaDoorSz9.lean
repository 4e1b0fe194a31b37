/- Texts of one claim, one behind the other: StTwW, StNone, StNoW, Laid, Tied. -/
import Derived.Test.YtjekeggkckgjfaaDoorSz8
import Derived.LaidMore
import Derived.Stop.Joined
/- StripeTwo: the walk. -/
namespace Go.Proofs.YtjekeggkckgjfaaDoor
open Go.RowKit HP
set_option linter.unusedSimpArgs false
set_option linter.unusedVariables false

set_option maxHeartbeats 2000000 in
set_option maxRecDepth 100000 in
theorem stripeTwo_ok (E : Env) (q : HP) (A0 : Option Addr) (l0 : List Int) (n0 c0 : Nat) (iz xz yz : Int) (w : World) (e0 : l0.length = n0) (k0 : n0 ≤ c0) (m0 : c0 ≤ maxLen) (b0 : Bytes l0)
    (hq : ∀ w, Sat E w q → Quarter w ∧ Cells w A0 (b8s l0)) (hw : Sat E w q) :
    Calls Tryd.prog 6 #[.slice A0 n0 c0, .int .i64 iz, .int .i64 xz, .int .i64 yz] w fun e w' => e = .returned (.bool true) ∧ Sat E w' q := by
  obtain ⟨m, hm⟩ : ∃ m, m = min n0 1500 := ⟨_, rfl⟩
  have hn0 : (if 1500 < (n0 : Int) then 1500 else (n0 : Int)) = (m : Int) := by split <;> omega
  have hn1 : (min (n0 : Int) 1500).toNat = m := by omega
  obtain ⟨t, ht⟩ : ∃ t, t = l0.take m := ⟨_, rfl⟩
  have htl : t.length = m := by rw [ht, List.length_take]; omega
  have htb : Bytes t := by rw [ht]; exact fun x hx => b0 x (List.mem_of_mem_take hx)
  have htc : ∀ w, Sat E w q → Quarter w ∧ Cells w A0 (b8s t) := fun w h => ⟨(hq w h).1, by
    have := (hq w h).2.take m
    rw [ht]
    unfold b8s at this ⊢
    rw [List.map_take]; exact this⟩
  have hgb := groupsN_bounds m
  have hm5 : m ≤ 1500 := by omega
  obtain ⟨G, hG⟩ : ∃ G, G = groupsN m := ⟨_, rfl⟩
  rw [← hG] at hgb
  have hG1 : 1 ≤ G := hgb.1
  have hG5 : G ≤ 5 := by
    rw [hG]
    unfold groupsN
    split <;> omega
  obtain ⟨g, hgG, hzg⟩ : ∃ g : Nat, g < G ∧ wrap64 ((IntKind.u64.wrap iz).tmod (G : Int)) = (g : Int) := by
    rw [IntKind.wrap_u64, tmod_emod (by omega)]
    have h2 := Int.emod_lt_of_pos (iz % 18446744073709551616) (show (0 : Int) < (G : Int) by omega)
    have h3 := Int.emod_nonneg (iz % 18446744073709551616) (show (G : Int) ≠ 0 by omega)
    refine ⟨(iz % 18446744073709551616 % (G : Int)).toNat, by omega, ?_⟩
    rw [Int.toNat_of_nonneg h3]
    unfold wrap64
    omega
  obtain ⟨f, hf, hzf⟩ : ∃ f : Nat, f < 4 ∧ wrap64 ((IntKind.u64.wrap xz).tmod 4) = (f : Int) := by
    rw [IntKind.wrap_u64, tmod_emod (by omega)]
    refine ⟨(xz % 18446744073709551616 % 4).toNat, by omega, ?_⟩
    unfold wrap64
    omega
  obtain ⟨y, hy, hzy⟩ : ∃ y : Nat, y < 3 ∧ wrap64 ((IntKind.u64.wrap yz).tmod 3) = (y : Int) := by
    rw [IntKind.wrap_u64, tmod_emod (by omega)]
    refine ⟨(yz % 18446744073709551616 % 3).toNat, by omega, ?_⟩
    unfold wrap64
    omega
  obtain ⟨h, hh, hzh⟩ : ∃ h : Nat, h < 4 ∧ ((f : Int) + 1 + (y : Int)).tmod 4 = (h : Int) := by
    rw [tmod_emod (by omega)]
    exact ⟨(f + 1 + y) % 4, by omega, by omega⟩
  have hfh : f ≠ h := by
    rw [tmod_emod (by omega)] at hzh
    omega
  obtain ⟨B, hB⟩ := storeS_new (room := 40) (x := exS) (gen := 4) (l := t) fourX (by omega) (by rw [htl]; omega) (by rw [htl]; omega)
  obtain ⟨-, hT⟩ := stTwo_of (g := g) (m := 1) (n := 1) (s := 20) (t := 30) fourX hB (by omega) (by rw [htl, ← hG]; omega) htb (by rw [htl, ← hG]; exact hgG) hf hh hfh (by omega) (by omega) (by omega) (by omega) (by omega) (by omega)
  obtain ⟨ha, hx⟩ := stTwo_at (E := E) hT
  have hs := partM_sound hx (0 + m) 0 (0 + m) []
  have HB := Aside.mk hB.eq
  have HT := Aside.mk (And.intro hT.bytes (And.intro hT.bad (And.intro ha hs)))
  have HQ := Aside.mk (And.intro htc (And.intro hw (And.intro m0 (And.intro htl htb))))
  have hx3 : exS.size + 2 ≤ maxLen := by show 3 ≤ maxLen; unfold maxLen; omega
  have HX3 := Aside.mk hx3
  have hmc : m ≤ c0 := by omega
  have hmn : m ≤ n0 := by omega
  have HGm := Aside.mk hG
  clear hq hw m0 htc htl htb hB hm ht b0 e0 hgb hx3 hT ha hx hs hG
  go_enter Tryd.func6, Tryd.ntmps6
  go_wp2_with fail
  refine (disk_new_ok E q 40 _ ⟨by omega, by omega⟩ HQ.out.2.1).mono ?_
  rintro e w1 ⟨d, rfl, h1⟩
  have H1 := Aside.mk h1
  clear h1
  go_wp2_with fail
  refine (stripe_store E q d (Dk.new 40) exS 4 A0 t m c0 _ HX3.out (by omega) HQ.out.2.2.2.1 hmc HQ.out.2.2.1 (by omega) HQ.out.2.2.2.2 HQ.out.1 H1.out).mono ?_
  rintro e w2 ⟨rfl, h2⟩
  rw [HB.out] at h2 ⊢
  have H2 := Aside.mk h2
  clear h2 H1
  go_wp2_with fail
  refine (stripe_groups m _ (by unfold wf64; omega)).mono ?_
  rintro e w4 ⟨rfl, hw4⟩
  subst w4
  rw [groupsI_nat, ← HGm.out]
  have hwM : IntKind.u64.wrap (G : Int) = (G : Int) := by rw [IntKind.wrap_u64]; omega
  have hM0 : ¬ (G : Int) = 0 := by omega
  have hM0b : ((G : Int) == 0) = false := by rw [beq_eq_false_iff_ne]; omega
  go_wp2_with fail
  have hfv : ∀ k (hk : k < 4), ([.string (⟨#[120, 46, 48]⟩ : ByteArray), .string (⟨#[120, 46, 49]⟩ : ByteArray), .string (⟨#[120, 46, 50]⟩ : ByteArray), .string (⟨#[120, 46, 112]⟩ : ByteArray)] : List Value)[k] = .string (stripeF exS k) := fun k hk => by
    have hc : k = 0 ∨ k = 1 ∨ k = 2 ∨ k = 3 := by omega
    rcases hc with rfl | rfl | rfl | rfl <;> rfl
  have hsz : ∀ k, k < 4 → (stripeF exS k).size ≤ maxLen := fun k hk => by
    have hc : k = 0 ∨ k = 1 ∨ k = 2 ∨ k = 3 := by omega
    rcases hc with rfl | rfl | rfl | rfl <;> (show 3 ≤ maxLen; unfold maxLen; omega)
  rw [hfv f hf]
  have H3 := Aside.mk (H2.out.alloc (.cells #[.string (⟨#[120, 46, 48]⟩ : ByteArray), .string (⟨#[120, 46, 49]⟩ : ByteArray), .string (⟨#[120, 46, 50]⟩ : ByteArray), .string (⟨#[120, 46, 112]⟩ : ByteArray)] 9))
  refine (disk_rot E _ d B (stripeF exS f) g 20 1 _ (hsz f hf) H3.out.s2).mono ?_
  rintro e w4 ⟨rfl, h4⟩
  obtain ⟨⟨r1, B1⟩, hB1⟩ : ∃ x, x = B.rot (stripeF exS f) g 20 1 := ⟨_, rfl⟩
  have hB1' : (B.rot (stripeF exS f) (g : Int) ((20 : Nat) : Int) 1) = (r1, B1) := hB1.symm
  rw [hB1'] at HT
  rw [← hB1] at h4 ⊢
  have hcl := h4.s2.cell h
  rw [List.getElem?_toArray, List.getElem?_eq_getElem (show h < List.length [Value.string (⟨#[120, 46, 48]⟩ : ByteArray), .string (⟨#[120, 46, 49]⟩ : ByteArray), .string (⟨#[120, 46, 50]⟩ : ByteArray), .string (⟨#[120, 46, 112]⟩ : ByteArray)] from hh), hfv h hh] at hcl
  have H4 := Aside.mk h4
  clear h4 H3 H2 hB1 hB1'
  go_wp2_with fail
  refine (disk_rot E _ d B1 (stripeF exS h) g 30 1 _ (hsz h hh) H4.out).mono ?_
  rintro e w5 ⟨rfl, h5⟩
  obtain ⟨⟨r2, B2⟩, hB2⟩ : ∃ x, x = B1.rot (stripeF exS h) g 30 1 := ⟨_, rfl⟩
  have hB2' : (B1.rot (stripeF exS h) (g : Int) ((30 : Nat) : Int) 1) = (r2, B2) := hB2.symm
  rw [hB2'] at HT
  rw [← hB2] at h5 ⊢
  have H5 : Aside (Sat E w5 (HP.disk d B2 * q)) := ⟨h5.drop2⟩
  clear h5 H4 hB2 hB2' hcl hfv
  go_wp2_with fail
  refine (stripe_mend_lost E q d B2 exS 4 g _ HX3.out (by omega) HT.out.1 HT.out.2.1 (fun w h => (HQ.out.1 w h).1) H5.out).mono ?_
  rintro e w6 ⟨rfl, h6⟩
  have H6 := Aside.mk h6
  clear h6 H5
  go_wp2_with fail
  refine (stripe_part E q d B2 exS 4 0 m (fun i k => atP B2 exS 4 i k) _ HX3.out (by omega) (by omega) HT.out.1 HT.out.2.2.1 (fun w h => (HQ.out.1 w h).1) H6.out).mono ?_
  intro e w7 h7
  have hso := HT.out.2.2.2
  cases hp : partM (fun i k => atP B2 exS 4 i k) (0 + m) 0 (0 + m) [] with
  | none =>
    rw [hp] at h7
    obtain ⟨rfl, h7⟩ := h7
    have H7 := Aside.mk h7.right
    clear h7 H6 hso hp HT
    go_wp2_with fail
    refine (awake6_ok E _ _ (fun w h => (HQ.out.1 w h).1) H7.out).mono ?_
    rintro e w8 ⟨rfl, h8⟩
    have H8 := Aside.mk h8
    clear h8 H7
    go_wp2
    go_ret
    exact ⟨rfl, H8.out⟩
  | some r =>
    rw [hp] at h7
    have hr := (hso r (by omega) (by omega) hp).1
    rw [List.nil_append, List.drop_zero, show 0 + m - 0 = m by omega, List.take_of_length_le (by rw [HQ.out.2.2.2.1]; exact Nat.le_refl m)] at hr
    subst hr
    obtain ⟨v, rfl, h7⟩ := h7
    rw [HQ.out.2.2.2.1] at h7
    obtain ⟨Av, cv, rfl, -, -⟩ := h7.row_slice
    have H7 := Aside.mk h7
    clear h7 H6 hso hp HT
    go_wp2_with fail
    refine (bytesEq_ok Av A0 r r m m cv c0 _ HQ.out.2.2.2.1 HQ.out.2.2.2.1 H7.out.row_cells (HQ.out.1 _ H7.out.right.right).2 HQ.out.2.2.2.2 HQ.out.2.2.2.2).mono ?_
    rintro e w5 ⟨rfl, hw5⟩
    subst w5
    rw [decide_eq_true rfl]
    go_wp2_with fail
    refine (awake6_ok E _ _ (fun w h => (HQ.out.1 w h).1) H7.out.right.right).mono ?_
    rintro e w8 ⟨rfl, h8⟩
    have H8 := Aside.mk h8
    clear h8 H7
    go_wp2
    go_ret
    exact ⟨rfl, H8.out⟩
end Go.Proofs.YtjekeggkckgjfaaDoor
/- A disk that no call made: what every call of a stripe answers. -/
namespace Go.Proofs.YtjekeggkckgjfaaDoor
open Go.RowKit HP
set_option linter.unusedSimpArgs false
set_option linter.unusedVariables false

def NoDiskS (p : Value) (w : World) : Prop := Calls Tryd.prog 53 #[p] w fun e w' => e = .returned (.bool true) ∧ w' = w
set_option maxHeartbeats 1000000 in
set_option maxRecDepth 100000 in
theorem snone_none (p : Value) (w : World) (hn : NoDiskS p w) : Calls Tryd.prog 45 #[p] w fun e w' => e = .returned (.bool true) ∧ w' = w := by
  go_enter Tryd.func45, Tryd.ntmps45
  go_wp2_with fail
  refine (none_fuse p (-1) w hn).mono ?_
  rintro e w1 ⟨rfl, rfl⟩
  go_wp2
  go_ret
  exact ⟨rfl, rfl⟩
set_option maxHeartbeats 1000000 in
set_option maxRecDepth 100000 in
theorem snone_part (p s g f z : Value) (w : World) (hn : NoDiskS p w) : Calls Tryd.prog 19 #[p, s, g, f, z] w fun e w' => e = .returned (.tuple #[.slice none 0 0, .int .i64 2]) ∧ w' = w := by
  go_enter Tryd.func19, Tryd.ntmps19
  go_wp2_with fail
  refine (snone_none p w hn).mono ?_
  rintro e w1 ⟨rfl, rfl⟩
  clear hn
  go_wp2
  go_ret2
  exact ⟨rfl, rfl⟩
set_option maxHeartbeats 1000000 in
set_option maxRecDepth 100000 in
theorem snone_mend (p s g i : Value) (w : World) (hn : NoDiskS p w) : Calls Tryd.prog 21 #[p, s, g, i] w fun e w' => e = .returned (.tuple #[.bool false, .int .i64 2]) ∧ w' = w := by
  go_enter Tryd.func21, Tryd.ntmps21
  go_wp2_with fail
  refine (snone_none p w hn).mono ?_
  rintro e w1 ⟨rfl, rfl⟩
  clear hn
  go_wp2
  go_ret2
  exact ⟨rfl, rfl⟩
set_option maxHeartbeats 1000000 in
set_option maxRecDepth 100000 in
theorem snone_store (p s g b : Value) (w : World) (hn : NoDiskS p w) : Calls Tryd.prog 12 #[p, s, g, b] w fun e w' => e = .returned (.int .i64 2) ∧ w' = w := by
  go_enter Tryd.func12, Tryd.ntmps12
  go_wp2_with fail
  refine (snone_none p w hn).mono ?_
  rintro e w1 ⟨rfl, rfl⟩
  clear hn
  go_wp2
  go_ret
  exact ⟨rfl, rfl⟩
set_option maxHeartbeats 1000000 in
set_option maxRecDepth 100000 in
theorem snone_drop (p s : Value) (w : World) (hn : NoDiskS p w) : Calls Tryd.prog 22 #[p, s] w fun e w' => e = .returned (.int .i64 2) ∧ w' = w := by
  go_enter Tryd.func22, Tryd.ntmps22
  go_wp2_with fail
  refine (snone_none p w hn).mono ?_
  rintro e w1 ⟨rfl, rfl⟩
  clear hn
  go_wp2
  go_ret
  exact ⟨rfl, rfl⟩
end Go.Proofs.YtjekeggkckgjfaaDoor
/- StripeNobody: the walk. -/
namespace Go.Proofs.YtjekeggkckgjfaaDoor
open Go.RowKit HP
set_option linter.unusedSimpArgs false
set_option linter.unusedVariables false

set_option maxHeartbeats 4000000 in
set_option maxRecDepth 100000 in
theorem stripeNobody_ok (E : Env) (q : HP) (x0 x1 x2 x3 x4 x5 x6 y0 y1 y2 y3 y4 y5 y6 y7 : Value) (w : World) (hq : ∀ w, Sat E w q → Quarter w) (hw : Sat E w q) :
    Calls Tryd.prog 5 #[.agg #[x0, x1, x2, x3, x4, x5, x6, y0, y1, y2, y3, y4, y5, y6, y7]] w fun e w' => e = .returned (.bool true) ∧ Sat E w' q := by
  have h1 := ((hw.alloc (.cells #[x0, x1, x2, x3, x4, x5, x6, y0, y1, y2, y3, y4, y5, y6, y7] 41)).alloc (.cells #[.int .i64 0, .map none, .int .i64 0] 44)).alloc (.cells #[.pointer none, .pointer (some ⟨w.heap.size + 1, 0, none⟩)] 23)
  have hz : (w.alloc (.cells #[x0, x1, x2, x3, x4, x5, x6, y0, y1, y2, y3, y4, y5, y6, y7] 41)).heap.size = w.heap.size + 1 := by simp
  have hz2 : ((w.alloc (.cells #[x0, x1, x2, x3, x4, x5, x6, y0, y1, y2, y3, y4, y5, y6, y7] 41)).alloc (.cells #[.int .i64 0, .map none, .int .i64 0] 44)).heap.size = w.heap.size + 1 + 1 := by simp
  rw [hz, hz2] at h1
  have HQ := Aside.mk hq
  have H1 := Aside.mk h1
  clear hq hw h1 hz hz2
  go_enter Tryd.func5, Tryd.ntmps5
  go_wp2
  go_loopw [13] (fun v13 wr => ∃ k : Nat, k ≤ 2 ∧ v13 = .int .i64 k ∧ Aside (Sat E wr (HP.pt (w.heap.size + 1 + 1) (.cells #[.pointer none, .pointer (some ⟨w.heap.size + 1, 0, none⟩)] 23) * (HP.pt (w.heap.size + 1) (.cells #[.int .i64 0, .map none, .int .i64 0] 44) * (HP.pt w.heap.size (.cells #[x0, x1, x2, x3, x4, x5, x6, y0, y1, y2, y3, y4, y5, y6, y7] 41) * q))))) (fun i _ => 2 - (intOf i).toNat)
  case atStart => exact ⟨0, by omega, rfl, H1⟩
  case round =>
    obtain ⟨k, hk, rfl, HS⟩ := hrel
    by_cases hlt : k < 2
    · have hlt2 : (k : Int) < 2 := by omega
      obtain ⟨p, hp, HN⟩ : ∃ p, wr.cell? ⟨w.heap.size + 1 + 1, k, none⟩ = some p ∧ Aside (∀ w', Sat E w' (HP.pt (w.heap.size + 1 + 1) (.cells #[.pointer none, .pointer (some ⟨w.heap.size + 1, 0, none⟩)] 23) * (HP.pt (w.heap.size + 1) (.cells #[.int .i64 0, .map none, .int .i64 0] 44) * (HP.pt w.heap.size (.cells #[x0, x1, x2, x3, x4, x5, x6, y0, y1, y2, y3, y4, y5, y6, y7] 41) * q))) → NoDiskS p w') := by
        rcases Nat.lt_or_ge k 1 with h0 | h0
        · obtain rfl : k = 0 := by omega
          have := HS.out.cell 0
          exact ⟨_, this, ⟨fun w' _ => disk_none_nil w'⟩⟩
        · obtain rfl : k = 1 := by omega
          have := HS.out.cell 1
          exact ⟨_, this, ⟨fun w' h => disk_none_new E _ _ w' h.s2⟩⟩
      have g1 : wr.cell? ⟨w.heap.size, 1, none⟩ = some x1 := HS.out.right.right.cell 1
      have g2 : wr.cell? ⟨w.heap.size, 2, none⟩ = some x2 := HS.out.right.right.cell 2
      have g3 : wr.cell? ⟨w.heap.size, 3, none⟩ = some x3 := HS.out.right.right.cell 3
      have g4 : wr.cell? ⟨w.heap.size, 4, none⟩ = some x4 := HS.out.right.right.cell 4
      have g5 : wr.cell? ⟨w.heap.size, 5, none⟩ = some x5 := HS.out.right.right.cell 5
      have g6 : wr.cell? ⟨w.heap.size, 6, none⟩ = some x6 := HS.out.right.right.cell 6
      go_wp2_with fail
      refine (snone_part p x5 x2 x3 x4 _ (HN.out _ HS.out)).mono ?_
      rintro e w1 ⟨rfl, hw1⟩; subst w1
      go_wp2_with fail
      refine (snone_mend p x5 x2 x1 _ (HN.out _ HS.out)).mono ?_
      rintro e w1 ⟨rfl, hw1⟩; subst w1
      go_wp2_with fail
      refine (snone_store p x5 x2 x6 _ (HN.out _ HS.out)).mono ?_
      rintro e w1 ⟨rfl, hw1⟩; subst w1
      go_wp2_with fail
      refine (snone_drop p x5 _ (HN.out _ HS.out)).mono ?_
      rintro e w1 ⟨rfl, hw1⟩; subst w1
      go_wp2
      go_roundw
      case rel => exact ⟨k + 1, by omega, by push_cast; rfl, HS⟩
      case measure => simp [intOf]; omega
    · obtain rfl : k = 2 := by omega
      go_wp2_with fail
      refine (awake6_ok E _ _ (fun w h => HQ.out w h.right.right.right) HS.out).mono ?_
      rintro e w2 ⟨rfl, h2⟩
      go_wp2
      go_ret
      exact ⟨rfl, h2.right.right.right⟩
end Go.Proofs.YtjekeggkckgjfaaDoor
/- The listed table: what the condition gives a walk; the door's own heap meets it. -/
namespace Go.Proofs.YtjekeggkckgjfaaDoor
open Go.ChangeShapes Go.WideShapes Go.ChangeAt Go.WideMaps Go.WideElems Go.RowKit HP
set_option linter.unusedVariables false

def laidAll : List (String × DataW Unit) := [("dryrot/crc.quarter", Rows.laid_dryrot_crc_quarter)]
theorem gQuarter : Tryd.prog.globalNamed "dryrot/crc.quarter" = some 0 := by kernel_rfl
theorem tQuarter : (Tryd.prog.globals[0]?).map (·.type) = some 213 := by kernel_rfl
theorem door_met (os : Os) (args : Array Value) : laidMetH Tryd.prog laidAll ((World.doorLaid Tryd.prog 400 os).forCall (fun _ _ => 0) ⟨#[], args, []⟩).memory :=
  laidMetH_of_parts3 (fuel := 8) (laidMet_of_run' 8 (by kernel_rfl) (by kernel_rfl)) (by kernel_rfl) (by kernel_rfl)
theorem quarter_of_laid {W : World} (h : laidMetH Tryd.prog laidAll W) : Quarter W := by
  rw [MakeChecks.laidMetH_plain _ _ _ (by kernel_rfl)] at h
  obtain ⟨ps, ⟨g0, t0, cs0, f0, p0, q0, hg0, ht0, hv0, hd0, _, _⟩, _, _⟩ := h
  obtain rfl := Option.some.inj (gQuarter.symm.trans hg0)
  obtain rfl := Option.some.inj (tQuarter.symm.trans ht0)
  obtain ⟨xs, m1, rfl, hx1, hlen, hn3, hel⟩ := DataW.trod_array Tryd.underlying213 hd0
  have c3 : Tryd.prog.cellsOf 173 = 1 := by kernel_rfl
  simp only [Prod.mk.injEq, DataW.agg.injEq, Rows.laid_dryrot_crc_quarter] at hx1
  intro i hi
  have hi' := hel i hi
  rw [c3, Nat.mul_one] at hi'
  have hxl : i < xs.length := by omega
  rw [List.getElem?_eq_getElem hxl] at hi'
  obtain ⟨k, e1, e2, _⟩ := DataW.trod_int Tryd.underlying173 hi'
  have e3 : (xs.map (·.1))[i]? = some (DataW.lit (.int .u32 k)) := by
    rw [List.getElem?_map, List.getElem?_eq_getElem hxl]
    simp [e2]
  rw [← hx1.1] at e3
  have hk : k = quarterN i := by
    match i, hi with
    | 0, _ => simpa [quarterN] using e3.symm
    | 1, _ => simpa [quarterN] using e3.symm
    | 2, _ => simpa [quarterN] using e3.symm
    | 3, _ => simpa [quarterN] using e3.symm
  have e4 := World.var?_cell hg0 hv0 i
  have e5 : cs0.toList[i]? = some (.int .u32 k) := by
    have := congrArg (fun l => l[0]?) e1
    simpa [List.getElem?_take] using this
  rw [Array.getElem?_toList, hk] at e5
  rw [← e5, ← e4]
end Go.Proofs.YtjekeggkckgjfaaDoor
/- What the laws' cards share. -/
namespace Go.Proofs.YtjekeggkckgjfaaDoor
open Go.ChangeShapes Go.WideShapes Go.ChangeAt Go.RowKit HP
set_option linter.unusedVariables false

theorem old_carry {E : Env} {W w : World} (h : Sat E w (HP.old W)) : ∀ k, k < W.heap.size → w.heap[k]? = W.heap[k]? := fun k hk => Sat.old_block (p := HP.emp) (by rw [HP.mul_emp]; exact h) k hk
theorem quarter_old {E : Env} {W w : World} (hQ : Quarter W) (h : Sat E w (HP.old W)) : Quarter w := fun i hi => by
  rw [World.cell?_of_block (w := W) (old_carry h _ (World.block_lt_of_cell? W _ (hQ i hi)))]
  exact hQ i hi
theorem trodAll_five {H : Type} {enc : TypeId × Value → H} {P : Program} {w : World} {base : Nat} {spare : Nat → Bool} {held : Bool} {t t' t'' t3 t4 : TypeId} {args : Array Value} {ds : List (DataW H)} {ps : List MemPlace} (h : DataW.TrodAll enc P w base spare held [t, t', t'', t3, t4] args.toList ds ps) :
    ∃ v v' v'' v3 v4 d d' d'' d3 d4 p p' p'' p3 p4, args = #[v, v', v'', v3, v4] ∧ ds = [d, d', d'', d3, d4] ∧ ps = p ++ p' ++ p'' ++ p3 ++ p4 ∧ DataW.Trod enc P w base spare held t v d p ∧ DataW.Trod enc P w base spare held t' v' d' p' ∧ DataW.Trod enc P w base spare held t'' v'' d'' p'' ∧ DataW.Trod enc P w base spare held t3 v3 d3 p3 ∧ DataW.Trod enc P w base spare held t4 v4 d4 p4 := by
  obtain ⟨v, vs, d, ds', p, q, hargs, rfl, rfl, hd, hrest⟩ := trodAll_cons h
  obtain ⟨v', vs', d', ds'', p', q', rfl, rfl, rfl, hd', hrest'⟩ := trodAll_cons hrest
  obtain ⟨v'', vs'', d'', ds''', p'', q'', rfl, rfl, rfl, hd'', hrest''⟩ := trodAll_cons hrest'
  obtain ⟨v3, vs3, d3, ds3, p3, q3, rfl, rfl, rfl, hd3, hrest3⟩ := trodAll_cons hrest''
  obtain ⟨v4, vs4, d4, ds4, p4, q4, rfl, rfl, rfl, hd4, hrest4⟩ := trodAll_cons hrest3
  obtain ⟨rfl, rfl, rfl⟩ := trodAll_nil hrest4
  exact ⟨v, v', v'', v3, v4, d, d', d'', d3, d4, p, p', p'', p3, p4, by cases args; simp_all, rfl, by simp, hd, hd', hd'', hd3, hd4⟩
theorem rdB_at : (rdSl (rdInt .u8)).At Tryd.prog 22 := rdSl_at (n := 1) Tryd.underlying22 (by kernel_rfl) (rdInt_at Tryd.underlying5)
end Go.Proofs.YtjekeggkckgjfaaDoor
