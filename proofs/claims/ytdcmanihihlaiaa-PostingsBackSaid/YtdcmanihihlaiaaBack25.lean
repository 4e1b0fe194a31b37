/- dryrotlaw25.PostingsBack: the walk. -/
import Derived.Test.YtdcmanihihlaiaaInv25
import Derived.Test.YtdcmanihihlaiaaClone25
import Derived.Test.YtdcmanihihlaiaaEqI
import Derived.Test.YtdcmanihihlaiaaOnce25
namespace Go.Proofs.Ytdcmanihihlaiaa
open Go.RowKit HP
set_option linter.unusedSimpArgs false
set_option linter.unusedVariables false

theorem canB_of {up : List Int} {last : Int} (h1 : ∀ x ∈ up, -1 < x ∧ x ≤ last) (h2 : up.Pairwise (· < ·)) (hl : last ≤ 2147483647) (hn : up.length ≤ 100000) : canB up = true := by
  simp only [canB, Bool.and_eq_true, decide_eq_true_eq]
  exact ⟨(rises_iff up (-1)).2 ⟨fun x hx => ⟨(h1 x hx).1, by have := (h1 x hx).2; omega⟩, h2⟩, hn⟩

set_option maxHeartbeats 2000000 in
set_option maxRecDepth 100000 in
theorem back_ok (E : Env) (q : HP) (A : Option Addr) (l0 : List Int) (c : Nat) (w : World) (hl : l0.length ≤ c) (hb : ∀ x ∈ l0, -9223372036854775808 ≤ x ∧ x < 9223372036854775808) (hw : Sat E w q) (hq : ∀ w, Sat E w q → Cells w A (i64s l0)) :
    Calls Try.prog 5 #[.slice A l0.length c] w fun e w' => e = .returned (.bool true) ∧ Sat E w' q := by
  go_enter Try.func5, Try.ntmps5
  go_wp2_with fail
  refine (cut_ok A l0.length c _ hl).mono ?_
  rintro e w1 ⟨rfl, rfl⟩
  obtain ⟨m, hm⟩ : ∃ m, min l0.length 80 = m := ⟨_, rfl⟩
  rw [hm]
  have hm80 : m ≤ 80 := by omega
  have hml : m ≤ l0.length := by omega
  have hl0 := Aside.mk hl
  clear hm hl
  go_wp2
  have HS0 := Aside.mk (hw.row_nil 3 1 none)
  clear hw
  go_loopw [3, 4, 17] (fun x3 x4 x17 wr => ∃ (k N : Nat) (up : List Int) (last : Int), x17 = .int .i64 k ∧ x4 = .int .i64 last ∧ k ≤ m ∧ N ≤ k ∧ -1 ≤ last ∧ last ≤ 2147483647 ∧
    Aside (up.length = N ∧ (∀ x ∈ up, -1 < x ∧ x ≤ last) ∧ up.Pairwise (· < ·)) ∧ Aside (Sat E wr (HP.row 3 1 x3 N (i64s up) * q))) (fun _ _ x _ => m - (intOf x).toNat)
  case atStart => exact ⟨0, 0, [], -1, rfl, rfl, Nat.zero_le _, Nat.le_refl _, by omega, by omega, ⟨rfl, (fun x hx => by cases hx), List.Pairwise.nil⟩, HS0⟩
  case round =>
    clear HS0
    obtain ⟨k, N, up, last, rfl, rfl, hk, hN, h1, h2, HU, HS⟩ := hrel
    obtain ⟨A3, c3, rfl, -, -⟩ := HS.out.row_slice
    by_cases hlt : k < m
    · have hc := hq _ HS.out.right
      obtain ⟨a, ha, hcx⟩ := hc.at_ k (by simp [i64s]; omega)
      obtain ⟨g, o, rfl⟩ : ∃ g o, a = ⟨g, o, none⟩ := slice_addr hc ha (k := k) (by simp [i64s]; omega)
      subst ha
      simp only [i64s, List.getElem_map] at hcx
      rw [addr_add] at hcx
      have hbx := hb l0[k] (List.getElem_mem _)
      generalize l0[k] = y at hcx hbx
      clear hc hb hq
      have hk0 : (0 : Int) ≤ (k : Int) := by omega
      have hk1 : (k : Int) < (m : Int) := by omega
      obtain ⟨s, hs⟩ : ∃ s, (IntKind.u64.wrap y).tmod 16777216 = s := ⟨_, rfl⟩
      have hsb : 0 ≤ s ∧ s < 16777216 := by
        have hu : 0 ≤ IntKind.u64.wrap y := by simp [IntKind.wrap, IntKind.bits, IntKind.signed]; omega
        rw [← hs, Int.tmod_eq_emod_of_nonneg hu]
        omega
      by_cases hle : last ≤ 2130706431
      · have hs1 : wrap64 s = s := by unfold wrap64; omega
        have hs2 : wrap64 (1 + s) = 1 + s := by unfold wrap64; omega
        have hs3 : wrap64 (last + (1 + s)) = last + (1 + s) := by unfold wrap64; omega
        go_wp2_with (at_builtin; refine wpList_append_new slI64 rfl rfl (by rfl) (by rfl) HS.out (by rfl) (by rfl) (by unfold maxLen; omega) (by omega) (fun v4 w4 hw4 => ?_); have HW4 := Aside.mk hw4; clear hw4 HS)
        go_roundw
        case rel =>
          refine ⟨k + 1, N + 1, up ++ [last + (1 + s)], last + (1 + s), by go_num, rfl, by omega, by omega, by omega, by omega, ⟨by simp [HU.out.1], ?_, ?_⟩, ⟨?_⟩⟩
          · intro x hx
            rcases List.mem_append.1 hx with hx | hx
            · have := HU.out.2.1 x hx; omega
            · simp only [List.mem_singleton] at hx; omega
          · rw [List.pairwise_append]
            refine ⟨HU.out.2.2, List.pairwise_singleton _ _, fun x hx y hy => ?_⟩
            have := HU.out.2.1 x hx
            simp only [List.mem_singleton] at hy; omega
          · simpa only [i64s, List.map_append, List.map_cons, List.map_nil] using HW4.out
        case measure => simp [intOf]; omega
      · go_wp2
        go_roundw
        case rel => exact ⟨k + 1, N, up, last, by go_num, rfl, by omega, by omega, h1, h2, HU, HS⟩
        case measure => simp [intOf]; omega
    · have hcan : canB up = true := canB_of HU.out.2.1 HU.out.2.2 h2 (by rw [HU.out.1]; omega)
      have hupl : up.length ≤ 80 := by rw [HU.out.1]; omega
      obtain rfl := HU.out.1
      have hlc : up.length ≤ c3 := by
        obtain ⟨A', c', he, g1, -⟩ := HS.out.row_slice
        cases he; exact g1
      clear HU hq hb hN h1 h2
      go_wp2_with fail
      refine (pack_ok E _ A3 up c3 _ (by omega) hlc HS.out (fun w h => ⟨h.row_cells⟩) hcan).mono ?_
      rintro e w2 ⟨v2, rfl, hw2⟩
      obtain ⟨A2, c2, rfl, hlc2, -⟩ := hw2.row_slice
      clear HS
      have hpl : (packI up).length ≤ 10000 := by
        have hf := fits_of_can hcan
        have hk := packSt_len (by omega) hf (starts ((up.length + 7) / 8))
        rw [starts_length] at hk
        show ((packSt up _).1 ++ (packSt up _).2.1).length ≤ _
        rw [List.length_append]
        omega
      have hun := unpack_pack hcan
      have hum := unpack_more hcan (t := [0]) (by simp)
      have hpb := packI_bytes up
      have hlen1 : (packI up ++ [0]).length = (packI up).length + 1 := by simp
      have hcells1 : u8s (packI up ++ [0]) = u8s (packI up) ++ [.int .u8 0] := by simp [u8s]
      have hpb1 : Bytes (packI up ++ [0]) := hpb.append (fun x hx => by simp at hx; omega)
      generalize packI up = b at *
      have HN := Aside.mk hun
      have HM := Aside.mk hum
      have HC := Aside.mk (And.intro hlen1 (And.intro hcells1 hcan))
      clear hun hum hlen1 hcells1 hcan
      go_wp2_with fail
      refine (unpack_ok E _ A2 b c2 _ hlc2 hpb (by omega) hw2 (fun w h => h.row_cells)).mono ?_
      rw [HN.out]
      rintro e w3 ⟨v3, rfl, hw3⟩
      obtain ⟨A4, c4, rfl, hlc4, -⟩ := hw3.row_slice
      clear hw2
      go_wp2_with fail
      refine (cloneB_ok E _ A2 b c2 _ (by omega) hw3 hw3.right.row_cells).mono ?_
      rintro e w4 ⟨v5, rfl, hw4⟩
      obtain ⟨A5, c5, rfl, -, -⟩ := hw4.row_slice
      have HW4 := Aside.mk hw4
      clear hw3 hw4
      go_wp2_with (first | (at_builtin; refine wpList_append_new slU8 rfl rfl (by rfl) (by rfl) HW4.out (by rfl) (by rfl) (by unfold maxLen; omega) (by omega) (fun v6 w6 hw6 => ?_); obtain ⟨A6, c6, rfl, hlc6, -⟩ := hw6.row_slice; rw [← HC.out.2.1, ← HC.out.1] at hw6; clear HW4) | fail)
      have hU := unpack_ok E _ A6 (b ++ [0]) c6 w6 (by rw [HC.out.1]; exact hlc6) hpb1 (by rw [HC.out.1]; omega) hw6 (fun w h => h.row_cells)
      rw [HC.out.1, HM.out] at hU
      refine hU.mono ?_
      clear hU hw6
      rintro e w7 ⟨rfl, hw7⟩
      have hw8 := hw7.right
      clear hw7
      have hE := equalI_ok A4 A3 up up c4 c3 w7 hw8.row_cells hw8.right.right.row_cells (by omega)
      have HE := Aside.mk hE
      have HW8 := Aside.mk hw8
      clear hE hw8
      go_wp2_with fail
      refine HE.out.mono ?_
      rintro e w9 ⟨rfl, n9, rfl⟩
      have hd : (up == up) = true := by simp
      rw [hd]
      have HT := Aside.mk (HW8.out.right.right.right.drewN (n := n9))
      clear HE HW8 hd
      go_wp2
      go_ret
      exact ⟨rfl, HT.out⟩
end Go.Proofs.Ytdcmanihihlaiaa
