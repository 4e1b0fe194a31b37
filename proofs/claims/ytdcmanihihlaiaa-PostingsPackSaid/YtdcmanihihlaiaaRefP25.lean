/- dryrotref25.Pack: what it reckons. -/
import Derived.Test.YtdcmanihihlaiaaRefB25
import Derived.Test.YtdcmanihihlaiaaRefC25
namespace Go.Proofs.Ytdcmanihihlaiaa
open Go.RowKit HP
set_option linter.unusedSimpArgs false
set_option linter.unusedVariables false

set_option maxHeartbeats 1000000 in
set_option maxRecDepth 100000 in
theorem refPack_no (A : Option Addr) (l : List Int) (c : Nat) (w : World) (hl : l.length ≤ 1000000) (h : IntsAt w A l) (hc : canB l = false) :
    Calls Try.prog 17 #[.slice A l.length c] w fun e w' => e = .returned (.tuple #[.slice none 0 0, .int .i64 1]) ∧ w' = w := by
  go_enter Try.func17, Try.ntmps17
  go_wp2_with fail
  refine (refCan_ok A l c _ hl h).mono ?_
  rw [hc]
  rintro e w' ⟨rfl, rfl⟩
  clear h
  go_wp2
  go_ret2
  exact ⟨rfl, rfl⟩

theorem packSt_next (l : List Int) (k : Nat) : packSt l (starts (k + 1)) = packStep l (packSt l (starts k)) (8 * k) := by rw [starts_succ, packSt_snoc]

set_option maxHeartbeats 2000000 in
set_option maxRecDepth 100000 in
theorem refPack_ok (E : Env) (q : HP) (A : Option Addr) (l : List Int) (c : Nat) (w : World) (hl : l.length ≤ 100000) (hlc : l.length ≤ c) (hw : Sat E w q) (hq : ∀ w, Sat E w q → Cells w A (i64s l)) (hcan : canB l = true) :
    Calls Try.prog 17 #[.slice A l.length c] w fun e w' => ∃ v, e = .returned (.tuple #[v, .int .i64 0]) ∧ Sat E w' (row 5 1 v (packI l).length (u8s (packI l)) * q) := by
  have HCAN := Aside.mk hcan
  have HF := Aside.mk (fits_of_can hcan)
  go_enter Try.func17, Try.ntmps17
  go_wp2_with fail
  refine (refCan_ok A l c _ (by omega) ⟨hq _ hw⟩).mono ?_
  rw [hcan]
  rintro e w1 ⟨rfl, rfl⟩
  clear hcan
  go_wp2_with fail
  refine (refShort_ok E q l.length _ (by omega) hw).mono ?_
  rintro e w1 ⟨v1, rfl, hw1⟩
  clear hw
  have HS0 := Aside.mk ((hw1.row_nil 5 1 none).s2)
  clear hw1
  have HQ := Aside.mk hq
  clear hq
  go_wp2
  go_loopw [4, 5, 6, 7] (fun x4 x5 x6 x7 wr => ∃ (k n1 n2 : Nat) (s1 s2 : List Int) (last : Int), x7 = .int .i64 ((8 * k : Nat) : Int) ∧ x6 = .int .i64 last ∧ 8 * k ≤ l.length + 7 ∧ Aside (packSt l (starts k) = (s1, s2, last) ∧ s1.length = n1 ∧ s2.length = n2) ∧ Aside (Up last (l.drop (8 * k))) ∧ 0 ≤ last ∧ last ≤ 2147483647 ∧
    Aside (Sat E wr (row 5 1 x4 n1 (u8s s1) * (row 5 1 x5 n2 (u8s s2) * q)))) (fun _ _ _ x _ => l.length + 8 - (intOf x).toNat)
  case atStart => exact ⟨0, (shortN l.length).length, 0, shortN l.length, [], 0, rfl, rfl, by omega, ⟨by simp [packSt, starts, shortI_nat], rfl, rfl⟩, ⟨by simpa using up_of_can HCAN.out⟩, by omega, by omega, HS0⟩
  case round =>
    clear HS0
    obtain ⟨k, n1, n2, s1, s2, last, rfl, rfl, hk, HP0, HUP, hl0, hl1, HS⟩ := hrel
    obtain ⟨A4, c4, rfl, -, -⟩ := HS.out.row_slice
    obtain ⟨A5, c5, rfl, -, -⟩ := HS.out.s2.row_slice
    have hsl := packSt_len (l := l) (by omega) HF.out (starts k)
    rw [HP0.out.1, starts_length, HP0.out.2.1, HP0.out.2.2] at hsl
    have hn1 : n1 ≤ 1000000 := by omega
    have hn2 : n2 ≤ 2000000 := by omega
    clear hsl
    by_cases hlt : 8 * k < l.length
    · have hc := HQ.out _ HS.out.right.right
      obtain ⟨a, ha, hcx⟩ := hc.at_ (8 * k) (by rw [i64s_length]; exact hlt)
      obtain ⟨g, o, rfl⟩ : ∃ g o, a = ⟨g, o, none⟩ := slice_addr hc ha (k := 8 * k) (by rw [i64s_length]; exact hlt)
      subst ha
      rw [addr_add] at hcx
      simp only [i64s, List.getElem_map] at hcx
      obtain ⟨y, hy⟩ : ∃ y, l[8 * k] = y := ⟨_, rfl⟩
      rw [hy] at hcx
      have hdrop := List.drop_eq_getElem_cons hlt
      rw [hy] at hdrop
      have hyb := HUP.out.1 y (by rw [hdrop]; simp)
      have HH : Aside ((partAt l (8 * k)).headD 0 = y) := ⟨by simp [partAt, hdrop]⟩
      have HPU : Aside (Up last (partAt l (8 * k))) := ⟨HUP.out.take 8⟩
      have HUP2 : Aside (Up y (l.drop (8 * (k + 1)))) := ⟨by
        have := HUP.out.drop 8 (by omega)
        rw [List.drop_drop] at this
        rw [hdrop] at this
        simpa [Nat.mul_add] using this⟩
      have HPL : Aside ((partAt l (8 * k)).length = min 8 (l.length - 8 * k)) := ⟨by simp [partAt]⟩
      have HPQ : Aside (∀ w, Sat E w q → Cells w (some ⟨g, o + 8 * k, none⟩) (i64s (partAt l (8 * k)))) := ⟨fun w h => by
        have := ((HQ.out w h).drop (8 * k)).take 8
        rw [addr_add] at this
        simpa [i64s, partAt] using this⟩
      have HNX : Aside (packSt l (starts (k + 1)) = packStep l (s1, s2, last) (8 * k)) := ⟨by rw [packSt_next, HP0.out.1]⟩
      have HCX : Aside (∀ w, Sat E w q → w.cell? ⟨g, o + 8 * k, none⟩ = some (.int .i64 y)) := ⟨fun w h => by
        have := (HQ.out w h).some_ (8 * k) (.int .i64 y) (by simp [i64s, List.getElem?_eq_getElem hlt, hy])
        rwa [addr_add] at this⟩
      have hpl8 := part_len l (8 * k)
      have HBL : Aside ((bodyI (partAt l (8 * k))).length ≤ 10 * (partAt l (8 * k)).length) := ⟨bodyI_len (HF.out.part (8 * k))⟩
      generalize hp : partAt l (8 * k) = p at *
      have HPA := Aside.mk hp
      clear hp
      clear hdrop hc hy
      have hk8 : 8 * (k + 1) = 8 * k + 8 := by omega
      rw [hk8] at HUP2
      generalize hK : 8 * k = K at *
      have HK := Aside.mk hK
      clear hK hk8
      have hK0 : (0 : Int) ≤ (K : Int) := by omega
      have hK1 : (K : Int) < (l.length : Int) := by omega
      have hKc : K ≤ c := by omega
      have hKc2 : ¬ c = K := by omega
      obtain ⟨e, he⟩ : ∃ e, min 8 (l.length - K) = e := ⟨_, rfl⟩
      rw [he] at HPL
      have he1 : 1 ≤ e ∧ K + e ≤ l.length := by omega
      have he2 : (if (l.length : Int) < (K : Int) + 8 then (l.length : Int) else (K : Int) + 8) = ((K + e : Nat) : Int) := by split <;> omega
      have hme : ((K : Int)) ≤ ((K + e : Nat) : Int) := by omega
      have hmc : ((K + e : Nat) : Int) ≤ (c : Int) := by omega
      have hne : ¬ (K + e = K) := by omega
      have hsub : K + e - K = e := by omega
      clear he
      go_wp2_with fail
      have hpe := HPL.out
      subst hpe
      refine (refBody_ok E _ (some ⟨g, o + K, none⟩) p (c - K) _ (by omega) last hl0 HPU.out HS.out (fun w h => HPQ.out w h.right.right)).mono ?_
      rintro ee w2 ⟨v2, rfl, hw2⟩
      obtain ⟨A8, c8, rfl, -, -⟩ := hw2.row_slice
      have hcx2 := HCX.out _ hw2.right.right.right
      clear HS hcx hme hmc hne hsub he1 he2
      obtain ⟨n, hn⟩ : ∃ n : Nat, y - last = n := ⟨(y - last).toNat, by omega⟩
      have hnb : n < 9223372036854775808 := by omega
      have HN := Aside.mk hn
      clear hn
      have hsl1 := shortN_len 9 n (by omega)
      have hbl := HBL.out
      have hbb : (bodyI p).length ≤ 100 := by omega
      have hsl2 := shortN_len 9 (bodyI p).length (by omega)
      clear hbl
      have HW2 := Aside.mk hw2
      clear hw2
      go_wp2_with fail
      rw [HN.out]
      refine (refShort_ok E _ n _ hnb HW2.out).mono ?_
      rintro ee w3 ⟨v3, rfl, hw3⟩
      obtain ⟨A9, c9, rfl, -, -⟩ := hw3.row_slice
      have HW3 := Aside.mk hw3
      clear hw3 HW2 hcx2
      go_wp2_with (at_builtin; refine wpList_append_row slU8 rfl rfl (by rfl) (by rfl) HW3.out.s3 HW3.out.row_cells (by simp [u8s]) (by simp [u8s, Value.oneCell']) (by unfold maxLen; omega) (by omega) (fun v4 w4 hw4 => ?_); obtain ⟨A10, c10, rfl, -, -⟩ := hw4.row_slice; have HW4 := Aside.mk hw4.drop2; clear hw4 HW3)
      refine (refShort_ok E _ (bodyI p).length _ (by omega) HW4.out).mono ?_
      rintro ee w5 ⟨v5, rfl, hw5⟩
      obtain ⟨A11, c11, rfl, -, -⟩ := hw5.row_slice
      have HW5 := Aside.mk hw5
      clear hw5 HW4
      go_wp2_with (first
        | (at_builtin; refine wpList_append_row slU8 rfl rfl (by rfl) (by rfl) HW5.out.s2 HW5.out.row_cells (by simp [u8s]) (by simp [u8s, Value.oneCell']) (by unfold maxLen; omega) (by omega) (fun v6 w6 hw6 => ?_); obtain ⟨A12, c12, rfl, -, -⟩ := hw6.row_slice; have HW6 := Aside.mk hw6.drop2; clear hw6 HW5)
        | (at_builtin; refine wpList_append_row slU8 rfl rfl (by rfl) (by rfl) HW6.out.s3 HW6.out.s2.row_cells (by simp [u8s]) (by simp [u8s, Value.oneCell']) (by unfold maxLen; omega) (by omega) (fun v7 w7 hw7 => ?_); obtain ⟨A13, c13, rfl, -, -⟩ := hw7.row_slice; have hcx7 := HCX.out _ hw7.right.right.right; have HW7 := Aside.mk hw7.s3.right.s2; clear hw7 HW6))
      go_roundw
      case rel =>
        refine ⟨k + 1, n1 + (shortN n).length + (shortN (bodyI p).length).length, n2 + (bodyI p).length, s1 ++ shortN n ++ shortN (bodyI p).length, s2 ++ bodyI p, y, ?_, rfl, ?_, ⟨?_, ?_, ?_⟩, ⟨?_⟩, by omega, hyb.2, ⟨?_⟩⟩
        · have := HK.out
          congr 1
          omega
        · have := HK.out
          omega
        · rw [HNX.out]
          simp only [packStep, HPA.out, HH.out, HN.out, shortI_nat]
        · simp [HP0.out.2.1]
          omega
        · simp [HP0.out.2.2]
        · rw [show 8 * (k + 1) = K + 8 by rw [← HK.out]; omega]
          exact HUP2.out
        · simpa only [u8s, List.map_append] using HW7.out
      case measure => simp [intOf]; omega
    · have hkk : k = (l.length + 7) / 8 := by omega
      have HPI : Aside (packI l = s1 ++ s2 ∧ s1.length = n1 ∧ s2.length = n2) := ⟨by
        refine ⟨?_, HP0.out.2⟩
        unfold packI
        rw [← hkk, HP0.out.1]⟩
      have HSS := Aside.mk HS.out
      clear HS HP0 HUP hkk
      go_wp2_with (at_builtin; refine wpList_append_row slU8 rfl rfl (by rfl) (by rfl) HSS.out HSS.out.s2.row_cells (by simp [u8s, HPI.out.2.2]) (by simp [u8s, Value.oneCell']) (by unfold maxLen; omega) (by omega) (fun v6 w6 hw6 => ?_); have HW6 := Aside.mk hw6; clear hw6 HSS)
      go_ret2
      refine ⟨_, rfl, ?_⟩
      rw [HPI.out.1]
      have h9 := HW6.out.drop2
      rw [List.length_append, HPI.out.2.1, HPI.out.2.2]
      rw [show u8s (s1 ++ s2) = u8s s1 ++ u8s s2 by simp [u8s]]
      exact h9
end Go.Proofs.Ytdcmanihihlaiaa
