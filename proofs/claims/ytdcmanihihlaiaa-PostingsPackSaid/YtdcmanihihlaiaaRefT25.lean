/- dryrotref25.take: what it reckons. -/
import Derived.Test.YtdcmanihihlaiaaRefP25
namespace Go.Proofs.Ytdcmanihihlaiaa
open Go.RowKit HP
set_option linter.unusedSimpArgs false
set_option linter.unusedVariables false

def takeI (b : List Int) : Int × List Int × Bool := match numG b 5 0 0 with
  | some (n, k) => (n, b.drop k, decide (n ≤ 2147483648))
  | none => (0, [], false)
def takePost (E : Env) (q q0 : HP) (r : Int × List Int × Bool) (e : Ending) (w' : World) : Prop :=
  ∃ A' c', e = .returned (.tuple #[.int .i64 r.1, .slice A' r.2.1.length c', .bool r.2.2]) ∧ Sat E w' q ∧ r.2.1.length ≤ c' ∧ ∀ w, Sat E w q0 → Cells w A' (u8s r.2.1)

theorem pow7 (k : Nat) (h : k < 5) : (2 : Int) ^ (7 * (k + 1)) ≤ 34359738368 ∧ 1 ≤ (2 : Int) ^ (7 * k) ∧ (2 : Int) ^ (7 * k) ≤ 268435456 ∧ (2 : Int) ^ (7 * (k + 1)) = (2 : Int) ^ (7 * k) * 128 := by
  rcases (show k = 0 ∨ k = 1 ∨ k = 2 ∨ k = 3 ∨ k = 4 by omega) with rfl | rfl | rfl | rfl | rfl <;> decide

set_option maxHeartbeats 1000000 in
set_option maxRecDepth 100000 in
theorem take_ok (E : Env) (q q0 : HP) (A : Option Addr) (l : List Int) (c : Nat) (w : World) (hl : l.length ≤ c) (hb : Bytes l) (hcl : l.length ≤ 1000000)
    (hw : Sat E w q) (hqq : ∀ w, Sat E w q → Sat E w q0) (hq : ∀ w, Sat E w q0 → Cells w A (u8s l)) :
    Calls Try.prog 43 #[.slice A l.length c] w (takePost E q q0 (takeI l)) := by
  go_enter Try.func43, Try.ntmps43
  go_wp2
  go_loopw [5, 6, 7] (fun x M i wr => ∃ (k f : Nat) (n m : Int), f + k = 5 ∧ k ≤ l.length ∧ i = .int .i64 k ∧ x = .int .i64 n ∧ M = .int .i64 m ∧ Aside (m = 2 ^ (7 * k)) ∧ 0 ≤ n ∧ Aside (n < 2 ^ (7 * k)) ∧ Aside (numG l 5 0 0 = numG l f k n) ∧ wr = w) (fun _ _ i _ => 5 - (intOf i).toNat)
  case atStart => exact ⟨0, 5, 0, 1, rfl, Nat.zero_le _, rfl, rfl, rfl, ⟨by decide⟩, by omega, ⟨by decide⟩, ⟨rfl⟩, rfl⟩
  case round =>
    obtain ⟨k, f, n, m, hf, hk, rfl, rfl, rfl, HM, hn0, HN1, HG, rfl⟩ := hrel
    by_cases hlt : k < l.length
    · by_cases h5 : k < 5
      · have hc := hq _ (hqq _ hw)
        obtain ⟨a, ha, hcx⟩ := hc.at_ k (by simpa [u8s] using hlt)
        obtain ⟨g, o, rfl⟩ : ∃ g o, a = ⟨g, o, none⟩ := slice_addr hc ha (by simpa [u8s] using hlt)
        subst ha
        have hbk := hb l[k] (List.getElem_mem _)
        have HL : Aside (l[k]? = some l[k]) := ⟨List.getElem?_eq_getElem hlt⟩
        simp only [u8s, List.getElem_map] at hcx
        rw [addr_add] at hcx
        generalize l[k] = y at hcx hbk HL
        obtain ⟨f, rfl⟩ : ∃ f', f = f' + 1 := ⟨f - 1, by omega⟩
        obtain ⟨_, hm0, hm1⟩ := or_shift n y k hn0 HN1.out hbk h5
        obtain ⟨p, hp⟩ : ∃ p, y % 128 * 2 ^ (7 * k) = p := ⟨_, rfl⟩
        obtain ⟨h35, hm1', hm28', hmul⟩ := pow7 k h5
        have hm28 : 1 ≤ m ∧ m ≤ 268435456 := by rw [HM.out]; exact ⟨hm1', hm28'⟩
        have HMUL : Aside (m * 128 = 2 ^ (7 * (k + 1))) := ⟨by rw [HM.out, hmul]⟩
        clear hm1' hm28' hmul
        rw [hp] at hm0 hm1
        have hpb : 0 ≤ p ∧ n + p < 34359738368 := by
          refine ⟨?_, by omega⟩
          rw [← hp]
          exact Int.mul_nonneg (by omega) (by rw [← HM.out]; omega)
        obtain ⟨r, hr⟩ : ∃ r, y % 128 = r := ⟨_, rfl⟩
        have hrt : y.tmod 128 = r := by rw [Int.tmod_eq_emod_of_nonneg hbk.1, hr]
        have hrb : 0 ≤ r ∧ r ≤ 127 := by omega
        have hrm : wrap64 (r * m) = p := by
          rw [HM.out, ← hr, hp]; unfold wrap64; omega
        have HP1 := Aside.mk (And.intro hp (And.intro hm1 hr))
        clear hp hm1 h35 hr hm0
        by_cases h128 : y < 128
        · have HV : Aside (takeI l = (n + p, l.drop (k + 1), decide (n + p ≤ 2147483648))) := ⟨by
            rw [takeI, HG.out, numG, HL.out]; simp only [if_pos h128, HP1.out.1]⟩
          have hd : ∀ w, Sat E w q0 → Cells w (some ⟨g, o + (k + 1), none⟩) (u8s (l.drop (k + 1))) := fun w' h' => by
            have := (hq w' h').drop (k + 1)
            rw [addr_add] at this
            simpa [u8s] using this
          have hk0 : (0 : Int) ≤ (k : Int) + 1 := by omega
          have hkl : (k : Int) + 1 ≤ (l.length : Int) := by omega
          by_cases hck : c = k + 1
          · subst hck
            have hl0 : l.length = k + 1 := by omega
            have hdr : l.drop (k + 1) = [] := List.drop_of_length_le (by omega)
            have HT : Aside (takePost E q q0 (takeI l) (.returned (.tuple #[.int .i64 (n + p), .slice (some ⟨g, o, none⟩) 0 0, .bool (decide (n + p ≤ 2147483648))])) wr.drew) := ⟨by
              rw [HV.out, hdr]
              exact ⟨_, _, rfl, hw.drew, Nat.le_refl _, fun _ _ => Cells.nil _ _⟩⟩
            clear hq hqq hc hw hd hdr HV
            rw [hl0]
            rw [hl0] at hkl
            go_wp2_with fail
            refine region_R [] [] (fun _ => True) #[false, false, false, false, false, false, false, false, false, false] (by kernel_rfl) rfl rfl ?_
            refine wpR_rd 0 #[true, false, false, false, false, false, false, false, false, false] rfl onlyN_noPanic (by kernel_rfl) (fun K hK => ?_); (go_simp; try go_bits); refine hK _ ?_; clear hK K
            refine wpR_rd 1 #[true, true, false, false, false, false, false, false, false, false] rfl onlyN_noPanic (by kernel_rfl) (fun K hK => ?_); (go_simp; try go_bits); refine hK _ ?_; clear hK K
            refine wpR_rd 2 #[true, true, true, false, false, false, false, false, false, false] rfl onlyN_noPanic (by kernel_rfl) (fun K hK => ?_); (go_simp; try go_bits); refine hK _ ?_; clear hK K
            refine wpR_rd 3 #[true, true, true, true, false, false, false, false, false, false] rfl onlyN_noPanic (by kernel_rfl) (fun K hK => ?_); (go_simp; try go_bits); refine hK _ ?_; clear hK K
            refine wpR_rd 4 #[true, true, true, true, true, false, false, false, false, false] rfl onlyN_noPanic (by kernel_rfl) (fun K hK => ?_); (go_simp; try go_bits); refine hK _ ?_; clear hK K
            refine wpR_rd 5 #[true, true, true, true, true, true, false, false, false, false] rfl onlyN_noPanic (by kernel_rfl) (fun K hK => ?_); (go_simp; try go_bits); refine hK _ ?_; clear hK K
            refine wpR_rd 6 #[true, true, true, true, true, true, true, false, false, false] rfl onlyN_noPanic (by kernel_rfl) (fun K hK => ?_); (go_simp; try go_bits); refine hK _ ?_; clear hK K
            refine wpR_rd 7 #[true, true, true, true, true, true, true, true, false, false] rfl onlyN_noPanic (by kernel_rfl) (fun K hK => ?_); (go_simp; try go_bits); refine hK _ ?_; clear hK K
            refine wpR_rd 8 #[true, true, true, true, true, true, true, true, true, false] rfl onlyN_noPanic (by kernel_rfl) (fun K hK => ?_); (go_simp; try go_bits); refine hK _ ?_; clear hK K
            refine wpR_rd 9 #[true, true, true, true, true, true, true, true, true, true] rfl onlyN_noPanic (by kernel_rfl) (fun K hK => ?_); (go_simp; try go_bits); refine hK _ ?_; clear hK K
            refine wpR_done (by kernel_rfl) ?_ _
            simp only [OnlyN]
            go_wp2
            go_ret3
            exact HT.out
          · have HT : Aside (takePost E q q0 (takeI l) (.returned (.tuple #[.int .i64 (n + p), .slice (some ⟨g, o + (k + 1), none⟩) (l.length - (k + 1)) (c - (k + 1)), .bool (decide (n + p ≤ 2147483648))])) wr.drew) := ⟨by
              rw [HV.out]
              refine ⟨some ⟨g, o + (k + 1), none⟩, c - (k + 1), ?_, hw.drew, ?_, hd⟩
              · simp
              · simp; omega⟩
            clear hq hqq hc hw hd HV
            go_wp2_with fail
            refine region_R [] [] (fun _ => True) #[false, false, false, false, false, false, false, false, false, false] (by kernel_rfl) rfl rfl ?_
            refine wpR_rd 0 #[true, false, false, false, false, false, false, false, false, false] rfl onlyN_noPanic (by kernel_rfl) (fun K hK => ?_); (go_simp; try go_bits); refine hK _ ?_; clear hK K
            refine wpR_rd 1 #[true, true, false, false, false, false, false, false, false, false] rfl onlyN_noPanic (by kernel_rfl) (fun K hK => ?_); (go_simp; try go_bits); refine hK _ ?_; clear hK K
            refine wpR_rd 2 #[true, true, true, false, false, false, false, false, false, false] rfl onlyN_noPanic (by kernel_rfl) (fun K hK => ?_); (go_simp; try go_bits); refine hK _ ?_; clear hK K
            refine wpR_rd 3 #[true, true, true, true, false, false, false, false, false, false] rfl onlyN_noPanic (by kernel_rfl) (fun K hK => ?_); (go_simp; try go_bits); refine hK _ ?_; clear hK K
            refine wpR_rd 4 #[true, true, true, true, true, false, false, false, false, false] rfl onlyN_noPanic (by kernel_rfl) (fun K hK => ?_); (go_simp; try go_bits); refine hK _ ?_; clear hK K
            refine wpR_rd 5 #[true, true, true, true, true, true, false, false, false, false] rfl onlyN_noPanic (by kernel_rfl) (fun K hK => ?_); (go_simp; try go_bits); refine hK _ ?_; clear hK K
            refine wpR_rd 6 #[true, true, true, true, true, true, true, false, false, false] rfl onlyN_noPanic (by kernel_rfl) (fun K hK => ?_); (go_simp; try go_bits); refine hK _ ?_; clear hK K
            refine wpR_rd 7 #[true, true, true, true, true, true, true, true, false, false] rfl onlyN_noPanic (by kernel_rfl) (fun K hK => ?_); (go_simp; try go_bits); refine hK _ ?_; clear hK K
            refine wpR_rd 8 #[true, true, true, true, true, true, true, true, true, false] rfl onlyN_noPanic (by kernel_rfl) (fun K hK => ?_); (go_simp; try go_bits); refine hK _ ?_; clear hK K
            refine wpR_rd 9 #[true, true, true, true, true, true, true, true, true, true] rfl onlyN_noPanic (by kernel_rfl) (fun K hK => ?_); (go_simp; try go_bits); refine hK _ ?_; clear hK K
            refine wpR_done (by kernel_rfl) ?_ _
            simp only [OnlyN]
            go_wp2
            go_ret3
            exact HT.out
        · have HV : Aside (numG l 5 0 0 = numG l f (k + 1) (n + p)) := ⟨by rw [HG.out, numG, HL.out]; simp only [if_neg h128, HP1.out.1]⟩
          clear hc
          go_wp2
          go_roundw
          case rel => exact ⟨k + 1, f, n + p, m * 128, by omega, by omega, by go_num, rfl, by first | rfl | trivial, HMUL, by omega, ⟨HP1.out.2.1⟩, HV, by first | rfl | trivial⟩
          case measure => simp [intOf]; omega
      · have HV : Aside (takeI l = (0, [], false)) := ⟨by
          obtain rfl : f = 0 := by omega
          rw [takeI, HG.out, numG]⟩
        have HT : Aside (takePost E q q0 (takeI l) (.returned (.tuple #[.int .i64 0, .slice none 0 0, .bool false])) wr) := ⟨by
          rw [HV.out]
          exact ⟨none, 0, rfl, hw, Nat.le_refl _, fun _ _ => Cells.nil _ _⟩⟩
        clear hq hqq hw HV
        go_wp2
        go_ret3
        exact HT.out
    · have HV : Aside (takeI l = (0, [], false)) := ⟨by
        by_cases h5 : f = 0
        · subst h5; rw [takeI, HG.out, numG]
        · obtain ⟨f, rfl⟩ : ∃ f', f = f' + 1 := ⟨f - 1, by omega⟩
          rw [takeI, HG.out, numG, List.getElem?_eq_none (by omega)]⟩
      have HT : Aside (takePost E q q0 (takeI l) (.returned (.tuple #[.int .i64 0, .slice none 0 0, .bool false])) wr) := ⟨by
        rw [HV.out]
        exact ⟨none, 0, rfl, hw, Nat.le_refl _, fun _ _ => Cells.nil _ _⟩⟩
      clear hq hqq hw HV
      go_wp2
      go_ret3
      exact HT.out
end Go.Proofs.Ytdcmanihihlaiaa
