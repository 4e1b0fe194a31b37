/- dryrotref25's short, can: what they reckon. -/
import Derived.Test.YtdcmanihihlaiaaInv25
import Derived.Test.YtdcmanihihlaiaaClone25
namespace Go.Proofs.Ytdcmanihihlaiaa
open Go.RowKit HP
set_option linter.unusedSimpArgs false
set_option linter.unusedVariables false

set_option maxHeartbeats 400000 in
set_option maxRecDepth 100000 in
theorem refCan_ok (A : Option Addr) (l : List Int) (c : Nat) (w : World) (hl : l.length ≤ 1000000) (h : IntsAt w A l) :
    Calls Try.prog 40 #[.slice A l.length c] w fun e w' => e = .returned (.bool (canB l)) ∧ w' = w := by
  go_enter Try.func40, Try.ntmps40
  go_wp2
  go_loop [7] (fun i => ∃ (k : Nat) (last : Int), k ≤ l.length ∧ i = .int .i64 k ∧ -1 ≤ last ∧ (k = 0 → last = -1) ∧ Aside (∀ j, k = j + 1 → l[j]? = some last) ∧ Aside (risesFrom (-1) l = risesFrom last (l.drop k))) (fun i => l.length - (intOf i).toNat)
  case atStart => exact ⟨0, -1, Nat.zero_le _, rfl, by omega, fun _ => rfl, ⟨fun j hj => by omega⟩, ⟨rfl⟩⟩
  case round =>
    obtain ⟨k, last, hk, rfl, hm1, h0, HP0, HR⟩ := hrel
    by_cases hlt : k < l.length
    · obtain ⟨a, ha, hc⟩ := h.get k hlt
      obtain ⟨g, o, rfl⟩ : ∃ g o, a = ⟨g, o, none⟩ := slice_addr h.cells ha (k := k) (by rw [i64s_length]; exact hlt)
      subst ha
      rw [addr_add] at hc
      obtain ⟨y, hy⟩ : ∃ y, l[k] = y := ⟨_, rfl⟩
      have HY : Aside (l[k]? = some y) := ⟨by rw [List.getElem?_eq_getElem hlt, hy]⟩
      have HS : Aside (risesFrom (-1) l = (decide (last < y) && decide (y ≤ 2147483647) && risesFrom y (l.drop (k + 1)))) := ⟨by
        rw [HR.out, List.drop_eq_getElem_cons hlt, hy]; rfl⟩
      rw [hy] at hc
      clear hy HR
      by_cases hk0 : k = 0
      · subst hk0
        obtain rfl := h0 rfl
        clear h0 HP0
        rw [Nat.add_zero] at hc
        by_cases h1 : y < 0
        · go_wp2
          go_ret
          exact ⟨ret_bool (by rw [canB, HS.out, decide_eq_false (by omega : ¬ -1 < y)]; simp), rfl⟩
        · by_cases h2 : y > 2147483647
          · go_wp2
            go_ret
            exact ⟨ret_bool (by rw [canB, HS.out, decide_eq_false (by omega : ¬ y ≤ 2147483647)]; simp), rfl⟩
          · go_wp2
            go_round
            case rel => exact ⟨1, y, by omega, by go_num, by omega, by omega, ⟨fun j hj => by
                have : j = 0 := by omega
                subst this
                exact HY.out⟩, ⟨by rw [HS.out]; simp; omega⟩⟩
            case measure => simp [intOf]; omega
      · obtain ⟨j, rfl⟩ : ∃ j, k = j + 1 := ⟨k - 1, by omega⟩
        obtain ⟨a', ha', hc'⟩ := h.get j (by omega)
        cases ha'
        rw [addr_add] at hc'
        have HL := HP0.out j rfl
        rw [List.getElem?_eq_getElem (by omega)] at HL
        rw [Option.some.inj HL] at hc'
        clear h0 HP0 HL
        have hj0 : (0 : Int) ≤ (j : Int) := by omega
        have hj1 : (j : Int) < (l.length : Int) := by omega
        have hj2 : (0 : Int) < (j : Int) + 1 := by omega
        have hj3 : (j : Int) + 1 < (l.length : Int) := by omega
        have hjw : wrap64 ((j : Int) + 1 - 1) = (j : Int) := by unfold wrap64; omega
        by_cases h1 : y < 0
        · go_wp2
          go_ret
          exact ⟨ret_bool (by rw [canB, HS.out, decide_eq_false (by omega : ¬ last < y)]; simp), rfl⟩
        · by_cases h2 : y > 2147483647
          · go_wp2
            go_ret
            exact ⟨ret_bool (by rw [canB, HS.out, decide_eq_false (by omega : ¬ y ≤ 2147483647)]; simp), rfl⟩
          · by_cases h3 : last ≥ y
            · go_wp2
              go_ret
              exact ⟨ret_bool (by rw [canB, HS.out, decide_eq_false (by omega : ¬ last < y)]; simp), rfl⟩
            · go_wp2
              go_round
              case rel => exact ⟨j + 1 + 1, y, by omega, by go_num, by omega, by omega, ⟨fun i hi => by
                  have : i = j + 1 := by omega
                  subst this
                  exact HY.out⟩, ⟨by rw [HS.out]; simp; omega⟩⟩
              case measure => simp [intOf]; omega
    · obtain rfl : k = l.length := by omega
      have HT : Aside (canB l = decide (l.length ≤ 100000)) := ⟨by rw [canB, HR.out]; simp [risesFrom]⟩
      clear h0 HP0 HR
      by_cases h3 : l.length ≤ 100000
      · go_wp2
        go_ret
        exact ⟨ret_bool (by rw [HT.out, decide_eq_true (by omega : l.length ≤ 100000)]; simp; omega), rfl⟩
      · go_wp2
        go_ret
        exact ⟨ret_bool (by rw [HT.out, decide_eq_false (by omega : ¬ l.length ≤ 100000)]; simp; omega), rfl⟩
end Go.Proofs.Ytdcmanihihlaiaa
