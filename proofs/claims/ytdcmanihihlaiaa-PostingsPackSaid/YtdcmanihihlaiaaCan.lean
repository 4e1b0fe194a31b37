/- postings.can, and what may be packed, as plain functions of a list. -/
import Derived.Test.YtdcmanihihlaiaaRow
import Derived.Test.YtdcmanihihlaiaaProg
import Derived.Outline
namespace Go.Proofs.Ytdcmanihihlaiaa
open Go.RowKit HP
set_option linter.unusedSimpArgs false
set_option linter.unusedVariables false

def i64s (l : List Int) : List Value := l.map (Value.int .i64)
theorem i64s_length (l : List Int) : (i64s l).length = l.length := by simp [i64s]

/-- A slice value under which a list of ints lies. -/
structure IntsAt (w : World) (A : Option Addr) (l : List Int) : Prop where
  cells : Cells w A (i64s l)
theorem IntsAt.get {w : World} {A : Option Addr} {l : List Int} (h : IntsAt w A l) (k : Nat) (hk : k < l.length) : ∃ a, A = some a ∧ w.cell? (a.add k) = some (.int .i64 l[k]) := by
  obtain ⟨a, ha, hc⟩ := h.cells.at_ k (by rw [i64s_length]; exact hk)
  exact ⟨a, ha, by rw [hc]; simp [i64s]⟩


def risesFrom (last : Int) : List Int → Bool
  | [] => true
  | n :: l => decide (last < n) && decide (n ≤ 2147483647) && risesFrom n l
def canB (l : List Int) : Bool := risesFrom (-1) l && decide (l.length ≤ 100000)

set_option maxHeartbeats 1000000 in
set_option maxRecDepth 100000 in
theorem can_ok (A : Option Addr) (l : List Int) (c : Nat) (w : World) (hl : l.length ≤ 1000000) (h : IntsAt w A l) :
    Calls Try.prog 37 #[.slice A l.length c] w fun e w' => e = .returned (.bool (canB l)) ∧ w' = w := by
  go_enter Try.func37, Try.ntmps37
  go_wp2
  go_loop [3, 8] (fun x i => ∃ (k : Nat) (last : Int), k ≤ l.length ∧ i = .int .i64 k ∧ x = .int .i64 last ∧ Aside (risesFrom (-1) l = risesFrom last (l.drop k))) (fun _ i => l.length - (intOf i).toNat)
  case atStart => exact ⟨0, -1, Nat.zero_le _, rfl, rfl, ⟨rfl⟩⟩
  case round =>
    obtain ⟨k, last, hk, rfl, rfl, HR⟩ := hrel
    by_cases hlt : k < l.length
    · obtain ⟨a, rfl, hc⟩ := h.get k hlt
      obtain ⟨y, hy⟩ : ∃ y, l[k] = y := ⟨_, rfl⟩
      have HS : Aside (risesFrom (-1) l = (decide (last < y) && decide (y ≤ 2147483647) && risesFrom y (l.drop (k + 1)))) := ⟨by
        rw [HR.out, List.drop_eq_getElem_cons hlt, hy]; rfl⟩
      rw [hy] at hc
      clear hy HR
      by_cases h1 : last < y
      · by_cases h2 : y ≤ 2147483647
        · go_wp2
          go_round
          case rel => exact ⟨k + 1, y, by omega, by go_num, rfl, ⟨by rw [HS.out]; simp [h1, h2]⟩⟩
          case measure => simp [intOf]; omega
        · go_wp2
          go_ret
          exact ⟨ret_bool (by rw [canB, HS.out, decide_eq_false (by omega : ¬ y ≤ 2147483647)]; simp), rfl⟩
      · go_wp2
        go_ret
        exact ⟨ret_bool (by rw [canB, HS.out, decide_eq_false (by omega : ¬ last < y)]; simp), rfl⟩
    · obtain rfl : k = l.length := by omega
      have HT : Aside (canB l = decide (l.length ≤ 100000)) := ⟨by rw [canB, HR.out]; simp [risesFrom]⟩
      by_cases h3 : l.length ≤ 100000
      · go_wp2
        go_ret
        exact ⟨ret_bool (by rw [HT.out, decide_eq_true (by omega : l.length ≤ 100000)]; simp; omega), rfl⟩
      · go_wp2
        go_ret
        exact ⟨ret_bool (by rw [HT.out, decide_eq_false (by omega : ¬ l.length ≤ 100000)]; simp; omega), rfl⟩
end Go.Proofs.Ytdcmanihihlaiaa
