/- (*Disk).Write, whole. -/
import Derived.Test.YtgdcdcacccaanaaDiskZ3
namespace Go.Proofs.Ytgdcdcacccaanaa
open Go.RowKit HP
set_option linter.unusedSimpArgs false
set_option linter.unusedVariables false

theorem some_of_cells {w : World} {A : Option Addr} {cs : List Value} (h : Cells w A cs) (hl : 0 < cs.length) : ∃ a, A = some a := by
  obtain ⟨a, ha, _⟩ := h.at_ 0 hl
  exact ⟨a, ha⟩
theorem disk_write (E : Env) (q : HP) (d : Nat) (A : Dk) (name : ByteArray) (i : Int) (Ab : Option Addr) (l : List Int) (n c : Nat) (w : World) (hn : name.size ≤ maxLen) (hl : l.length = n) (hs : n ≤ maxLen) (hq : ∀ w, Sat E w q → Cells w Ab (b8s l)) (hw : Sat E w (HP.disk d A * q)) :
    Calls Try.prog 12 #[.pointer (some ⟨d, 0, none⟩), .string name, .int .i64 i, .slice Ab n c] w fun e w' => e = .returned (.int .i64 (A.write name i l).1) ∧ Sat E w' (HP.disk d (A.write name i l).2 * q) := by
  by_cases hbad : namedB name = false ∨ l.length ≠ 128 ∨ i < 0 ∨ (A.at name).length < i
  · have e : A.write name i l = (1, A) := by unfold Dk.write; rw [if_pos hbad]
    rw [e]
    exact disk_write_arg E q d A name i Ab l n c w hn hl hs hbad hw
  · have hnm : namedB name = true := by
      cases h : namedB name with
      | true => rfl
      | false => exact absurd (.inl h) hbad
    have hl8 : l.length = 128 := Decidable.byContradiction fun h => hbad (.inr (.inl h))
    have hi0 : 0 ≤ i := Int.not_lt.1 fun h => hbad (.inr (.inr (.inl h)))
    have hi1 : i ≤ (A.at name).length := Int.not_lt.1 fun h => hbad (.inr (.inr (.inr h)))
    obtain rfl : n = 128 := by omega
    cases hgo : A.goes with
    | false =>
      have e : A.write name i l = (31, A.burnt) := by unfold Dk.write; rw [if_neg hbad, if_pos hgo]
      rw [e]
      exact disk_write_dead E q d A name i Ab c w hn hnm hi0 hi1 hgo hw
    | true =>
      have hgo' : ¬ A.goes = false := by rw [hgo]; simp
      obtain ⟨ab, rfl⟩ := some_of_cells (hq w hw.right) (by rw [b8s_length]; omega)
      by_cases hie : i = (A.at name).length
      · by_cases hfr : A.free ≤ 0
        · have e : A.write name i l = (4, A.burnt) := by unfold Dk.write; rw [if_neg hbad, if_neg hgo', if_pos ⟨hie, hfr⟩]
          rw [e, hie]
          exact disk_write_full E q d A name _ c w hn hnm hgo hfr hw
        · have e : A.write name i l = (0, A.burnt.set name (A.at name ++ [Cel.zero.wrote l])) := by unfold Dk.write; rw [if_neg hbad, if_neg hgo', if_neg (fun h => hfr h.2), if_pos hie]
          rw [e, hie]
          exact disk_write_new E q d A name ab l c w hn hl8 hq hnm hgo (by omega) hw
      · obtain ⟨k, rfl⟩ := Int.eq_ofNat_of_zero_le hi0
        have e : A.write name k l = (0, A.burnt.set name ((A.at name).modify k fun c => c.wrote l)) := by
          unfold Dk.write; rw [if_neg hbad, if_neg hgo', if_neg (fun h => hie h.1), if_neg hie, Int.toNat_natCast]
        rw [e]
        exact disk_write_old E q d A name k ab l c w hn hl8 hq hnm (by omega) hgo hw
end Go.Proofs.Ytgdcdcacccaanaa
