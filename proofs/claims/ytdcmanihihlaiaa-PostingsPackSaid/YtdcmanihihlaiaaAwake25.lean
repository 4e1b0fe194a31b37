/- dryrotlaw25.awake: it is true. -/
import Derived.Test.YtdcmanihihlaiaaPack
import Derived.Test.YtdcmanihihlaiaaEqB
namespace Go.Proofs.Ytdcmanihihlaiaa
open Go.RowKit HP
set_option linter.unusedSimpArgs false
set_option linter.unusedVariables false

theorem pack_ok (E : Env) (q : HP) (A : Option Addr) (l : List Int) (c : Nat) (w : World) (hl : l.length ≤ 1000000) (hlc : l.length ≤ c) (hw : Sat E w q) (h : ∀ w, Sat E w q → IntsAt w A l) (hc : canB l = true) :
    Calls Try.prog 12 #[.slice A l.length c] w fun e w' => ∃ v, e = .returned (.tuple #[v, .int .i64 0]) ∧ Sat E w' (row 5 1 v (packI l).length (u8s (packI l)) * q) :=
  callsIn_wide.1 (pack_yes E q A l c w hl hlc hw h hc)

theorem packI_awake : packI [5, 6, 300] = [3, 5, 3, 0, 165, 2] := by
  simp [packI, packSt, starts, packStep, partAt, bodyI, bodyFrom, shortI, shortN, List.range, List.range.loop]

set_option maxHeartbeats 1000000 in
set_option maxRecDepth 100000 in
theorem awake_ok (E : Env) (q : HP) (w : World) (hw : Sat E w q) :
    Calls Try.prog 11 #[] w fun e w' => e = .returned (.bool true) ∧ Sat E w' q := by
  go_enter Try.func11, Try.ntmps11
  go_wp2_with fail
  have h0 := hw.alloc (.cells #[.int .i64 5, .int .i64 6, .int .i64 300] 3)
  refine (pack_ok E _ _ [5, 6, 300] 3 _ (by simp) (by simp) h0 (fun w' h' => ⟨?_⟩) (by decide)).mono ?_
  · have hc := h'.cell
    intro j u hu
    refine ⟨_, rfl, ?_⟩
    rw [addr_add, Nat.zero_add, hc]
    simpa [i64s] using hu
  rintro e w1 ⟨v, rfl, hw1⟩
  rw [packI_awake] at hw1
  obtain ⟨A1, c1, rfl, -, -⟩ := hw1.row_slice
  have hx := hw1.row_cells
  have hw2 := hw1.right.right
  clear hw1 h0
  go_wp2_with fail
  refine (equalB_ok A1 (some ⟨w1.heap.size, 0, none⟩) [3, 5, 3, 0, 165, 2] [3, 5, 3, 0, 165, 2] c1 6 _ (hx.alloc _) (Cells.fresh w1 (u8s [3, 5, 3, 0, 165, 2]) _ _) (by simp)).mono ?_
  rintro e w2 ⟨rfl, n, rfl⟩
  have hw3 := (hw2.alloc (.cells #[.int .u8 3, .int .u8 5, .int .u8 3, .int .u8 0, .int .u8 165, .int .u8 2] 5)).right.drewN (n := n)
  clear hx hw2
  go_wp2
  go_ret
  exact ⟨rfl, hw3⟩
end Go.Proofs.Ytdcmanihihlaiaa
