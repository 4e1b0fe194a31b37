/- slices.Clone of bytes and of numbers; cut. -/
import Derived.Test.YtdcmanihihlaiaaUnpack25
import Derived.Lib.SliceRun
namespace Go.Proofs.Ytdcmanihihlaiaa
open Go.RowKit HP
set_option linter.unusedSimpArgs false
set_option linter.unusedVariables false

set_option maxHeartbeats 1000000 in
set_option maxRecDepth 100000 in
theorem cut_ok (A : Option Addr) (n c : Nat) (w : World) (h : n ≤ c) :
    Calls Try.prog 14 #[.slice A n c] w fun e w' => e = .returned (.slice A (min n 80) c) ∧ w' = w := by
  go_enter Try.func14, Try.ntmps14
  obtain ⟨k, hk⟩ : ∃ k, k = min n 80 := ⟨_, rfl⟩
  rw [← hk]
  by_cases h4 : n ≤ 80
  · obtain rfl : k = n := by omega
    clear hk
    have h80 : k ≤ 80 := h4
    go_wp2
    go_ret
    exact ⟨rfl, rfl⟩
  · obtain rfl : k = 80 := by omega
    clear hk
    have h80 : 80 ≤ c := by omega
    go_wp2
    go_ret
    exact ⟨rfl, rfl⟩

set_option maxHeartbeats 1000000 in
set_option maxRecDepth 100000 in
theorem cloneB_ok (E : Env) (q : HP) (A : Option Addr) (l : List Int) (c : Nat) (w : World) (hl : l.length ≤ 1000000) (hw : Sat E w q) (hc : Cells w A (u8s l)) :
    Calls Try.prog 16 #[.slice A l.length c] w fun e w' => ∃ v, e = .returned v ∧ Sat E w' (HP.row 5 1 v l.length (u8s l) * q) := by
  go_enter Try.func16, Try.ntmps16
  cases A with
  | none =>
    have hl0 : l = [] := by
      cases l with
      | nil => rfl
      | cons x l => obtain ⟨a, ha, _⟩ := hc.at_ 0 (by simp [u8s]); cases ha
    subst hl0
    have hnil := Lib.run_eql_slice_nil (P := Try.prog) w 22 5 none 0 c 0 0 Try.underlying22
    simp only [List.length_nil]
    go_wp2
    go_ret
    exact ⟨_, rfl, hw.row_nil _ _ _⟩
  | some a =>
    have hil : (u8s l).length = l.length * 1 := by simp [u8s]
    have hall : (u8s l).all Value.oneCell' = true := by simp [u8s, Value.oneCell']
    have HH := Aside.mk (And.intro hw (And.intro hc (And.intro hil hall)))
    clear hw hc hil hall
    generalize hm : l.length = m at *
    have HM := Aside.mk hm
    clear hm
    have hnil := Lib.run_eql_slice_nil (P := Try.prog) w 22 5 (some a) m c 0 0 Try.underlying22
    go_wp2_with (at_builtin; refine wpList_append_row slU8 rfl rfl (by rfl) (by rfl) (((HH.out.1.alloc _).right).row_nil _ _ _) (HH.out.2.1.alloc _) HH.out.2.2.1 HH.out.2.2.2 (by unfold maxLen; omega) (by omega) (fun v4 w4 hw4 => ?_))
    go_ret
    refine ⟨_, rfl, ?_⟩
    simpa using hw4
set_option maxHeartbeats 1000000 in
set_option maxRecDepth 100000 in
theorem cloneI_ok (E : Env) (q : HP) (A : Option Addr) (l : List Int) (c : Nat) (w : World) (hl : l.length ≤ 1000000) (hw : Sat E w q) (hc : Cells w A (i64s l)) :
    Calls Try.prog 15 #[.slice A l.length c] w fun e w' => ∃ v, e = .returned v ∧ Sat E w' (HP.row 3 1 v l.length (i64s l) * q) := by
  go_enter Try.func15, Try.ntmps15
  cases A with
  | none =>
    have hl0 : l = [] := by
      cases l with
      | nil => rfl
      | cons x l => obtain ⟨a, ha, _⟩ := hc.at_ 0 (by simp [i64s]); cases ha
    subst hl0
    have hnil := Lib.run_eql_slice_nil (P := Try.prog) w 23 3 none 0 c 0 0 Try.underlying23
    simp only [List.length_nil]
    go_wp2
    go_ret
    exact ⟨_, rfl, hw.row_nil _ _ _⟩
  | some a =>
    have hil : (i64s l).length = l.length * 1 := by simp [i64s]
    have hall : (i64s l).all Value.oneCell' = true := by simp [i64s, Value.oneCell']
    have HH := Aside.mk (And.intro hw (And.intro hc (And.intro hil hall)))
    clear hw hc hil hall
    generalize hm : l.length = m at *
    have HM := Aside.mk hm
    clear hm
    have hnil := Lib.run_eql_slice_nil (P := Try.prog) w 23 3 (some a) m c 0 0 Try.underlying23
    go_wp2_with (at_builtin; refine wpList_append_row slI64 rfl rfl (by rfl) (by rfl) (((HH.out.1.alloc _).right).row_nil _ _ _) (HH.out.2.1.alloc _) HH.out.2.2.1 HH.out.2.2.2 (by unfold maxLen; omega) (by omega) (fun v4 w4 hw4 => ?_))
    go_ret
    refine ⟨_, rfl, ?_⟩
    simpa using hw4
end Go.Proofs.Ytdcmanihihlaiaa
