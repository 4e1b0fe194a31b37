/- dryrotref25's short, can: what they reckon. -/
import Derived.Test.YtdcmanihihlaiaaInv25
import Derived.Test.YtdcmanihihlaiaaClone25
namespace Go.Proofs.Ytdcmanihihlaiaa
open Go.RowKit HP
set_option linter.unusedSimpArgs false
set_option linter.unusedVariables false

set_option maxHeartbeats 300000 in
set_option maxRecDepth 100000 in
theorem refShort_ok (E : Env) (q : HP) (n : Nat) (w : World) (hn : n < 9223372036854775808) (hw : Sat E w q) :
    Calls Try.prog 41 #[.int .i64 n] w fun e w' => ∃ v', e = .returned v' ∧ Sat E w' (row 5 1 v' (shortN n).length (u8s (shortN n)) * q) := by
  go_enter Try.func41, Try.ntmps41
  have HW := Aside.mk (hw.row_nil 5 1 none)
  clear hw
  go_wp2
  go_loopw [0, 3] (fun v1 v0 wr => ∃ (m k' : Nat) (cs' : List Value), v1 = .int .i64 m ∧ Aside (m ≤ n ∧ cs' ++ u8s (shortN m) = u8s (shortN n) ∧ k' + (shortN m).length = (shortN n).length) ∧ Aside (Sat E wr (row 5 1 v0 k' cs' * q))) (fun v1 _ _ => (intOf v1).toNat)
  case atStart => exact ⟨n, 0, [], rfl, ⟨Nat.le_refl _, rfl, by omega⟩, HW⟩
  case round =>
    clear HW
    obtain ⟨m, k', cs', rfl, HA, HW⟩ := hrel
    obtain ⟨hm, he, hl⟩ := HA.out
    have HE := Aside.mk he
    clear he HA
    have hl1 := shortN_len 9 m (by omega)
    have hl2 := shortN_len 9 n (by omega)
    by_cases hlt : m < 128
    · rw [shortN_lt hlt] at HE hl
      have hw2 : IntKind.u8.wrap (m : Int) = (m : Int) := by simp [IntKind.wrap, IntKind.bits, IntKind.signed]; omega
      go_wp2_with (at_builtin; refine wpList_append_new slU8 rfl rfl (by rfl) (by rfl) HW.out (by rfl) (by rfl) (by unfold maxLen; omega) (by omega) (fun v' w' HW' => ?_))
      go_ret
      refine ⟨_, rfl, HW'.perm ?_⟩
      rw [← HE.out, ← hl]
      simp [u8s]
      trace_state
    · rw [shortN_ge hlt] at HE hl
      obtain ⟨r, hr⟩ : ∃ r : Int, (m : Int).tmod 128 = r := ⟨_, rfl⟩
      obtain ⟨d, hd⟩ : ∃ d : Int, (m : Int).tdiv 128 = d := ⟨_, rfl⟩
      have hr1 : r = ((m % 128 : Nat) : Int) := by rw [← hr, Int.tmod_eq_emod_of_nonneg (by omega)]; omega
      have hd1 : d = ((m / 128 : Nat) : Int) := by rw [← hd, Int.tdiv_eq_ediv_of_nonneg (by omega)]; omega
      have hw0 : wrap64 r = r := by unfold wrap64; omega
      have hw1 : wrap64 d = d := by unfold wrap64; omega
      have hw2 : IntKind.u8.wrap r = r := by simp [IntKind.wrap, IntKind.bits, IntKind.signed]; omega
      have hw3 : IntKind.u8.wrap (r + 128) = r + 128 := by simp [IntKind.wrap, IntKind.bits, IntKind.signed]; omega
      have HRD := Aside.mk (And.intro hr1 hd1)
      clear hr1 hd1
      go_wp2_with (at_builtin; refine wpList_append_new slU8 rfl rfl (by rfl) (by rfl) HW.out (by rfl) (by rfl) (by unfold maxLen; omega) (by omega) (fun v' w' HW' => ?_))
      go_roundw
      case rel =>
        refine ⟨m / 128, k' + 1, _, ?_, ⟨Nat.le_trans (Nat.div_le_self _ _) hm, ?_, by simp at hl ⊢; omega⟩, ⟨HW'⟩⟩
        · rw [hw1, HRD.out.2]
        · rw [← HE.out]; simp [u8s]
          have := HRD.out.1
          omega
      case measure =>
        have h8 := HRD.out.2
        simp [intOf, hw1]
        omega

end Go.Proofs.Ytdcmanihihlaiaa
