/- postings.short: a short number behind bytes. -/
import Derived.Test.YtdcmanihihlaiaaRow
import Derived.Test.YtdcmanihihlaiaaProg
namespace Go.Proofs.Ytdcmanihihlaiaa
open Go.RowKit HP
set_option linter.unusedSimpArgs false
set_option linter.unusedVariables false

def shortN (n : Nat) : List Int := if n < 128 then [(n : Int)] else ((n % 128 + 128 : Nat) : Int) :: shortN (n / 128)
termination_by n
decreasing_by omega

theorem shortN_lt {n : Nat} (h : n < 128) : shortN n = [(n : Int)] := by rw [shortN, if_pos h]
theorem shortN_ge {n : Nat} (h : ¬ n < 128) : shortN n = ((n % 128 + 128 : Nat) : Int) :: shortN (n / 128) := by rw [shortN, if_neg h]
theorem shortN_len (k : Nat) : ∀ n, n < 128 ^ k * 128 → 1 ≤ (shortN n).length ∧ (shortN n).length ≤ k + 1 := by
  induction k with
  | zero => intro n h; rw [shortN_lt (by omega)]; simp
  | succ k ih =>
    intro n h
    by_cases hn : n < 128
    · rw [shortN_lt hn]; simp
    · rw [shortN_ge hn]
      have := ih (n / 128) (by rw [Nat.pow_succ] at h; omega)
      simp; omega
set_option maxRecDepth 100000 in
theorem or128 (m : Nat) : Go.bits .or .u8 ((m : Int) % 256) 128 = ((m % 128 + 128 : Nat) : Int) := by
  have h : ∀ x : Fin 256, Go.bits .or .u8 (x.val : Int) 128 = ((x.val % 128 + 128 : Nat) : Int) := by decide
  have h1 := h ⟨m % 256, by omega⟩
  simp only at h1
  rw [show ((m : Int) % 256) = ((m % 256 : Nat) : Int) by omega, h1]
  omega
theorem slU8 : SlTy Try.prog 22 5 (.int .u8 0) 1 1 := ⟨Try.underlying22, by kernel_rfl, rfl, by decide⟩
def u8s (l : List Int) : List Value := l.map (Value.int .u8)

/-- What 'short' puts behind bytes: of a number below nothing its lowest byte alone. -/
def shortI (n : Int) : List Int := if n < 0 then [n % 256] else shortN n.toNat
theorem shortI_nat (n : Nat) : shortI n = shortN n := by rw [shortI, if_neg (by omega)]; simp
theorem shortI_neg {n : Int} (h : n < 0) : shortI n = [n % 256] := by simp [shortI, h]
theorem shortI_len (n : Int) (h : n < 9223372036854775808) : 1 ≤ (shortI n).length ∧ (shortI n).length ≤ 10 := by
  unfold shortI
  split
  · simp
  · exact shortN_len 9 n.toNat (by omega)

set_option maxHeartbeats 1000000 in
set_option maxRecDepth 100000 in
theorem short_nat (E : Env) (q : HP) (v : Value) (k : Nat) (cs : List Value) (n : Nat) (w : World) (hn : n < 9223372036854775808) (hk : k ≤ 1000000000)
    (hw : Sat E w (row 5 1 v k cs * q)) :
    Calls Try.prog 38 #[v, .int .i64 n] w fun e w' => ∃ v', e = .returned v' ∧ Sat E w' (row 5 1 v' (k + (shortN n).length) (cs ++ u8s (shortN n)) * q) := by
  go_enter Try.func38, Try.ntmps38
  have HW := Aside.mk hw
  clear hw
  go_wp2
  go_loopw [0, 1] (fun v0 v1 wr => ∃ (m k' : Nat) (cs' : List Value), v1 = .int .i64 m ∧ Aside (m ≤ n ∧ cs' ++ u8s (shortN m) = cs ++ u8s (shortN n) ∧ k' + (shortN m).length = k + (shortN n).length) ∧ Aside (Sat E wr (row 5 1 v0 k' cs' * q))) (fun _ v1 _ => (intOf v1).toNat)
  case atStart => exact ⟨n, k, cs, rfl, ⟨Nat.le_refl _, rfl, rfl⟩, HW⟩
  case round =>
    clear HW
    obtain ⟨m, k', cs', rfl, HA, HW⟩ := hrel
    obtain ⟨hm, he, hl⟩ := HA.out
    have HE := Aside.mk he
    clear he HA
    have hl1 := shortN_len 9 m (by omega)
    have hl2 := shortN_len 9 n (by omega)
    by_cases hlt : m < 128
    · rw [shortN_lt hlt] at HE hl
      go_wp2_with (at_builtin; refine wpList_append_new slU8 rfl rfl (by rfl) (by rfl) HW.out (by rfl) (by rfl) (by unfold maxLen; omega) (by omega) (fun v' w' HW' => ?_))
      go_ret
      exact ⟨_, rfl, HW'.perm (by rw [← HE.out, ← hl]; rfl)⟩
    · rw [shortN_ge hlt] at HE hl
      go_wp2_with (at_builtin; refine wpList_append_new slU8 rfl rfl (by rfl) (by rfl) HW.out (by rfl) (by rfl) (by unfold maxLen; omega) (by omega) (fun v' w' HW' => ?_))
      go_roundw
      case rel =>
        exact ⟨m / 128, k' + 1, _, by simp, ⟨Nat.le_trans (Nat.div_le_self _ _) hm, by rw [← HE.out]; simp [u8s, or128], by simp at hl ⊢; omega⟩, ⟨HW'⟩⟩
      case measure => simp [intOf]; omega
set_option maxHeartbeats 1000000 in
set_option maxRecDepth 100000 in
theorem short_neg (E : Env) (q : HP) (v : Value) (k : Nat) (cs : List Value) (n : Int) (w : World) (hn : n < 0) (hn' : -9223372036854775808 ≤ n) (hk : k ≤ 1000000000)
    (hw : Sat E w (row 5 1 v k cs * q)) :
    Calls Try.prog 38 #[v, .int .i64 n] w fun e w' => ∃ v', e = .returned v' ∧ Sat E w' (row 5 1 v' (k + 1) (cs ++ [.int .u8 (n % 256)]) * q) := by
  go_enter Try.func38, Try.ntmps38
  have HW := Aside.mk hw
  clear hw
  go_wp2
  go_loopw [0, 1] (fun v0 v1 wr => v1 = .int .i64 n ∧ Aside (Sat E wr (row 5 1 v0 k cs * q))) (fun _ _ _ => 0)
  case atStart => exact ⟨rfl, HW⟩
  case round =>
    clear HW
    obtain ⟨rfl, HW⟩ := hrel
    go_wp2_with (at_builtin; refine wpList_append_new slU8 rfl rfl (by rfl) (by rfl) HW.out (by rfl) (by rfl) (by unfold maxLen; omega) (by omega) (fun v' w' HW' => ?_))
    go_ret
    exact ⟨_, rfl, HW'⟩

theorem short_ok (E : Env) (q : HP) (v : Value) (k : Nat) (cs : List Value) (n : Int) (w : World) (hn : -9223372036854775808 ≤ n ∧ n < 9223372036854775808) (hk : k ≤ 1000000000)
    (hw : Sat E w (row 5 1 v k cs * q)) :
    Calls Try.prog 38 #[v, .int .i64 n] w fun e w' => ∃ v', e = .returned v' ∧ Sat E w' (row 5 1 v' (k + (shortI n).length) (cs ++ u8s (shortI n)) * q) := by
  by_cases h : n < 0
  · rw [shortI_neg h]
    exact short_neg E q v k cs n w h hn.1 hk hw
  · obtain ⟨m, rfl⟩ : ∃ m : Nat, n = m := ⟨n.toNat, by omega⟩
    rw [shortI_nat]
    exact short_nat E q v k cs m w (by omega) hk hw
end Go.Proofs.Ytdcmanihihlaiaa
