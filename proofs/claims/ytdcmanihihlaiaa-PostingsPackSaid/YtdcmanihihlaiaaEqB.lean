/- slices.Equal at whole numbers (u8): whether two lists are the same. -/
import Derived.Test.YtdcmanihihlaiaaRow
import Derived.Test.YtdcmanihihlaiaaProg
import Derived.BigQuiet
import Derived.Deep.QuietTactic
import Derived.Deep.Draws
namespace Go.Proofs.Ytdcmanihihlaiaa
open Go.RowKit HP
set_option linter.unusedSimpArgs false
set_option linter.unusedVariables false

set_option maxHeartbeats 1000000 in
set_option maxRecDepth 100000 in
theorem equalB_ok (A B : Option Addr) (xs ys : List Int) (c d : Nat) (w : World) (hx : Cells w A (xs.map (Value.int .u8))) (hy : Cells w B (ys.map (Value.int .u8))) (hxs : xs.length ≤ 9223372036854775806) :
    Calls Try.prog 13 #[.slice A xs.length c, .slice B ys.length d] w fun e w' => e = .returned (.bool (xs == ys)) ∧ ∃ n, w' = w.drewN n := by
  by_cases hlen : xs.length = ys.length
  · have hb : ((xs.length : Int) == (ys.length : Int)) = true := by rw [hlen]; simp
    have hb' : ((xs.length : Int) != (ys.length : Int)) = false := by simp [hlen]
    have HL := Aside.mk hlen
    clear hlen
    go_enter Try.func13, Try.ntmps13
    go_wp2
    go_loopw [13] (fun i wr => ∃ k : Nat, k ≤ xs.length ∧ i = .int .i64 k ∧ Aside (xs.take k = ys.take k) ∧ ∃ n, wr = w.drewN n) (fun i _ => xs.length - (intOf i).toNat)
    case atStart => exact ⟨0, Nat.zero_le _, rfl, ⟨rfl⟩, 0, rfl⟩
    case round =>
      obtain ⟨k, hk, rfl, HT, nd, rfl⟩ := hrel
      by_cases hlt : k < xs.length
      · have hlt2 : k < ys.length := by rw [← HL.out]; exact hlt
        obtain ⟨a, rfl, hcx⟩ := hx.at_ k (by simpa using hlt)
        obtain ⟨b, rfl, hcy⟩ := hy.at_ k (by simpa using hlt2)
        simp only [List.getElem_map] at hcx hcy
        have HN : Aside (∀ h1 h2, xs.take (k + 1) = ys.take (k + 1) ↔ xs[k]'h1 = ys[k]'h2) := ⟨fun h1 h2 => by
          rw [List.take_succ_eq_append_getElem h1, List.take_succ_eq_append_getElem h2, HT.out]
          constructor
          · intro h; exact List.singleton_inj.1 (List.append_cancel_left h)
          · intro h; rw [h]⟩
        have HV := HN.out hlt hlt2
        generalize xs[k] = x at hcx HV
        generalize ys[k] = y at hcy HV
        have HV' := Aside.mk HV
        clear HV HN
        have h0 : (0 : Int) ≤ (k : Int) := by omega
        have h1 : (k : Int) < (xs.length : Int) := by omega
        have h2 : (k : Int) < (ys.length : Int) := by omega
        by_cases hxy : x = y
        · subst hxy
          go_wp2
          go_quiet (fail)
          go_wp2
          go_roundw
          case rel => exact ⟨k + 1, by omega, by go_num, ⟨HV'.out.2 (by first | rfl | trivial)⟩, _, rfl⟩
          case measure => simp [intOf]; omega
        · have hne : (x != y) = true := by simpa using hxy
          have hne' : (x == y) = false := by simpa using hxy
          go_wp2
          go_quiet (fail)
          go_wp2
          go_ret
          have hne2 : ¬ xs = ys := fun e => hxy (HV'.out.1 (by rw [e]))
          exact ⟨ret_bool (by simpa using hne2), _, World.drewN_drewN _ _ _⟩
      · obtain rfl : k = xs.length := by omega
        have he : xs = ys := by
          have := HT.out
          rw [List.take_length, HL.out, List.take_length] at this
          exact this
        have HE : Aside ((xs == ys) = true) := ⟨by simp [he]⟩
        clear he
        go_wp2
        go_ret
        exact ⟨ret_bool HE.out.symm, _, rfl⟩
  · have hb : ((xs.length : Int) == (ys.length : Int)) = false := by simp; omega
    have hb' : ((xs.length : Int) != (ys.length : Int)) = true := by simp; omega
    have HE : Aside ((xs == ys) = false) := ⟨by
      have : ¬ xs = ys := fun e => hlen (by rw [e])
      simpa using this⟩
    clear hlen
    go_enter Try.func13, Try.ntmps13
    go_wp2
    go_ret
    exact ⟨ret_bool HE.out.symm, 0, rfl⟩
end Go.Proofs.Ytdcmanihihlaiaa
