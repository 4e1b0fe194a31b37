/- postings: a source of short numbers; packed numbers laid open. -/
import Derived.Test.YtdcmanihihlaiaaShort
import Derived.Test.YtdcmanihihlaiaaReg
import Derived.Laws.BitsAllLaws
import Derived.Outline
namespace Go.Proofs.Ytdcmanihihlaiaa
open Go.RowKit HP
set_option linter.unusedSimpArgs false
set_option linter.unusedVariables false

/-- Bytes. -/
def Bytes (l : List Int) : Prop := ∀ x ∈ l, 0 ≤ x ∧ x ≤ 255

/-- A number off bytes: from byte i on, n so far; what it is, how many bytes are gone; none: there is no end. -/
def numG (l : List Int) : Nat → Nat → Int → Option (Int × Nat)
  | 0, _, _ => none
  | f + 1, i, n => match l[i]? with
    | none => none
    | some b => if b < 128 then some (n + b % 128 * 2 ^ (7 * i), i + 1) else numG l f (i + 1) (n + b % 128 * 2 ^ (7 * i))
/-- What 'number' hands back, what is left, whether it was none. -/
def numI (l : List Int) (bad : Bool) : Int × List Int × Bool := match numG l 5 0 0 with
  | some (n, k) => (n, l.drop k, bad || decide (n > 2147483648))
  | none => (0, [], true)

theorem i64_or_nat (a b : Nat) (ha : a < 4611686018427387904) (hb : b < 4611686018427387904) : Go.bits .or .i64 (a : Int) (b : Int) = ((a ||| b : Nat) : Int) := by
  have hx : a ||| b < 2 ^ 62 := Nat.or_lt_two_pow (by omega) (by omega)
  show IntKind.i64.wrap ((BitVec.ofInt 64 (a : Int) ||| BitVec.ofInt 64 (b : Int)).toNat : Int) = _
  rw [BitVec.toNat_or, ofInt_u64 a (by omega), ofInt_u64 b (by omega), IntKind.wrap_i64]
  omega
theorem or_mul (a b m : Nat) (ha : a < 2 ^ m) : a ||| (b * 2 ^ m) = a + b * 2 ^ m := by
  rw [Nat.or_comm, Nat.mul_comm b, ← Nat.two_pow_add_eq_or_of_lt ha, Nat.add_comm]
theorem or_nat (a b M : Nat) (m : Nat) (hM : M = 2 ^ m) (ha : a < M) (hb : b < 128) (hm : M ≤ 268435456) :
    Go.bits .or .i64 (a : Int) (wrap64 (wrap64 (b : Int) * (M : Int))) = (a : Int) + b * M ∧ a + b * M < 128 * M := by
  have hp : b * M ≤ 127 * M := Nat.mul_le_mul_right _ (by omega)
  have w0 : wrap64 (b : Int) = b := by unfold wrap64; omega
  have e1 : ((b : Int) * (M : Int)) = ((b * M : Nat) : Int) := by push_cast; rfl
  have w1 : wrap64 ((b * M : Nat) : Int) = ((b * M : Nat) : Int) := by
    unfold wrap64
    generalize b * M = z at hp
    omega
  rw [w0, e1, w1]
  have ho : a ||| b * M = a + b * M := by subst hM; exact or_mul a b m ha
  generalize b * M = z at hp ho
  rw [i64_or_nat a z (by omega) (by omega), ho]
  constructor
  · push_cast; rfl
  · omega
set_option maxRecDepth 100000 in
theorem and127 (y : Int) (h : 0 ≤ y ∧ y ≤ 255) : Go.bits .and .u8 y 127 = y % 128 := by
  have h1 : ∀ x : Fin 256, Go.bits .and .u8 (x.val : Int) 127 = ((x.val % 128 : Nat) : Int) := by decide
  have h2 := h1 ⟨y.toNat, by omega⟩
  simp only at h2
  rw [show y = ((y.toNat : Nat) : Int) by omega, h2]
  omega
/-- What the code reckons for 'n |= int(b&0x7f) << (7*k)'. -/
theorem or_shift (n y : Int) (k : Nat) (h0 : 0 ≤ n) (h1 : n < 2 ^ (7 * k)) (hy : 0 ≤ y ∧ y ≤ 255) (hk : k < 5) :
    Go.bits .or .i64 n (wrap64 (wrap64 (Go.bits .and .u8 y 127) * 2 ^ (7 * k))) = n + y % 128 * 2 ^ (7 * k) ∧ 0 ≤ n + y % 128 * 2 ^ (7 * k) ∧ n + y % 128 * 2 ^ (7 * k) < 2 ^ (7 * (k + 1)) := by
  rw [and127 y hy]
  obtain ⟨a, rfl⟩ := Int.eq_ofNat_of_zero_le h0
  obtain ⟨b, hb⟩ := Int.eq_ofNat_of_zero_le (show 0 ≤ y % 128 by omega)
  have hb2 : b < 128 := by omega
  rw [hb]
  obtain ⟨M, hM⟩ : ∃ M : Nat, M = 2 ^ (7 * k) := ⟨_, rfl⟩
  have hM' : (2 : Int) ^ (7 * k) = (M : Int) := by rw [hM]; push_cast; rfl
  have hMle : M ≤ 268435456 := by
    rw [hM]
    exact Nat.le_trans (Nat.pow_le_pow_right (by omega) (show 7 * k ≤ 28 by omega)) (by decide)
  have e2 : (2 : Int) ^ (7 * (k + 1)) = ((128 * M : Nat) : Int) := by
    rw [show 7 * (k + 1) = 7 * k + 7 by omega, Int.pow_add, hM']; push_cast; omega
  rw [hM'] at h1 ⊢
  rw [e2]
  obtain ⟨r1, r2⟩ := or_nat a b M (7 * k) hM (by omega) hb2 hMle
  refine ⟨r1, ?_, ?_⟩
  · have : 0 ≤ ((b * M : Nat) : Int) := by omega
    push_cast at this
    omega
  · have : ((a + b * M : Nat) : Int) < ((128 * M : Nat) : Int) := by omega
    push_cast at this ⊢
    omega

def numPost (E : Env) (q q0 : HP) (b : Nat) (r : Int × List Int × Bool) (e : Ending) (w' : World) : Prop :=
  e = .returned (.int .i64 r.1) ∧ ∃ A' c', r.2.1.length ≤ c' ∧ Sat E w' (HP.pt b (.cells #[.slice A' r.2.1.length c', .bool r.2.2] 90) * q) ∧ ∀ w, Sat E w q0 → Cells w A' (u8s r.2.1)

set_option maxHeartbeats 1000000 in
set_option maxRecDepth 100000 in
theorem number_ok (E : Env) (q q0 : HP) (b : Nat) (A : Option Addr) (l : List Int) (c : Nat) (bad : Bool) (w : World) (hl : l.length ≤ c) (hb : Bytes l) (hcl : l.length ≤ 1000000)
    (hw : Sat E w (HP.pt b (.cells #[.slice A l.length c, .bool bad] 90) * q)) (hqq : ∀ w, Sat E w q → Sat E w q0) (hq : ∀ w, Sat E w q0 → Cells w A (u8s l)) :
    Calls Try.prog 55 #[.pointer (some ⟨b, 0, none⟩)] w (numPost E q q0 b (numI l bad)) := by
  go_enter Try.func55, Try.ntmps55
  have c0 := hw.cell 0
  have c1 := hw.cell 1
  have f0 := hw.thaw 0
  have f1 := hw.thaw 1
  simp only [List.getElem?_toArray, List.getElem?_cons_zero, List.getElem?_cons_succ] at c0 c1
  go_wp2
  go_loopw [3, 4] (fun x i wr => ∃ (k f : Nat) (n : Int), f + k = 5 ∧ k ≤ l.length ∧ i = .int .i64 k ∧ x = .int .i64 n ∧ 0 ≤ n ∧ n < 2 ^ (7 * k) ∧ Aside (numG l 5 0 0 = numG l f k n) ∧ wr = w) (fun _ i _ => 5 - (intOf i).toNat)
  case atStart => exact ⟨0, 5, 0, rfl, Nat.zero_le _, rfl, rfl, by omega, by decide, ⟨rfl⟩, rfl⟩
  case round =>
    obtain ⟨k, f, n, hf, hk, rfl, rfl, hn0, hn1, HG, rfl⟩ := hrel
    by_cases h5 : k < 5
    · by_cases hlt : k < l.length
      · have hc := hq _ (hqq _ hw.right)
        obtain ⟨a, ha, hcx⟩ := hc.at_ k (by simpa [u8s] using hlt)
        obtain ⟨g, o, rfl⟩ : ∃ g o, a = ⟨g, o, none⟩ := slice_addr hc ha (by simpa [u8s] using hlt)
        subst ha
        have hbk := hb l[k] (List.getElem_mem _)
        have HL : Aside (l[k]? = some l[k]) := ⟨List.getElem?_eq_getElem hlt⟩
        simp only [u8s, List.getElem_map] at hcx
        rw [addr_add] at hcx
        generalize l[k] = y at hcx hbk HL
        obtain ⟨f, rfl⟩ : ∃ f', f = f' + 1 := ⟨f - 1, by omega⟩
        obtain ⟨hN, hm0, hm1⟩ := or_shift n y k hn0 hn1 hbk h5
        obtain ⟨m, hm⟩ : ∃ m, n + y % 128 * 2 ^ (7 * k) = m := ⟨_, rfl⟩
        have HM := Aside.mk hm
        rw [hm] at hN hm0 hm1
        clear hm
        by_cases h128 : y < 128
        · have HV : Aside (numI l bad = (m, l.drop (k + 1), bad || decide (m > 2147483648))) := ⟨by
            rw [numI, HG.out, numG, HL.out]; simp only [if_pos h128, HM.out]⟩
          have hpost : ∀ (A' : Option Addr) (c' : Nat) (w' : World), Sat E w' (HP.pt b (.cells #[.slice A' (l.length - (k + 1)) c', .bool (bad || decide (m > 2147483648))] 90) * q) →
              l.length - (k + 1) ≤ c' → (∀ w, Sat E w q0 → Cells w A' (u8s (l.drop (k + 1)))) → Aside (numPost E q q0 b (numI l bad) (.returned (.int .i64 m)) w') := fun A' c' w' h1 h2 h3 => ⟨by
            rw [HV.out]
            exact ⟨rfl, A', c', by simpa using h2, by simpa using h1, h3⟩⟩
          have hd : ∀ w, Sat E w q0 → Cells w (some ⟨g, o + (k + 1), none⟩) (u8s (l.drop (k + 1))) := fun w' h' => by
            have := (hq w' h').drop (k + 1)
            rw [addr_add] at this
            simpa [u8s] using this
          have hset := fun v1 v2 => (hw.set (i := 0) v1).set (i := 1) v2
          clear hq hqq hc
          by_cases hck : c = k + 1
          · subst hck
            have hl0 : l.length = k + 1 := by omega
            have hdr : l.drop (k + 1) = [] := List.drop_of_length_le (by omega)
            have HP1 := fun (w' : World) h1 => hpost (some ⟨g, o, none⟩) 0 w' h1 (by omega) (fun w _ => by rw [hdr]; exact Cells.nil _ _)
            rw [hl0] at HP1 c0
            have HQ := Aside.mk (And.intro hset (And.intro HP1 hl0))
            clear hpost hd hset HP1 hw hdr hl0
            cases bad with
            | true =>
              go_wp2
              go_ret
              exact (HQ.out.2.1 _ (by simpa using HQ.out.1 (.slice (some ⟨g, o, none⟩) 0 0) (.bool true))).out
            | false =>
              go_wp2
              go_ret
              exact (HQ.out.2.1 _ (by simpa using HQ.out.1 (.slice (some ⟨g, o, none⟩) 0 0) (.bool (decide (2147483648 < m))))).out
          · have HP1 := fun (w' : World) h1 => hpost (some ⟨g, o + (k + 1), none⟩) (c - (k + 1)) w' h1 (by omega) hd
            have HQ := Aside.mk (And.intro hset HP1)
            clear hpost hd hset HP1 hw
            cases bad with
            | true =>
              go_wp2
              go_ret
              exact (HQ.out.2 _ (by simpa using HQ.out.1 (.slice (some ⟨g, o + (k + 1), none⟩) (l.length - (k + 1)) (c - (k + 1))) (.bool true))).out
            | false =>
              go_wp2
              go_ret
              exact (HQ.out.2 _ (by simpa using HQ.out.1 (.slice (some ⟨g, o + (k + 1), none⟩) (l.length - (k + 1)) (c - (k + 1))) (.bool (decide (2147483648 < m))))).out
        · have HV : Aside (numG l 5 0 0 = numG l f (k + 1) m) := ⟨by rw [HG.out, numG, HL.out]; simp only [if_neg h128, HM.out]⟩
          clear hc
          go_wp2
          go_roundw
          case rel => exact ⟨k + 1, f, m, by omega, by omega, by go_num, rfl, hm0, hm1, HV, by first | rfl | trivial⟩
          case measure => simp [intOf]; omega
      · have HV : Aside (numI l bad = (0, [], true)) := ⟨by
          obtain ⟨f, rfl⟩ : ∃ f', f = f' + 1 := ⟨f - 1, by omega⟩
          rw [numI, HG.out, numG, List.getElem?_eq_none (by omega)]⟩
        have HQ : Aside (∀ w', Sat E w' (HP.pt b (.cells #[.slice none 0 0, .bool true] 90) * q) → numPost E q q0 b (numI l bad) (.returned (.int .i64 0)) w') := ⟨fun w' h => by
          rw [HV.out]; exact ⟨rfl, none, 0, Nat.le_refl _, h, fun _ _ => Cells.nil _ _⟩⟩
        have HS := Aside.mk ((hw.set (i := 1) (.bool true)).set (i := 0) (.slice none 0 0))
        clear hw hq hqq
        go_wp2
        go_ret
        exact HQ.out _ (by simpa using HS.out)
    · have HV : Aside (numI l bad = (0, [], true)) := ⟨by
        obtain rfl : f = 0 := by omega
        rw [numI, HG.out, numG]⟩
      have HQ : Aside (∀ w', Sat E w' (HP.pt b (.cells #[.slice none 0 0, .bool true] 90) * q) → numPost E q q0 b (numI l bad) (.returned (.int .i64 0)) w') := ⟨fun w' h => by
        rw [HV.out]; exact ⟨rfl, none, 0, Nat.le_refl _, h, fun _ _ => Cells.nil _ _⟩⟩
      have HS := Aside.mk ((hw.set (i := 1) (.bool true)).set (i := 0) (.slice none 0 0))
      clear hw hq hqq
      go_wp2
      go_ret
      exact HQ.out _ (by simpa using HS.out)
end Go.Proofs.Ytdcmanihihlaiaa
