/- slices.Chunk at lists of ints, eight at a time: the pieces that come, one behind the other. -/
import Derived.Test.YtdcmanihihlaiaaRow
import Derived.Test.YtdcmanihihlaiaaProg
import Derived.RangeFuncNested
import Derived.RangeFuncBound
import Derived.RangeFuncCalls
import Derived.RangeFuncLeaves
import Derived.RangeFuncBox
import Derived.Shelf.Abstract
import Derived.Shelf.RegionOpen
import Derived.OwnWalkIn
import Derived.TacticsInMore
import Derived.LoopNIn
import Derived.LoopIn
import Derived.Outline
import Derived.IntWalk
namespace Go.Proofs.Ytdcmanihihlaiaa
open Go.RowKit Go.Shelf HP
set_option linter.unusedSimpArgs false
set_option linter.unusedVariables false
attribute [local go_sem] Oper.semAt_some

/-- Where the pieces begin, when k have come. -/
def starts (k : Nat) : List Nat := (List.range k).map (8 * ·)
theorem starts_succ (k : Nat) : starts (k + 1) = starts k ++ [8 * k] := by simp [starts, List.range_succ]
theorem starts_length (k : Nat) : (starts k).length = k := by simp [starts]
theorem grownBy_drew (w : World) : w.grownBy w.drew none := ⟨rfl, rfl, rfl, Nat.le_refl _, fun _ _ _ => rfl⟩
def piece (ad : Addr) (len x : Nat) : Value := .slice (some (ad.add x)) (min 8 (len - x)) (min 8 (len - x))
/-- Two blocks are as they were. -/
def Two (b c : Nat) (W W' : World) : Prop := W'.heap[b]? = W.heap[b]? ∧ W'.heap[c]? = W.heap[c]?

theorem add_zero (ad : Addr) : ad.add 0 = ad := by simp [Addr.add]

set_option maxRecDepth 100000 in
set_option maxHeartbeats 2000000 in
theorem chunk1_in (n : Nat) (hn : 1 ≤ n) (l Bs Bn : Nat) (ad : Addr) (len cap : Nat) (hlc : len ≤ cap) (hreach : len ≤ 1000000) (J Jx : List Nat → World → Prop)
    (hY : ∀ pre x W, J pre W → pre.length < len → x < len → YieldAt Fence.wide (n - 1) Try.prog l #[piece ad len x] W fun e W' =>
      (e = .returned (.bool true) ∧ J (pre ++ [x]) W' ∧ Two Bs Bn W W') ∨ (e = .returned (.bool false) ∧ Jx (pre ++ [x]) W'))
    (W : World) (hBs : W.cell? ⟨Bs, 0, none⟩ = some (.slice (some ad) len cap)) (hBn : W.cell? ⟨Bn, 0, none⟩ = some (.int .i64 8)) (h0 : J [] W) (hJ : AbidesFrom W.heap.size J) :
    CallsIn Fence.wide n Try.prog 56 #[.func (.yield l) #[] #[], .pointer (some ⟨Bs, 0, none⟩), .pointer (some ⟨Bn, 0, none⟩)] W fun e W' => (∃ v, e = .returned v) ∧
      ((∃ ys, ys = starts ((len + 7) / 8) ∧ J ys W') ∨ (∃ pre, Jx pre W')) := by
  refine callsIn_of_wp Try.func56 rfl trivial ?_ rfl
  simp only [Try.ntmps56, List.size_toArray, List.length_cons, List.length_nil, Nat.reduceAdd, Nat.reduceSub, Array.replicate_succ, Array.replicate_zero, List.push_toArray, List.append_toArray, List.nil_append, List.cons_append]
  gi_wp2
  gi_loopw [4] (fun i wr => ∃ k : Nat, k ≤ (len + 7) / 8 ∧ i = .int .i64 ((8 * k : Nat) : Int) ∧ J (starts k) wr ∧ Two Bs Bn W wr)
    (fun i _ => len + 7 - (intOf i).toNat)
  case atStart => exact ⟨0, Nat.zero_le _, rfl, h0, rfl, rfl⟩
  case round =>
    obtain ⟨k, hk, rfl, hJs, hnx⟩ := hrel
    have hc1 : wr.cell? ⟨Bs, 0, none⟩ = some (.slice (some ad) len cap) := (World.cell?_of_block (w := W) hnx.1).trans hBs
    have hc2 : wr.cell? ⟨Bn, 0, none⟩ = some (.int .i64 8) := (World.cell?_of_block (w := W) hnx.2).trans hBn
    by_cases hlt : 8 * k < len
    · obtain ⟨fn, tmps, assign, body, hy, hR⟩ := hY (starts k) (8 * k) wr.drew (hJ _ _ _ none hJs (grownBy_drew wr) (fun r e => by cases e)) (by rw [starts_length]; omega) hlt
      clear hJs
      obtain ⟨m, hm⟩ : ∃ m, 8 * k = m := ⟨_, rfl⟩
      rw [hm] at hy hlt hR
      have hm' := Aside.mk hm
      obtain ⟨e, he⟩ : ∃ e, min 8 (len - m) = e := ⟨_, rfl⟩
      have he1 : 1 ≤ e ∧ m + e ≤ len := by omega
      have he2 : (if ((len - m : Nat) : Int) < 8 then ((len - m : Nat) : Int) else 8) = (e : Int) := by split <;> omega
      simp only [piece, he] at hy
      have hw1 : IntKind.i64.wrap ((m : Int) + (e : Int)) = ((m + e : Nat) : Int) := by rw [IntWalk.i64_in _ (by omega)]; omega
      simp only [hm]
      clear hm he
      gi_wp2
      gi_region
      have hme : ((m : Int)) ≤ ((m + e : Nat) : Int) := by omega
      have hmc : ((m + e : Nat) : Int) ≤ (cap : Int) := by omega
      have hne : ¬ (m + e = m) := by omega
      have hsub : m + e - m = e := by omega
      gi_wp2
      refine hR.mono ?_
      rintro ee W3 (⟨rfl, hJ3, hk3⟩ | ⟨rfl, hJx3⟩)
      · have hn1 : Two Bs Bn W W3 := ⟨hk3.1.trans hnx.1, hk3.2.trans hnx.2⟩
        have hc3 : W3.cell? ⟨Bn, 0, none⟩ = some (.int .i64 8) := (World.cell?_of_block (w := W) hn1.2).trans hBn
        gi_wp2
        go_roundw
        case rel => exact ⟨k + 1, by have := hm'.out; omega, by have := hm'.out; congr 1; omega, by rw [starts_succ, hm'.out]; exact hJ3, hn1⟩
        case measure => simp [intOf]; omega
      · gi_wp2
        refine bodyPost_ret (results_none rfl _ _ _) rfl ?_
        exact ⟨⟨_, rfl⟩, .inr ⟨_, hJx3⟩⟩
    · obtain rfl : k = (len + 7) / 8 := by omega
      gi_wp2
      go_end0
      exact ⟨⟨_, rfl⟩, .inl ⟨_, rfl, hJs⟩⟩
set_option maxRecDepth 100000 in
set_option maxHeartbeats 1000000 in
theorem chunk0_in (n : Nat) (l Bs Bn : Nat) (A : Option Addr) (cap : Nat) (J : List Nat → World → Prop) (W : World) (hBs : W.cell? ⟨Bs, 0, none⟩ = some (.slice A 0 cap)) (h0 : J [] W) :
    CallsIn Fence.wide n Try.prog 56 #[.func (.yield l) #[] #[], .pointer (some ⟨Bs, 0, none⟩), .pointer (some ⟨Bn, 0, none⟩)] W fun e W' => (∃ v, e = .returned v) ∧ J [] W' := by
  refine callsIn_of_wp Try.func56 rfl trivial ?_ rfl
  simp only [Try.ntmps56, List.size_toArray, List.length_cons, List.length_nil, Nat.reduceAdd, Nat.reduceSub, Array.replicate_succ, Array.replicate_zero, List.push_toArray, List.append_toArray, List.nil_append, List.cons_append]
  gi_wp2
  gi_loopw [4] (fun i wr => i = .int .i64 0 ∧ wr = W) (fun _ _ => 0)
  case atStart => exact ⟨rfl, rfl⟩
  case round =>
    obtain ⟨rfl, rfl⟩ := hrel
    gi_wp2
    go_end0
    exact ⟨⟨_, rfl⟩, h0⟩

/-- **The iterator's word**: the pieces come, each eight further on. -/
theorem chunk_stops (n : Nat) (hn : 1 ≤ n) (Bs Bn : Nat) (A : Option Addr) (len cap : Nat) (hA : len ≠ 0 → ∃ ad, A = some ad) (hlc : len ≤ cap) (hreach : len ≤ 1000000) (w : World) (hBs : Bs < w.heap.size) (hBn : Bn < w.heap.size)
    (hcs : w.cell? ⟨Bs, 0, none⟩ = some (.slice A len cap)) (hcn : w.cell? ⟨Bn, 0, none⟩ = some (.int .i64 8)) :
    SeqStopsK Fence.wide n Try.prog 56 #[.pointer (some ⟨Bs, 0, none⟩), .pointer (some ⟨Bn, 0, none⟩)] (fun x : { x : Nat // x < len } => #[piece (A.getD ⟨0, 0, none⟩) len x.1]) (Two Bs Bn)
      (fun ys => ys.map (·.1) = starts ((len + 7) / 8)) (fun _ => True) len w := fun l J Jx W hW hJ hJx hY h0 => by
  have hcs' := (hW.cell (p := ⟨Bs, 0, none⟩) hBs).trans hcs
  have hcn' := (hW.cell (p := ⟨Bn, 0, none⟩) hBn).trans hcn
  by_cases h : len = 0
  · subst h
    refine (chunk0_in n l Bs Bn A cap (fun _ W => J [] W) W hcs' h0).mono ?_
    rintro e W' ⟨he, hj⟩
    exact ⟨he, .inl ⟨[], rfl, hj⟩⟩
  · obtain ⟨ad, rfl⟩ := hA h
    refine (chunk1_in n hn l Bs Bn ad len cap hlc hreach (fun ys W => ∃ zs : List { x : Nat // x < len }, zs.map (·.1) = ys ∧ J zs W) (fun ys W => ∃ zs : List { x : Nat // x < len }, zs.map (·.1) = ys ∧ Jx zs W) ?_ W hcs' hcn' ⟨[], rfl, h0⟩ ?_).mono ?_
    · rintro pre x W1 ⟨zs, rfl, hj⟩ hl hx
      obtain ⟨fn, tmps, assign, body, hy, hR⟩ := hY zs ⟨x, hx⟩ W1 hj (by simpa using hl)
      refine ⟨fn, tmps, assign, body, hy, hR.mono ?_⟩
      rintro e W' (⟨rfl, h1, h2⟩ | ⟨rfl, h1⟩)
      · exact .inl ⟨rfl, ⟨_, by simp, h1⟩, h2⟩
      · exact .inr ⟨rfl, ⟨_, by simp, h1⟩⟩
    · rintro s W1 W2 row ⟨zs, hz, hj⟩ hg hr
      exact ⟨zs, hz, hJ _ _ _ _ hj hg hr⟩
    · rintro e W' ⟨he, ⟨ys, rfl, zs, hz, hj⟩ | ⟨pre, zs, hz, hj⟩⟩
      · exact ⟨he, .inl ⟨zs, hz, hj⟩⟩
      · exact ⟨he, .inr ⟨zs, trivial, hj⟩⟩
end Go.Proofs.Ytdcmanihihlaiaa
