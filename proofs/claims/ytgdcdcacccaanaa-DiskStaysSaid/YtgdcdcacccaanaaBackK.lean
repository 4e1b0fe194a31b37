/- slices.Backward at what a crash keeps: the elements come, the last one first. -/
import Derived.Test.YtgdcdcacccaanaaRF
import Derived.Test.YtgdcdcacccaanaaProg
import Derived.Shelf.Abstract
import Derived.Shelf.RegionOpen
import Derived.OwnWalkIn
import Derived.TacticsInMore
import Derived.LoopNIn
import Derived.LoopIn
import Derived.Outline
import Derived.IntWalk
namespace Go.Proofs.Ytgdcdcacccaanaa
open Go.RowKit Go.Shelf HP
set_option linter.unusedSimpArgs false
set_option linter.unusedVariables false
attribute [local go_sem] Oper.semAt_some

/-- What a crash keeps of an extent. -/
structure Kep where
  name : ByteArray
  index : Int
  bytes : Int
def Kep.vals (k : Kep) : List Value := [.string k.name, .int .i64 k.index, .int .i64 k.bytes]
def kepCells (l : List Kep) : List Value := l.flatMap Kep.vals
theorem kepCells_at (l : List Kep) (i : Nat) (k : Kep) (h : l[i]? = some k) : (kepCells l)[3 * i]? = some (.string k.name) ∧ (kepCells l)[3 * i + 1]? = some (.int .i64 k.index) ∧ (kepCells l)[3 * i + 2]? = some (.int .i64 k.bytes) := by
  induction l generalizing i with
  | nil => simp at h
  | cons x l ih =>
    have e : kepCells (x :: l) = [.string x.name, .int .i64 x.index, .int .i64 x.bytes] ++ kepCells l := rfl
    rw [e]
    cases i with
    | zero =>
      simp only [List.getElem?_cons_zero, Option.some.injEq] at h
      subst h
      simp
    | succ i =>
      simp only [List.getElem?_cons_succ] at h
      obtain ⟨h1, h2, h3⟩ := ih i h
      rw [List.getElem?_append_right (by simp; omega), List.getElem?_append_right (by simp; omega), List.getElem?_append_right (by simp; omega)]
      simp only [List.length_cons, List.length_nil, Nat.zero_add, Nat.reduceAdd]
      rw [show 3 * (i + 1) - 3 = 3 * i by omega, show 3 * (i + 1) + 1 - 3 = 3 * i + 1 by omega, show 3 * (i + 1) + 2 - 3 = 3 * i + 2 by omega]
      exact ⟨h1, h2, h3⟩
def downs (n k : Nat) : List Nat := ((List.range n).reverse).take (n - k)
theorem downs_all (n : Nat) : downs n 0 = (List.range n).reverse := by
  unfold downs
  rw [List.take_of_length_le (by simp)]
theorem downs_none (n : Nat) : downs n n = [] := by simp [downs]
theorem downs_next {n k : Nat} (h : k < n) : downs n k = downs n (k + 1) ++ [k] := by
  unfold downs
  rw [show n - k = (n - (k + 1)) + 1 by omega, List.take_succ_eq_append_getElem (by simp; omega)]
  congr 1
  simp
  omega
theorem downs_length {n k : Nat} (h : k ≤ n) : (downs n k).length = n - k := by simp [downs]
def kepArgs (L : List Kep) (x : Nat) : Array Value := #[.int .i64 x, .agg (match L[x]? with | some k => k.vals.toArray | none => #[])]

set_option maxRecDepth 100000 in
set_option maxHeartbeats 2000000 in
theorem back1_in (n : Nat) (hn : 1 ≤ n) (l Bs : Nat) (A : Option Addr) (L : List Kep) (cap : Nat) (hreach : L.length ≤ 9223372036854775807) (J Jx : List Nat → World → Prop)
    (hY : ∀ pre x W, J pre W → pre.length < L.length → x < L.length → YieldAt Fence.wide (n - 1) Try.prog l (kepArgs L x) W fun e W' =>
      (e = .returned (.bool true) ∧ J (pre ++ [x]) W' ∧ KeepSl Bs A (kepCells L) W W') ∨ (e = .returned (.bool false) ∧ Jx (pre ++ [x]) W'))
    (W : World) (hBs : W.cell? ⟨Bs, 0, none⟩ = some (.slice A L.length cap)) (hc : Cells W A (kepCells L)) (h0 : J [] W) (hJ : AbidesFrom W.heap.size J) :
    CallsIn Fence.wide n Try.prog 63 #[.func (.yield l) #[] #[], .pointer (some ⟨Bs, 0, none⟩)] W fun e W' => (∃ v, e = .returned v) ∧
      ((∃ ys, ys = (List.range L.length).reverse ∧ J ys W') ∨ (∃ pre, Jx pre W')) := by
  refine callsIn_of_wp Try.func63 rfl trivial ?_ rfl
  simp only [Try.ntmps63, List.size_toArray, List.length_cons, List.length_nil, Nat.reduceAdd, Nat.reduceSub, Array.replicate_succ, Array.replicate_zero, List.push_toArray, List.append_toArray, List.nil_append, List.cons_append]
  have hw0 : IntKind.i64.wrap ((L.length : Int) - 1) = (L.length : Int) - 1 := IntWalk.i64_in _ (by omega)
  gi_wp2
  gi_loopw [3] (fun i wr => ∃ k : Nat, k ≤ L.length ∧ i = .int .i64 ((k : Int) - 1) ∧ J (downs L.length k) wr ∧ KeepSl Bs A (kepCells L) W wr)
    (fun i _ => (intOf i + 1).toNat)
  case atStart => exact ⟨L.length, Nat.le_refl _, rfl, by rw [downs_none]; exact h0, KeepSl.refl _⟩
  case round =>
    clear hw0
    obtain ⟨k, hk, rfl, hJs, hnx⟩ := hrel
    have hc1 : wr.cell? ⟨Bs, 0, none⟩ = some (.slice A L.length cap) := (World.cell?_of_block (w := W) hnx.1).trans hBs
    have hcr := hnx.2 hc
    cases k with
    | succ k =>
      obtain ⟨fn, tmps, assign, body, hy, hR⟩ := hY (downs L.length (k + 1)) k wr hJs (by rw [downs_length hk]; omega) (by omega)
      clear hJs
      obtain ⟨kp, hkp⟩ : ∃ kp, L[k]? = some kp := ⟨_, List.getElem?_eq_getElem (by omega)⟩
      obtain ⟨hg0, g1, g2⟩ := kepCells_at L k kp hkp
      obtain ⟨pa, hpa, -⟩ := hcr _ _ hg0
      subst hpa
      have g0 := hcr.some_ _ _ hg0
      have g1 := hcr.some_ _ _ g1
      have g2 := hcr.some_ _ _ g2
      obtain ⟨g, o, rfl⟩ : ∃ g o, pa = ⟨g, o, none⟩ := slice_addr hcr rfl (k := 3 * k) (List.getElem?_eq_some_iff.1 hg0).1
      rw [addr_add] at g0 g1 g2
      simp only [kepArgs, hkp, Kep.vals] at hy
      have e1 : ((k + 1 : Nat) : Int) - 1 = (k : Int) := by omega
      rw [e1]
      have hk0 : (0 : Int) ≤ (k : Int) := by omega
      have hk1 : (k : Int) < (L.length : Int) := by omega
      have hw1 : IntKind.i64.wrap ((k : Int) - 1) = (k : Int) - 1 := IntWalk.i64_in _ (by omega)
      rw [Nat.mul_comm] at g0 g1 g2
      rw [← Nat.add_assoc] at g1 g2
      clear hcr hkp e1 hg0
      gi_wp2
      refine hR.mono ?_
      rintro ee W3 (⟨rfl, hJ3, hk3⟩ | ⟨rfl, hJx3⟩)
      · have hn1 := hnx.trans hk3
        clear hc1 g0 g1 g2
        gi_wp2
        go_roundw
        case rel => exact ⟨k, by omega, rfl, by rw [downs_next (by omega)]; exact hJ3, hn1⟩
        case measure => simp [intOf]
      · gi_wp2
        refine bodyPost_ret (results_none rfl _ _ _) rfl ?_
        exact ⟨⟨_, rfl⟩, .inr ⟨_, hJx3⟩⟩
    | zero =>
      rw [downs_all] at hJs
      gi_wp2
      go_end0
      exact ⟨⟨_, rfl⟩, .inl ⟨_, rfl, hJs⟩⟩
theorem back_stops (n : Nat) (hn : 1 ≤ n) (Bs : Nat) (A : Option Addr) (L : List Kep) (cap : Nat) (hreach : L.length ≤ 9223372036854775807) (w : World) (hBs : Bs < w.heap.size)
    (hcs : w.cell? ⟨Bs, 0, none⟩ = some (.slice A L.length cap)) (hc : Cells w A (kepCells L)) :
    SeqStopsK Fence.wide n Try.prog 63 #[.pointer (some ⟨Bs, 0, none⟩)] (fun x : { x : Nat // x < L.length } => kepArgs L x.1) (KeepSl Bs A (kepCells L))
      (fun ys => ys.map (·.1) = (List.range L.length).reverse) (fun _ => True) L.length w := fun l J Jx W hW hJ hJx hY h0 => by
  have hcs' := (hW.cell (p := ⟨Bs, 0, none⟩) hBs).trans hcs
  have hc' : Cells W A (kepCells L) := hc.carry hW.block
  refine (back1_in n hn l Bs A L cap hreach (fun ys W => ∃ zs : List { x : Nat // x < L.length }, zs.map (·.1) = ys ∧ J zs W) (fun ys W => ∃ zs : List { x : Nat // x < L.length }, zs.map (·.1) = ys ∧ Jx zs W) ?_ W hcs' hc' ⟨[], rfl, h0⟩ ?_).mono ?_
  · rintro pre x W1 ⟨zs, rfl, hj⟩ hl hx
    obtain ⟨fn, tmps, assign, body, hy, hR⟩ := hY zs ⟨x, hx⟩ W1 hj (by simpa using hl)
    refine ⟨fn, tmps, assign, body, hy, hR.mono ?_⟩
    rintro e W' (⟨rfl, h1, h2⟩ | ⟨rfl, h1⟩)
    · exact .inl ⟨rfl, ⟨_, by simp, h1⟩, h2⟩
    · exact .inr ⟨rfl, ⟨_, by simp, h1⟩⟩
  · rintro s W1 W2 row ⟨zs, hz, hj⟩ hg hr
    exact ⟨zs, hz, hJ _ _ _ _ hj hg hr⟩
  · rintro e W' ⟨he, ⟨ys, rfl, zs, hz, hj⟩ | ⟨pre, zs, hz, hj⟩⟩
    · exact ⟨he, .inl ⟨zs, hz, hj⟩⟩
    · exact ⟨he, .inr ⟨zs, trivial, hj⟩⟩
end Go.Proofs.Ytgdcdcacccaanaa
