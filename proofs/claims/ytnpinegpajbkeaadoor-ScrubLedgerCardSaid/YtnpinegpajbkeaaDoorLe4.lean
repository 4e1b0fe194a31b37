/- Texts of one claim, one behind the other: ScNt, Itoa, Digits, Nms, ScrG, ScrH, ScrW, ScLeW, LaidP, Laid3, SptX. -/
import Derived.Test.YtnpinegpajbkeaaDoorLe3
import Derived.Test.YtnpinegpajbkeaaDoorProg
import Derived.Shelf.Strconv.Itoa3
import Derived.Lib.LaidU8
import Derived.Lib.LaidTab
import Derived.Lib.ItoaNum
set_option linter.unusedSimpArgs false
set_option linter.unusedVariables false
namespace Go.Proofs.YtnpinegpajbkeaaDoor
open Go.RowKit HP
set_option maxHeartbeats 4000000 in
set_option maxRecDepth 100000 in
theorem scrub_note (E : Env) (q : HP) (A0 A1 : Option Addr) (l0 l1 : List Spt) (n0 n1 c0 c1 : Nat) (b : Bool) (w : World) (e0 : l0.length = n0) (e1 : l1.length = n1) (k0 : n0 ≤ 100000) (k1 : n1 ≤ 100000)
    (hq : ∀ w, Sat E w q → Cells w A0 (l0.flatMap encSpot) ∧ Cells w A1 (l1.flatMap encSpot)) (hw : Sat E w q) :
    Calls Tryd.prog 7 #[.slice A0 n0 c0, .slice A1 n1 c1, .bool b] w fun e w' => ∃ v, e = .returned v ∧ Sat E w' (HP.row 25 2 v (noteL l0 l1 b).length ((noteL l0 l1 b).flatMap encSpot) * q) := by
  obtain ⟨BX, hBX⟩ : ∃ BX, BX = w.heap.size := ⟨_, rfl⟩
  have h1 := hw.alloc (.cells #[.slice A1 n1 c1] 22)
  rw [← hBX] at h1
  have HQ := Aside.mk (And.intro hq (And.intro e0 e1))
  have H1 := Aside.mk h1
  clear hw h1 hq e0 e1
  go_enter Tryd.func7, Tryd.ntmps7
  go_wp2_with fail
  rw [← hBX] at *
  clear hBX
  refine (spt_clone E _ A0 l0 n0 c0 _ HQ.out.2.1 (by omega) (fun w h => (HQ.out.1 w h.right).1) H1.out).mono ?_
  rintro e w2 ⟨v, rfl, h2⟩
  obtain ⟨V0, cv, rfl, -, -⟩ := h2.row_slice
  cases b with
  | true =>
    have H2 := Aside.mk h2.right
    clear h2 H1
    have cb := H2.out.cell1
    go_wp2_with fail
    refine (concSp_ok E _ _ A0 A1 l0 l1 n0 n1 c0 c1 _ HQ.out.2.1 HQ.out.2.2 (by omega) (by omega) (fun w h => HQ.out.1 w h.right) (H2.out.alloc _)).mono ?_
    rintro e w3 ⟨V, c, rfl, -, -, h3⟩
    obtain ⟨P, hP⟩ : ∃ P, P = l0 ++ l1 := ⟨_, rfl⟩
    obtain ⟨N, hN⟩ : ∃ N, N = n0 + n1 := ⟨_, rfl⟩
    have hN2 : N ≤ 200000 := by omega
    have HPP : Aside (P.length = N ∧ noteL l0 l1 true = compactL (sortSp P)) := ⟨by rw [hP, List.length_append, HQ.out.2.1, HQ.out.2.2, hN], by rw [hP]; rfl⟩
    rw [← hP, ← hN] at h3
    rw [← hN]
    have H3 : Aside (Sat E w3 (HP.row 25 2 (.slice V N c) N (P.flatMap encSpot) * q)) := ⟨h3.drop2⟩
    clear h3 H2 cb hP hN
    go_wp2_with fail
    refine (sort_note E _ (.slice V N c) P N _ HPP.out.1 (by unfold maxLen; omega) H3.out).mono ?_
    rintro e w4 ⟨rfl, h4⟩
    have H4 : Aside (Sat E w4 (HP.row 25 2 (.slice V N c) N ((sortSp P).flatMap encSpot) * q)) := ⟨h4⟩
    clear h4 H3
    go_wp2_with fail
    refine (spt_compact E _ V (sortSp P) N c _ (by rw [sortSp_length, HPP.out.1]) (by omega) H4.out).mono ?_
    rintro e w5 ⟨m, cs, rfl, hm, hmn, hcs, h5⟩
    rw [← HPP.out.2] at hm hcs
    have hnc : N ≤ c := by
      obtain ⟨A', c', hv, hnc, -⟩ := h5.row_slice
      simp only [Value.slice.injEq, true_and] at hv
      omega
    have hcells : Aside (∀ w, Sat E w (HP.row 25 2 (.slice V N c) N cs * q) → Cells w V ((noteL l0 l1 true).flatMap encSpot)) := ⟨fun w h => by
      rw [← hcs]
      exact h.row_cells.take (m * 2)⟩
    have H5 := Aside.mk (And.intro h5 hm)
    have hm0 : (0 : Int) ≤ (m : Int) := by omega
    have hm1 : (m : Int) ≤ (c : Int) := by omega
    have hm2 : m ≤ c := by omega
    clear h5 hcs hm H4
    go_wp2_with fail
    refine (spt_clone E _ V (noteL l0 l1 true) m m _ H5.out.2 (by omega) hcells.out H5.out.1).mono ?_
    rintro e w6 ⟨v, rfl, h6⟩
    have H6 : Aside (Sat E w6 (HP.row 25 2 v (noteL l0 l1 true).length ((noteL l0 l1 true).flatMap encSpot) * q)) := ⟨by
      rw [H5.out.2]
      exact h6.drop2⟩
    clear h6 H5
    go_wp2
    go_ret
    exact ⟨v, rfl, H6.out⟩
  | false =>
    have H2 := Aside.mk h2
    have HNI := Aside.mk (note_in E q BX A1 l1 n1 c1 HQ.out.2.2 (by omega) (fun w h => (HQ.out.1 w h).2))
    clear h2 H1
    go_wp2_with fail
    refine (spt_delete E _ BX l1 V0 l0 n0 cv _ HNI.out HQ.out.2.1 (by omega) H2.out).mono ?_
    rintro e w3 ⟨N, rfl, hN, hNn, h3⟩
    obtain ⟨P, hP⟩ : ∃ P, P = l0.filter fun x => !hasSp l1 x := ⟨_, rfl⟩
    rw [← hP] at h3 hN
    have hN2 : N ≤ 200000 := by omega
    have HPP : Aside (P.length = N ∧ noteL l0 l1 false = compactL (sortSp P)) := ⟨hN, by rw [hP]; rfl⟩
    obtain ⟨V, hV⟩ : ∃ V, V = V0 := ⟨_, rfl⟩
    obtain ⟨c, hc⟩ : ∃ c, c = cv := ⟨_, rfl⟩
    have H3 : Aside (Sat E w3 (HP.row 25 2 (.slice V N c) N (P.flatMap encSpot) * q)) := ⟨by rw [hV, hc]; exact h3.drop2⟩
    rw [← hV, ← hc]
    clear h3 H2 HNI hP hN hNn hV hc
    go_wp2_with fail
    refine (sort_note E _ (.slice V N c) P N _ HPP.out.1 (by unfold maxLen; omega) H3.out).mono ?_
    rintro e w4 ⟨rfl, h4⟩
    have H4 : Aside (Sat E w4 (HP.row 25 2 (.slice V N c) N ((sortSp P).flatMap encSpot) * q)) := ⟨h4⟩
    clear h4 H3
    go_wp2_with fail
    refine (spt_compact E _ V (sortSp P) N c _ (by rw [sortSp_length, HPP.out.1]) (by omega) H4.out).mono ?_
    rintro e w5 ⟨m, cs, rfl, hm, hmn, hcs, h5⟩
    rw [← HPP.out.2] at hm hcs
    have hnc : N ≤ c := by
      obtain ⟨A', c', hv, hnc, -⟩ := h5.row_slice
      simp only [Value.slice.injEq, true_and] at hv
      omega
    have hcells : Aside (∀ w, Sat E w (HP.row 25 2 (.slice V N c) N cs * q) → Cells w V ((noteL l0 l1 false).flatMap encSpot)) := ⟨fun w h => by
      rw [← hcs]
      exact h.row_cells.take (m * 2)⟩
    have H5 := Aside.mk (And.intro h5 hm)
    have hm0 : (0 : Int) ≤ (m : Int) := by omega
    have hm1 : (m : Int) ≤ (c : Int) := by omega
    have hm2 : m ≤ c := by omega
    clear h5 hcs hm H4
    go_wp2_with fail
    refine (spt_clone E _ V (noteL l0 l1 false) m m _ H5.out.2 (by omega) hcells.out H5.out.1).mono ?_
    rintro e w6 ⟨v, rfl, h6⟩
    have H6 : Aside (Sat E w6 (HP.row 25 2 v (noteL l0 l1 false).length ((noteL l0 l1 false).flatMap encSpot) * q)) := ⟨by
      rw [H5.out.2]
      exact h6.drop2⟩
    clear h6 H5
    go_wp2
    go_ret
    exact ⟨v, rfl, H6.out⟩
end Go.Proofs.YtnpinegpajbkeaaDoor
namespace Go.Proofs.YtnpinegpajbkeaaDoor
open Go.Shelf Go.RowKit HP
def laysItoa_ren : Go.Shelf.Ren := ⟨fun | 171 => 51 | 243 => 79 | 246 => 101 | 283 => 118 | 284 => 119 | 285 => 120 | 286 => 121 | 129 => 95 | 317 => 128 | 318 => 129 | 319 => 130 | 320 => 131 | 337 => 134 | 338 => 135 | n => n, fun | 3 => 3 | 9 => 9 | 2 => 2 | 4 => 4 | 171 => 179 | 0 => 0 | 53 => 133 | 37 => 47 | 5 => 5 | 173 => 181 | 212 => 193 | 51 => 155 | 20 => 20 | 213 => 194 | 46 => 56 | 232 => 199 | 233 => 200 | n => n, fun | 17 => 1 | 18 => 4 | 19 => 5 | n => n⟩
theorem laysItoa : Go.Proofs.LaysM.n171 Tryd.prog laysItoa_ren := {
  mixed := by kernel_rfl
  f129 := Tryd.func95.trans (congrArg some (by kernel_rfl))
  f171 := Tryd.func51.trans (congrArg some (by kernel_rfl))
  f243 := Tryd.func79.trans (congrArg some (by kernel_rfl))
  f246 := Tryd.func101.trans (congrArg some (by kernel_rfl))
  f283 := Tryd.func118.trans (congrArg some (by kernel_rfl))
  f284 := Tryd.func119.trans (congrArg some (by kernel_rfl))
  f285 := Tryd.func120.trans (congrArg some (by kernel_rfl))
  f286 := Tryd.func121.trans (congrArg some (by kernel_rfl))
  f317 := Tryd.func128.trans (congrArg some (by kernel_rfl))
  f318 := Tryd.func129.trans (congrArg some (by kernel_rfl))
  f319 := Tryd.func130.trans (congrArg some (by kernel_rfl))
  f320 := Tryd.func131.trans (congrArg some (by kernel_rfl))
  f337 := Tryd.func134.trans (congrArg some (by kernel_rfl))
  f338 := Tryd.func135.trans (congrArg some (by kernel_rfl))
  t0 := Tryd.underlying0
  a0 := Tryd.isAgg0
  z0 := Tryd.sizeOf0
  v0 := Tryd.zeroValue0
  t2 := Tryd.underlying2
  a2 := Tryd.isAgg2
  z2 := Tryd.sizeOf2
  v2 := Tryd.zeroValue2
  t3 := Tryd.underlying3
  a3 := Tryd.isAgg3
  z3 := Tryd.sizeOf3
  v3 := Tryd.zeroValue3
  t4 := Tryd.underlying4
  a4 := Tryd.isAgg4
  z4 := Tryd.sizeOf4
  v4 := Tryd.zeroValue4
  t5 := Tryd.underlying5
  a5 := Tryd.isAgg5
  z5 := Tryd.sizeOf5
  v5 := Tryd.zeroValue5
  t9 := Tryd.underlying9
  a9 := Tryd.isAgg9
  z9 := Tryd.sizeOf9
  v9 := Tryd.zeroValue9
  t20 := Tryd.underlying20
  a20 := Tryd.isAgg20
  z20 := Tryd.sizeOf20
  v20 := Tryd.zeroValue20
  t37 := Tryd.underlying47
  a37 := Tryd.isAgg47
  z37 := Tryd.sizeOf47
  v37 := Tryd.zeroValue47
  t46 := Tryd.underlying56
  a46 := Tryd.isAgg56
  z46 := Tryd.sizeOf56
  v46 := Tryd.zeroValue56
  t51 := Tryd.underlying155
  a51 := Tryd.isAgg155
  z51 := Tryd.sizeOf155
  v51 := Tryd.zeroValue155
  t53 := Tryd.underlying133
  a53 := Tryd.isAgg133
  z53 := Tryd.sizeOf133
  v53 := Tryd.zeroValue133
  t171 := Tryd.underlying179
  a171 := Tryd.isAgg179
  z171 := Tryd.sizeOf179
  v171 := Tryd.zeroValue179
  t173 := Tryd.underlying181
  a173 := Tryd.isAgg181
  z173 := Tryd.sizeOf181
  v173 := Tryd.zeroValue181
  t212 := Tryd.underlying193
  a212 := Tryd.isAgg193
  z212 := Tryd.sizeOf193
  v212 := Tryd.zeroValue193
  t213 := Tryd.underlying194
  a213 := Tryd.isAgg194
  z213 := Tryd.sizeOf194
  t232 := Tryd.underlying199
  a232 := Tryd.isAgg199
  z232 := Tryd.sizeOf199
  v232 := Tryd.zeroValue199
  t233 := Tryd.underlying200
  a233 := Tryd.isAgg200
  z233 := Tryd.sizeOf200
  v233 := Tryd.zeroValue200
  g17 := by kernel_rfl
  g18 := by kernel_rfl
  g19 := by kernel_rfl
  i0 := by kernel_rfl
  i2 := by kernel_rfl
  i3 := by kernel_rfl
  i4 := by kernel_rfl
  i5 := by kernel_rfl
  i9 := by kernel_rfl
  i20 := by kernel_rfl
  i37 := by kernel_rfl
  i46 := by kernel_rfl
  i51 := by kernel_rfl
  i53 := by kernel_rfl
  i171 := by kernel_rfl
  i173 := by kernel_rfl
  i212 := by kernel_rfl
  i232 := by kernel_rfl
  i233 := by kernel_rfl
  m17 := by kernel_rfl
  m18 := by kernel_rfl
  m19 := by kernel_rfl }
theorem Sat.grown {E : Env} {q : HP} : ∀ (l : List Obj) {w : World}, Sat E w q → Sat E (Go.Sort.grow w l.toArray) q
  | [], w, h => by
    have : Go.Sort.grow w ([] : List Obj).toArray = w := by simp [Go.Sort.grow]
    rw [this]; exact h
  | o :: l, w, h => by
    have h1 : Sat E (w.alloc o) q := (h.alloc o).right
    have h2 := Sat.grown l h1
    rw [Go.Sort.alloc_eq_grow, Go.Sort.grow_grow] at h2
    have e : #[o] ++ l.toArray = (o :: l).toArray := by simp
    rw [e] at h2; exact h2
theorem itoa_ok (E : Env) (q : HP) (n : Int) (w : World) (hn : wf64 n) (ht : ∀ w, Sat E w q → Lib.TabIs Tryd.prog w "internal/strconv.uint64pow10" .u64 Lib.pow10Tab) (hw : Sat E w q) :
    Calls Tryd.prog 51 #[.int .i64 n] w fun e w' => e = .returned (.string ⟨(Lib.itoa n).toArray⟩) ∧ Sat E w' q := by
  refine (Any.strconv_Itoa laysItoa n hn.1 hn.2 w (ht w hw)).mono ?_
  rintro e w' ⟨rfl, k, os, rfl⟩
  refine ⟨rfl, ?_⟩
  have := Sat.grown os.toList (hw.drewN (n := k))
  simpa using this
end Go.Proofs.YtnpinegpajbkeaaDoor
namespace Go.Proofs.YtnpinegpajbkeaaDoor
open Go.RowKit HP
def decB (m : Nat) : ByteArray := ⟨(Lib.decDigits m).toArray⟩
def digB (d : Nat) : ByteArray := ⟨#[UInt8.ofNat (48 + d)]⟩
theorem decB_small {m : Nat} (h : m < 10) : decB m = digB m := by
  unfold decB digB Lib.decDigits
  rw [dif_pos h]
theorem decB_more {m : Nat} (h : ¬ m < 10) : decB m = decB (m / 10) ++ digB (m % 10) := by
  unfold decB digB
  rw [Lib.decDigits, dif_neg h]
  apply ByteArray.ext
  simp
theorem decB_size : ∀ (k u : Nat), u < 10 ^ (k + 1) → (decB u).size ≤ k + 1
  | 0, u, h => by rw [decB_small (by omega)]; exact Nat.le_refl _
  | k + 1, u, h => by
    by_cases h10 : u < 10
    · rw [decB_small h10]
      show 1 ≤ k + 1 + 1
      omega
    · rw [decB_more h10, ByteArray.size_append]
      have h2 : u / 10 < 10 ^ (k + 1) := by
        rw [Nat.pow_succ] at h
        omega
      have := decB_size k (u / 10) h2
      show _ + 1 ≤ k + 1 + 1
      omega
def mB : ByteArray := ⟨#[109]⟩
def tB : ByteArray := ⟨#[116]⟩
theorem itoa_nat (d : Nat) : (⟨(Lib.itoa (d : Int)).toArray⟩ : ByteArray) = decB d := by
  unfold Lib.itoa decB
  rw [if_neg (by omega), Int.toNat_natCast]
set_option maxHeartbeats 1000000 in
set_option maxRecDepth 100000 in
theorem names_ok (E : Env) (q : HP) (n : Int) (w : World) (hn : wf64 n) (ht : ∀ w, Sat E w q → Lib.TabIs Tryd.prog w "internal/strconv.uint64pow10" .u64 Lib.pow10Tab) (hw : Sat E w q) :
    Calls Tryd.prog 49 #[.int .i64 n] w fun e w' => e = .returned (.tuple #[.string (mB ++ decB n.toNat), .string (tB ++ decB n.toNat)]) ∧ Sat E w' q := by
  obtain ⟨d, hd⟩ : ∃ d : Nat, d = n.toNat := ⟨_, rfl⟩
  have hmx : max n 0 = (d : Int) := by omega
  have hmx2 : (if (0 : Int) > n then (0 : Int) else n) = (d : Int) := by split <;> omega
  unfold wf64 at hn
  have hsz := decB_size 18 d (by omega)
  have HI := Aside.mk (itoa_ok E q (d : Int) w ⟨by omega, by omega⟩ ht hw)
  rw [← hd]
  have hs1 : mB.size + (decB d).size ≤ 100 := by show 1 + (decB d).size ≤ 100; omega
  have hs2 : tB.size + (decB d).size ≤ 100 := by show 1 + (decB d).size ≤ 100; omega
  have hs3 : 1 + (decB d).size ≤ 100 := by omega
  clear ht hw hd hn hsz
  go_enter Tryd.func49, Tryd.ntmps49
  go_wp2_with fail
  refine HI.out.mono ?_
  rintro e w1 ⟨rfl, h1⟩
  rw [itoa_nat]
  have H1 := Aside.mk h1
  clear h1 HI
  go_wp2
  go_ret2
  exact ⟨rfl, H1.out⟩
def wB : ByteArray := ⟨#[119]⟩
def nameW (seg : Int) : ByteArray := wB ++ decB seg.toNat
set_option maxHeartbeats 1000000 in
set_option maxRecDepth 100000 in
theorem wal_name (E : Env) (q : HP) (n : Int) (w : World) (hn : wf64 n) (ht : ∀ w, Sat E w q → Lib.TabIs Tryd.prog w "internal/strconv.uint64pow10" .u64 Lib.pow10Tab) (hw : Sat E w q) :
    Calls Tryd.prog 50 #[.int .i64 n] w fun e w' => e = .returned (.string (nameW n)) ∧ Sat E w' q := by
  obtain ⟨d, hd⟩ : ∃ d : Nat, d = n.toNat := ⟨_, rfl⟩
  have hmx : max n 0 = (d : Int) := by omega
  have hmx2 : (if (0 : Int) > n then (0 : Int) else n) = (d : Int) := by split <;> omega
  unfold wf64 at hn
  have hsz := decB_size 18 d (by omega)
  have HI := Aside.mk (itoa_ok E q (d : Int) w ⟨by omega, by omega⟩ ht hw)
  have HN : Aside (nameW n = wB ++ decB d) := ⟨by unfold nameW; rw [hd]⟩
  have hs3 : 1 + (decB d).size ≤ 100 := by omega
  clear ht hw hd hn hsz
  go_enter Tryd.func50, Tryd.ntmps50
  go_wp2_with fail
  refine HI.out.mono ?_
  rintro e w1 ⟨rfl, h1⟩
  rw [itoa_nat]
  have H1 := Aside.mk h1
  clear h1 HI
  go_wp2
  go_ret
  rw [HN.out]
  exact ⟨rfl, H1.out⟩
structure Ftr where
  number : Int
  gen : Int
  level : Int
  rank : Int
  mn : Int
  mx : Int
  bytes : Int
  pA : Option Addr
  pn : Nat
  pc : Nat
def Ftr.vals (f : Ftr) : List Value := [.int .i64 f.number, .int .i64 f.gen, .int .i64 f.level, .int .i64 f.rank, .int .i64 f.mn, .int .i64 f.mx, .int .i64 f.bytes, .slice f.pA f.pn f.pc]
def Ftr.ok (f : Ftr) : Bool := decide (0 ≤ f.bytes) && decide (f.bytes ≤ 2147483647) && decide (1 ≤ f.number)
def pairsG (name : ByteArray) (n : Nat) : List Sgp := (List.range n).map fun i : Nat => ⟨1, name, i, 0⟩
def stripesG (name : ByteArray) (n : Nat) (gen : Int) : List Sgp := (List.range n).map fun i : Nat => ⟨2, name, i, gen⟩
def longN (A : Dk) (name : ByteArray) : Nat := max 1 (max (A.at (name ++ dotA)).length (A.at (name ++ dotB)).length)
def fB : ByteArray := ⟨#[102]⟩
def iB : ByteArray := ⟨#[105]⟩
def cB : ByteArray := ⟨#[99]⟩
def anchorS : ByteArray := ⟨#[97, 110, 99, 104, 111, 114]⟩
def ftG (A : Dk) (f : Ftr) : List Sgp := pairsG (fB ++ decB f.number.toNat) 1 ++ (pairsG (iB ++ decB f.number.toNat) (longN A (iB ++ decB f.number.toNat)) ++ stripesG (cB ++ decB f.number.toNat) (groupsI f.bytes).toNat f.gen)
def groupsG (A : Dk) (a : Anch) (l : List Ftr) : List Sgp :=
  if canA a = true ∧ a.ext ≤ 2147483647 ∧ l.all Ftr.ok = true then
    pairsG anchorS 1 ++ (pairsG (mB ++ decB a.gen.toNat) (longN A (mB ++ decB a.gen.toNat)) ++ (pairsG (tB ++ decB a.gen.toNat) (longN A (tB ++ decB a.gen.toNat)) ++ (pairsG (nameW a.seg) a.ext.toNat ++ l.flatMap (ftG A))))
  else []
def HP.gs (bO : Nat) (gs : List Sgp) : HP := HP.ex fun v => HP.pt bO (.cells #[v] 44) * HP.row 32 4 v gs.length (gs.flatMap Sgp.vals)
theorem slGrp : SlTy Tryd.prog 44 32 (.agg #[.int .i64 0, .string ⟨#[]⟩, .int .i64 0, .int .i64 0]) 4 40 := ⟨Tryd.underlying44, by kernel_rfl, rfl, by decide⟩
theorem Sat.gs_open {E : Env} {w : World} {q : HP} {bO : Nat} {gs : List Sgp} (h : Sat E w (HP.gs bO gs * q)) : ∃ v, Sat E w (HP.row 32 4 v gs.length (gs.flatMap Sgp.vals) * (HP.pt bO (.cells #[v] 44) * q)) := by
  obtain ⟨v, h⟩ := h.ex_elim
  exact ⟨v, h.perm (by ac_rfl)⟩
theorem Sat.gs_close {E : Env} {w : World} {q : HP} {bO : Nat} {gs : List Sgp} {v : Value} {n : Nat} {cs : List Value} (hn : n = gs.length) (hc : cs = gs.flatMap Sgp.vals) (h : Sat E w (HP.row 32 4 v n cs * (HP.pt bO (.cells #[v] 44) * q))) : Sat E w (HP.gs bO gs * q) := by
  subst hn hc
  exact Sat.ex_intro (f := fun v => HP.pt bO (.cells #[v] 44) * HP.row 32 4 v gs.length (gs.flatMap Sgp.vals)) v (h.perm (by ac_rfl))
theorem pairsG_step (name : ByteArray) (k : Nat) : pairsG name (k + 1) = pairsG name k ++ [⟨1, name, k, 0⟩] := by
  unfold pairsG; rw [List.range_succ, List.map_append]; rfl
theorem stripesG_step (name : ByteArray) (k : Nat) (gen : Int) : stripesG name (k + 1) gen = stripesG name k gen ++ [⟨2, name, k, gen⟩] := by
  unfold stripesG; rw [List.range_succ, List.map_append]; rfl
theorem pairsG_length (name : ByteArray) (n : Nat) : (pairsG name n).length = n := by unfold pairsG; rw [List.length_map, List.length_range]
theorem stripesG_length (name : ByteArray) (n : Nat) (gen : Int) : (stripesG name n gen).length = n := by unfold stripesG; rw [List.length_map, List.length_range]
set_option maxHeartbeats 4000000 in
set_option maxRecDepth 100000 in
theorem groups_pairs (E : Env) (q : HP) (bO : Nat) (gs : List Sgp) (name : ByteArray) (n : Nat) (w : World) (hs : gs.length + n ≤ 1000000) (hw : Sat E w (HP.gs bO gs * q)) :
    Calls Tryd.prog 46 #[.string name, .int .i64 n, .pointer (some ⟨bO, 0, none⟩)] w fun e w' => e = .returned (.tuple #[]) ∧ Sat E w' (HP.gs bO (gs ++ pairsG name n) * q) := by
  have H0 : Aside (Sat E w (HP.gs bO (gs ++ pairsG name 0) * q)) := ⟨by rw [show pairsG name 0 = [] from rfl, List.append_nil]; exact hw⟩
  obtain ⟨z, hz⟩ : ∃ z, z = gs.length := ⟨_, rfl⟩
  rw [← hz] at hs
  have HZ := Aside.mk hz
  clear hw hz
  go_enter Tryd.func46, Tryd.ntmps46
  go_wp2
  go_loopw [7] (fun v7 wr => ∃ k : Nat, v7 = .int .i64 k ∧ k ≤ n ∧ Aside (Sat E wr (HP.gs bO (gs ++ pairsG name k) * q))) (fun x _ => n - (intOf x).toNat)
  case atStart => exact ⟨0, rfl, Nat.zero_le _, H0⟩
  case round =>
    clear H0
    obtain ⟨k, rfl, hk, HS⟩ := hrel
    by_cases hlt : k < n
    · have hlt1 : (k : Int) < (n : Int) := by omega
      obtain ⟨v, h1⟩ := HS.out.gs_open
      obtain ⟨Av, cv, rfl, -, -⟩ := h1.row_slice
      have hl : (gs ++ pairsG name k).length = z + k := by rw [List.length_append, pairsG_length, HZ.out]
      rw [hl] at h1
      obtain ⟨L, hL⟩ : ∃ L, L = (gs ++ pairsG name k).flatMap Sgp.vals := ⟨_, rfl⟩
      rw [← hL] at h1
      have HL := Aside.mk hL
      have b0 := h1.s2.cell1
      have H1 := Aside.mk h1
      obtain ⟨zk, hzk⟩ : ∃ zk, zk = z + k := ⟨_, rfl⟩
      have hzk1 : zk ≤ 999999 := by omega
      rw [← hzk] at H1 b0
      have HK := Aside.mk hzk
      clear hL hl h1 HS hzk
      go_wp2_with (at_builtin; refine wpList_append_new slGrp rfl rfl (by rfl) (by rfl) H1.out (by rfl) (by rfl) (by unfold maxLen; omega) (by omega) (fun v5 w5 hw5 => ?_); obtain ⟨A5, c5, rfl, -, -⟩ := hw5.row_slice; have b5 := hw5.s2.cell1; have t5 := hw5.s2.thaw 0; have HW5 := Aside.mk hw5; clear hw5)
      have H6 : Aside (Sat E _ (HP.gs bO (gs ++ pairsG name (k + 1)) * q)) := ⟨Sat.gs_close (n := zk + 1) (by rw [List.length_append, pairsG_length, ← HZ.out, HK.out]; omega) (by rw [pairsG_step, ← List.append_assoc, List.flatMap_append, ← HL.out]; rfl) (HW5.out.s2.set1 (.slice A5 (zk + 1) c5)).s2⟩
      clear HW5 H1 b0 b5 t5
      go_roundw
      case rel => exact ⟨k + 1, by go_num, by omega, H6⟩
      case measure => simp [intOf]; omega
    · obtain rfl : k = n := by omega
      have hkk : ¬ (k : Int) < (k : Int) := by omega
      go_wp2
      exact ⟨rfl, .tuple #[], by first | rfl | (unfold results; rw [show Tryd.f46.results = #[] by kernel_rfl]; simp), rfl, HS.out⟩
set_option maxHeartbeats 4000000 in
set_option maxRecDepth 100000 in
theorem groups_long (E : Env) (q : HP) (d bD : Nat) (A : Dk) (name : ByteArray) (w : World) (hn : name.size + 2 ≤ maxLen) (hw : Sat E w (HP.disk d A * (HP.pt bD (.cells #[.pointer (some ⟨d, 0, none⟩)] 35) * q))) :
    Calls Tryd.prog 47 #[.string name, .pointer (some ⟨bD, 0, none⟩)] w fun e w' => e = .returned (.int .i64 (longN A name)) ∧ Sat E w' (HP.disk d A * (HP.pt bD (.cells #[.pointer (some ⟨d, 0, none⟩)] 35) * q)) := by
  have hn2 : name.size + 2 ≤ 9223372036854775807 := by unfold maxLen at hn; omega
  have hn3 : ¬ 9223372036854775807 < name.size + 2 := by omega
  have HX : Aside (∀ x : ByteArray, x.size = 2 → Calls Tryd.prog 48 #[.pointer (some ⟨d, 0, none⟩), .string (name ++ x)] w.drew fun e w' => e = .returned (.int .i64 ((A.at (name ++ x)).length : Int)) ∧ w' = w.drew) := ⟨fun x hx => disk_extents E _ d A (name ++ x) _ (by rw [ByteArray.size_append, hx]; exact hn) hw.drew⟩
  have HX1 := Aside.mk (HX.out dotA rfl)
  have HX2 := Aside.mk (HX.out dotB rfl)
  have HF := hw.disk_fine
  have ha := at_small HF (name ++ dotA)
  have hb := at_small HF (name ++ dotB)
  have HL : Aside (longN A name = max 1 (max (A.at (name ++ dotA)).length (A.at (name ++ dotB)).length)) := ⟨rfl⟩
  obtain ⟨x, hx⟩ : ∃ x, x = (A.at (name ++ dotA)).length := ⟨_, rfl⟩
  obtain ⟨y, hy⟩ : ∃ y, y = (A.at (name ++ dotB)).length := ⟨_, rfl⟩
  rw [← hx] at HX1 HL ha
  rw [← hy] at HX2 HL hb
  have b0 := hw.drew.s2.cell1
  have H0 := Aside.mk hw.drew
  obtain ⟨r, hr⟩ : ∃ r, r = longN A name := ⟨_, rfl⟩
  rw [← hr] at HL ⊢
  clear HX HF hw hx hy hr hn
  unfold dotA at HX1
  unfold dotB at HX2
  go_enter Tryd.func47, Tryd.ntmps47
  go_wp2
  refine region_R [3, 7] [3] (fun W => W = w.drew) #[false, false, false, false, false, false, false, false, false, false] (by kernel_rfl) rfl rfl ?_
  refine wpR_rd 0 #[true, false, false, false, false, false, false, false, false, false] rfl onlyN_noPanic (by kernel_rfl) (fun K hK => ?_); (go_simp; try go_bits); refine hK _ ?_; clear hK K
  refine wpR_rd 1 #[true, true, false, false, false, false, false, false, false, false] rfl onlyN_noPanic (by kernel_rfl) (fun K hK => ?_); (go_simp; try go_bits); refine hK _ ?_; clear hK K
  refine wpR_rd 2 #[true, true, true, false, false, false, false, false, false, false] rfl onlyN_noPanic (by kernel_rfl) (fun K hK => ?_); (go_simp; try go_bits); refine hK _ ?_; clear hK K
  refine wpR_held (i := 4) (v := .pointer (some ⟨d, 0, none⟩)) #[true, true, true, false, true, false, false, false, false, false] rfl onlyN_noPanic (by kernel_rfl) (by go_simp) (.inl ⟨rfl, fun w' hT => ?_⟩) ?_
  · subst hT; go_simp
  simp only [Act.put, List.setIfInBounds_toArray, List.set_cons_zero, List.set_cons_succ]
  refine wpR_pu 5 #[true, true, true, false, true, true, false, false, false, false] rfl onlyN_noPanic (by kernel_rfl) (fun K hK => ?_); (go_simp; try go_bits); refine hK _ ?_; clear hK K
  refine wpR_pu 6 #[true, true, true, false, true, true, true, false, false, false] rfl onlyN_noPanic (by kernel_rfl) (fun K hK => ?_); (go_simp; try go_bits); refine hK _ ?_; clear hK K
  refine wpR_keep #[true, true, true, true, true, true, true, false, false, false] (i := 3) rfl (by kernel_rfl) (fun K hK => ?_)
  go_simp; refine (HX1.out).mono ?_; rintro e w5 ⟨rfl, hw5⟩; subst w5; refine hK _ _ rfl ?_; clear hK K
  refine wpR_eff #[true, true, true, true, true, true, true, true, false, false] (i := 7) rfl (by kernel_rfl) (fun K hK => ?_)
  go_simp; refine (HX2.out).mono ?_; rintro e w5 ⟨rfl, hw5⟩; subst w5; refine hK _ _ ?_; clear hK K
  refine wpR_rd 8 #[true, true, true, true, true, true, true, true, true, false] rfl onlyN_noPanic (by kernel_rfl) (fun K hK => ?_); (go_simp; try go_bits); refine hK _ ?_; clear hK K
  refine wpR_rd 9 #[true, true, true, true, true, true, true, true, true, true] rfl onlyN_noPanic (by kernel_rfl) (fun K hK => ?_); (go_simp; try go_bits); refine hK _ ?_; clear hK K
  refine wpR_done (by kernel_rfl) ?_ _
  simp only [OnlyN]
  go_wp2
  all_goals
    go_ret
    refine ⟨?_, H0.out⟩
    refine congrArg (fun z : Int => Ending.returned (Value.int .i64 z)) ?_
    have hr : 1 ≤ r ∧ x ≤ r ∧ y ≤ r ∧ (r = 1 ∨ r = x ∨ r = y) := by have := HL.out; omega
    clear HX1 HX2 b0 H0 HL hn2 hn3
    by_cases h1 : (1 : Int) < (x : Int)
    · have h2 : 2 ≤ x := by omega
      simp only [h1, if_true, if_false] at * <;> omega
    · have h2 : x ≤ 1 := by omega
      simp only [h1, if_true, if_false] at * <;> omega
set_option maxHeartbeats 2000000 in
set_option maxRecDepth 100000 in
theorem groups_wrong (E : Env) (q : HP) (f : Ftr) (w : World) (hw : Sat E w q) :
    Calls Tryd.prog 43 #[.agg #[.int .i64 f.number, .int .i64 f.gen, .int .i64 f.level, .int .i64 f.rank, .int .i64 f.mn, .int .i64 f.mx, .int .i64 f.bytes, .slice f.pA f.pn f.pc]] w fun e w' => e = .returned (.bool (!f.ok)) ∧ Sat E w' q := by
  have h1 := hw.alloc (.cells #[.int .i64 f.number, .int .i64 f.gen, .int .i64 f.level, .int .i64 f.rank, .int .i64 f.mn, .int .i64 f.mx, .int .i64 f.bytes, .slice f.pA f.pn f.pc] 86)
  have k0 := h1.cell 0
  have k6 := h1.cell 6
  simp only [List.getElem?_toArray, List.getElem?_cons_zero, List.getElem?_cons_succ] at k0 k6
  have H1 := Aside.mk h1.right
  have HO : Aside (f.ok = (decide (0 ≤ f.bytes) && decide (f.bytes ≤ 2147483647) && decide (1 ≤ f.number))) := ⟨rfl⟩
  clear hw h1
  by_cases h0 : f.bytes < 0
  · have HR : Aside (f.ok = false) := ⟨by rw [HO.out, decide_eq_false (by omega)]; rfl⟩
    clear HO
    rw [HR.out]
    go_enter Tryd.func43, Tryd.ntmps43
    go_wp2
    go_ret
    exact ⟨rfl, H1.out⟩
  · by_cases h2 : 2147483647 < f.bytes
    · have HR : Aside (f.ok = false) := ⟨by rw [HO.out, decide_eq_true (show 0 ≤ f.bytes by omega), decide_eq_false (show ¬ f.bytes ≤ 2147483647 by omega)]; rfl⟩
      clear HO
      rw [HR.out]
      go_enter Tryd.func43, Tryd.ntmps43
      go_wp2
      go_ret
      exact ⟨rfl, H1.out⟩
    · by_cases h3 : f.number < 1
      · have HR : Aside (f.ok = false) := ⟨by rw [HO.out, decide_eq_true (show 0 ≤ f.bytes by omega), decide_eq_true (show f.bytes ≤ 2147483647 by omega), decide_eq_false (show ¬ 1 ≤ f.number by omega)]; rfl⟩
        clear HO
        rw [HR.out]
        go_enter Tryd.func43, Tryd.ntmps43
        go_wp2
        go_ret
        exact ⟨rfl, H1.out⟩
      · have HR : Aside (f.ok = true) := ⟨by rw [HO.out, decide_eq_true (show 0 ≤ f.bytes by omega), decide_eq_true (show f.bytes ≤ 2147483647 by omega), decide_eq_true (show 1 ≤ f.number by omega)]; rfl⟩
        clear HO
        rw [HR.out]
        go_enter Tryd.func43, Tryd.ntmps43
        go_wp2
        go_ret
        exact ⟨rfl, H1.out⟩
theorem ftr_at {w : World} {A : Option Addr} {l : List Ftr} (h : Cells w A (l.flatMap Ftr.vals)) {k : Nat} {x : Ftr} (hk : l[k]? = some x) : ∃ g o, A = some ⟨g, o, none⟩ ∧ ∀ j v, x.vals[j]? = some v → w.cell? ⟨g, o + k * 8 + j, none⟩ = some v := by
  have g0 := flat_get Ftr.vals 8 l (fun _ => rfl) k 0 x hk (by omega)
  obtain ⟨a, ha, -⟩ := h _ _ g0
  obtain ⟨g, o, rfl⟩ : ∃ g o, a = ⟨g, o, none⟩ := slice_addr h ha (List.getElem?_eq_some_iff.1 g0).1
  subst ha
  refine ⟨g, o, rfl, fun j u hj => ?_⟩
  have hj2 : j < 8 := (List.getElem?_eq_some_iff.1 hj).1
  have := h.some_ (k * 8 + j) u (by rw [flat_get Ftr.vals 8 l (fun _ => rfl) k j x hk hj2]; exact hj)
  rw [addr_add] at this
  rw [show o + k * 8 + j = o + (k * 8 + j) by omega]
  exact this
theorem okAll_take {l : List Ftr} {k : Nat} {x : Ftr} (hx : l[k]? = some x) : (l.take (k + 1)).all Ftr.ok = ((l.take k).all Ftr.ok && x.ok) := by
  rw [List.take_add_one, hx, List.all_append]
  simp
set_option maxHeartbeats 2000000 in
set_option maxRecDepth 100000 in
theorem ftr_index (E : Env) (q : HP) (A : Option Addr) (l : List Ftr) (n c : Nat) (w : World) (hln : l.length = n) (hm : n ≤ 4611686018427387904) (hq : ∀ w, Sat E w q → Cells w A (l.flatMap Ftr.vals)) (hw : Sat E w q) :
    Calls Tryd.prog 78 #[.slice A n c, .func (.func 43) #[] #[]] w fun e w' => (∃ i : Int, e = .returned (.int .i64 i) ∧ (if 0 ≤ i then l.all Ftr.ok = false else l.all Ftr.ok = true)) ∧ Sat E w' q := by
  have HL := Aside.mk (And.intro hln hq)
  have H0 := Aside.mk hw
  clear hln hq hw
  go_enter Tryd.func78, Tryd.ntmps78
  go_wp2
  go_loopw [8] (fun v8 wr => ∃ k : Nat, k ≤ n ∧ v8 = .int .i64 k ∧ Aside ((l.take k).all Ftr.ok = true) ∧ Aside (Sat E wr q)) (fun i _ => n - (intOf i).toNat)
  case atStart => exact ⟨0, by omega, rfl, ⟨rfl⟩, H0⟩
  case round =>
    clear H0
    obtain ⟨k, hk, rfl, HB, HS⟩ := hrel
    by_cases hlt : k < n
    · have hlt2 : (k : Int) < n := by omega
      have hlt0 : (0 : Int) ≤ (k : Int) := by omega
      have hkl : k < l.length := by rw [HL.out.1]; exact hlt
      obtain ⟨x, hx⟩ : ∃ x, l[k]? = some x := ⟨_, List.getElem?_eq_getElem hkl⟩
      obtain ⟨g, o, rfl, gx⟩ := ftr_at (HL.out.2 _ HS.out) hx
      have c0 : wr.cell? ⟨g, o + k * 8, none⟩ = some (.int .i64 x.number) := gx 0 _ rfl
      have c1 : wr.cell? ⟨g, o + k * 8 + 1, none⟩ = some (.int .i64 x.gen) := gx 1 _ rfl
      have c2 : wr.cell? ⟨g, o + k * 8 + 2, none⟩ = some (.int .i64 x.level) := gx 2 _ rfl
      have c3 : wr.cell? ⟨g, o + k * 8 + 3, none⟩ = some (.int .i64 x.rank) := gx 3 _ rfl
      have c4 : wr.cell? ⟨g, o + k * 8 + 4, none⟩ = some (.int .i64 x.mn) := gx 4 _ rfl
      have c5 : wr.cell? ⟨g, o + k * 8 + 5, none⟩ = some (.int .i64 x.mx) := gx 5 _ rfl
      have c6 : wr.cell? ⟨g, o + k * 8 + 6, none⟩ = some (.int .i64 x.bytes) := gx 6 _ rfl
      have c7 : wr.cell? ⟨g, o + k * 8 + 7, none⟩ = some (.slice x.pA x.pn x.pc) := gx 7 _ rfl
      have HX := Aside.mk hx
      clear hx hkl
      cases hq : x.ok with
      | false =>
        have HQ : Aside (l.all Ftr.ok = false) := ⟨by
          rw [Bool.eq_false_iff]
          intro hn
          rw [List.all_eq_true] at hn
          have := hn x (List.mem_of_getElem? HX.out)
          rw [hq] at this
          cases this⟩
        go_wp2_with fail
        refine (groups_wrong E q x _ HS.out).mono ?_
        rintro e w1 ⟨rfl, hw1⟩
        rw [hq]
        have H1 := Aside.mk hw1
        clear hw1 HS gx c0 c1 c2 c3 c4 c5 c6 c7
        go_wp2
        go_ret
        exact ⟨⟨_, rfl, by rw [if_pos (by omega)]; exact HQ.out⟩, H1.out⟩
      | true =>
        have HQ : Aside ((l.take (k + 1)).all Ftr.ok = true) := ⟨by rw [okAll_take HX.out, HB.out, hq]; rfl⟩
        go_wp2_with fail
        refine (groups_wrong E q x _ HS.out).mono ?_
        rintro e w1 ⟨rfl, hw1⟩
        rw [hq]
        have H1 := Aside.mk hw1
        clear hw1 HS gx c0 c1 c2 c3 c4 c5 c6 c7
        go_wp2
        go_roundw
        case rel => exact ⟨k + 1, by omega, by push_cast; rfl, HQ, H1⟩
        case measure => simp [intOf]; omega
    · obtain rfl : k = n := by omega
      have HQ : Aside (l.all Ftr.ok = true) := ⟨by have := HB.out; rwa [List.take_of_length_le (by rw [HL.out.1]; exact Nat.le_refl _)] at this⟩
      go_wp2
      go_ret
      exact ⟨⟨_, rfl, by rw [if_neg (by omega)]; exact HQ.out⟩, HS.out⟩
set_option maxHeartbeats 1000000 in
set_option maxRecDepth 100000 in
theorem ftr_contains (E : Env) (q : HP) (A : Option Addr) (l : List Ftr) (n c : Nat) (w : World) (hln : l.length = n) (hm : n ≤ 4611686018427387904) (hq : ∀ w, Sat E w q → Cells w A (l.flatMap Ftr.vals)) (hw : Sat E w q) :
    Calls Tryd.prog 45 #[.slice A n c, .func (.func 43) #[] #[]] w fun e w' => e = .returned (.bool (!l.all Ftr.ok)) ∧ Sat E w' q := by
  have HI := Aside.mk (ftr_index E q A l n c w hln hm hq hw)
  clear hln hq hw
  go_enter Tryd.func45, Tryd.ntmps45
  go_wp2_with fail
  refine HI.out.mono ?_
  rintro e w1 ⟨⟨i, rfl, hi⟩, hw1⟩
  have H1 := Aside.mk hw1
  clear hw1 HI
  by_cases h0 : 0 ≤ i
  · rw [if_pos h0] at hi
    have HV := Aside.mk hi
    clear hi
    go_wp2
    go_ret
    rw [HV.out]
    exact ⟨rfl, H1.out⟩
  · rw [if_neg h0] at hi
    have HV := Aside.mk hi
    clear hi
    go_wp2
    go_ret
    rw [HV.out]
    exact ⟨by show Ending.returned (Value.bool (decide (0 ≤ i))) = _; rw [decide_eq_false (by omega)]; rfl, H1.out⟩
theorem canA_ext {a : Anch} (h : canA a = true) : 0 ≤ a.ext := by
  unfold canA btw nOk at h
  simp only [List.all_cons, List.all_nil, Bool.and_true, Bool.and_eq_true, decide_eq_true_eq] at h
  omega
theorem flat_take {α β : Type} (f : α → List β) {l : List α} {k : Nat} {x : α} (h : l[k]? = some x) : (l.take (k + 1)).flatMap f = (l.take k).flatMap f ++ f x := by
  rw [List.take_add_one, h, Option.toList_some, List.flatMap_append]
  simp
theorem flat_take_le {α β : Type} (f : α → List β) (l : List α) (k : Nat) : ((l.take k).flatMap f).length ≤ (l.flatMap f).length := by
  conv => rhs; rw [← List.take_append_drop k l]
  rw [List.flatMap_append, List.length_append]
  omega
def headG (A : Dk) (GNN : Nat) (seg : Int) (x : Nat) : List Sgp := pairsG anchorS 1 ++ pairsG (mB ++ decB GNN) (longN A (mB ++ decB GNN)) ++ pairsG (tB ++ decB GNN) (longN A (tB ++ decB GNN)) ++ pairsG (nameW seg) x
set_option maxHeartbeats 8000000 in
set_option maxRecDepth 100000 in
theorem scrub_groups (E : Env) (q : HP) (d : Nat) (A : Dk) (a : Anch) (l : List Ftr) (V : Option Addr) (n c : Nat) (w : World) (hl : l.length = n) (hn9 : n ≤ 1000000) (hag : wf64 a.gen) (has : wf64 a.seg) (hlf : ∀ f ∈ l, wf64 f.number ∧ wf64 f.bytes) (hsm : (groupsG A a l).length ≤ 1000000)
    (hq : ∀ w, Sat E w q → Lib.TabIs Tryd.prog w "internal/strconv.uint64pow10" .u64 Lib.pow10Tab ∧ Cells w V (l.flatMap Ftr.vals)) (hw : Sat E w (HP.disk d A * q)) :
    Calls Tryd.prog 15 #[.pointer (some ⟨d, 0, none⟩), .agg #[.int .i64 a.seq, .int .i64 a.gen, .int .i64 a.lsn, .int .i64 a.seg, .int .i64 a.ext, .int .i64 a.flo, .int .i64 a.new, .int .i64 a.keep, .int .i64 a.next, .int .i64 a.cur], .slice V n c] w fun e w' => ∃ v, e = .returned v ∧ Sat E w' (HP.row 32 4 v (groupsG A a l).length ((groupsG A a l).flatMap Sgp.vals) * (HP.disk d A * q)) := by
  obtain ⟨seq, gen, lsn, seg, ext, flo, new, keep, next, cur⟩ := a
  dsimp only at *
  have HQ := Aside.mk (And.intro hq (And.intro hl (And.intro hlf (And.intro hag has))))
  have HGG : Aside (groupsG A ⟨seq, gen, lsn, seg, ext, flo, new, keep, next, cur⟩ l = if canA ⟨seq, gen, lsn, seg, ext, flo, new, keep, next, cur⟩ = true ∧ ext ≤ 2147483647 ∧ l.all Ftr.ok = true then pairsG anchorS 1 ++ (pairsG (mB ++ decB gen.toNat) (longN A (mB ++ decB gen.toNat)) ++ (pairsG (tB ++ decB gen.toNat) (longN A (tB ++ decB gen.toNat)) ++ (pairsG (nameW seg) ext.toNat ++ l.flatMap (ftG A)))) else []) := ⟨rfl⟩
  obtain ⟨gg, hgg⟩ : ∃ gg, gg = groupsG A ⟨seq, gen, lsn, seg, ext, flo, new, keep, next, cur⟩ l := ⟨_, rfl⟩
  rw [← hgg] at HGG hsm ⊢
  have HSM := Aside.mk hsm
  have h1 := hw.alloc (.cells #[.pointer (some ⟨d, 0, none⟩)] 35)
  have h2 := h1.alloc (.cells #[.int .i64 seq, .int .i64 gen, .int .i64 lsn, .int .i64 seg, .int .i64 ext, .int .i64 flo, .int .i64 new, .int .i64 keep, .int .i64 next, .int .i64 cur] 34)
  have hz : (w.alloc (.cells #[.pointer (some ⟨d, 0, none⟩)] 35)).heap.size = w.heap.size + 1 := by simp
  rw [hz] at h2
  have H2 : Aside (Sat E ((w.alloc (.cells #[.pointer (some ⟨d, 0, none⟩)] 35)).alloc (.cells #[.int .i64 seq, .int .i64 gen, .int .i64 lsn, .int .i64 seg, .int .i64 ext, .int .i64 flo, .int .i64 new, .int .i64 keep, .int .i64 next, .int .i64 cur] 34)) (HP.disk d A * (HP.pt w.heap.size (.cells #[.pointer (some ⟨d, 0, none⟩)] 35) * (HP.pt (w.heap.size + 1) (.cells #[.int .i64 seq, .int .i64 gen, .int .i64 lsn, .int .i64 seg, .int .i64 ext, .int .i64 flo, .int .i64 new, .int .i64 keep, .int .i64 next, .int .i64 cur] 34) * q)))) := ⟨h2.perm (by ac_rfl)⟩
  have b0 := H2.out.s2.cell1
  clear hw hq hl hlf hag has h1 h2 hz hgg hsm
  go_enter Tryd.func15, Tryd.ntmps15
  go_wp2_with fail
  refine (disk_asked E _ d A _ H2.out).mono ?_
  rintro e w1 ⟨rfl, hw1⟩
  have k0 := hw1.s3.cell 0
  have k1 := hw1.s3.cell 1
  have k2 := hw1.s3.cell 2
  have k3 := hw1.s3.cell 3
  have k4 := hw1.s3.cell 4
  have k5 := hw1.s3.cell 5
  have k6 := hw1.s3.cell 6
  have k7 := hw1.s3.cell 7
  have k8 := hw1.s3.cell 8
  have k9 := hw1.s3.cell 9
  simp only [List.getElem?_toArray, List.getElem?_cons_zero, List.getElem?_cons_succ] at k0 k1 k2 k3 k4 k5 k6 k7 k8 k9
  have H3 := Aside.mk hw1
  clear hw1 H2 b0
  go_wp2_with fail
  refine (can_ok E _ ⟨seq, gen, lsn, seg, ext, flo, new, keep, next, cur⟩ _ H3.out).mono ?_
  rintro e w2 ⟨rfl, h4⟩
  clear k0 k1 k2 k3 k4 k5 k6 k7 k8 k9 H3
  cases hcan : canA ⟨seq, gen, lsn, seg, ext, flo, new, keep, next, cur⟩ with
  | false =>
    have HG : Aside (gg = []) := ⟨by rw [HGG.out, if_neg (fun h => by rw [hcan] at h; cases h.1)]⟩
    have H5 : Aside (Sat E w2 (HP.disk d A * q)) := ⟨h4.drop2.drop2⟩
    clear h4 hcan
    go_wp2
    go_ret
    rw [HG.out]
    exact ⟨_, rfl, H5.out.row_nil _ _ _⟩
  | true =>
    have hx0 : 0 ≤ ext := canA_ext hcan
    obtain ⟨x, rfl⟩ : ∃ x : Nat, ext = (x : Int) := ⟨ext.toNat, by omega⟩
    have k4 := h4.s3.cell 4
    simp only [List.getElem?_toArray, List.getElem?_cons_zero, List.getElem?_cons_succ] at k4
    by_cases hxt : 2147483647 < (x : Int)
    · have HG : Aside (gg = []) := ⟨by rw [HGG.out, if_neg (fun h => by omega)]⟩
      have H5 : Aside (Sat E w2 (HP.disk d A * q)) := ⟨h4.drop2.drop2⟩
      clear h4 hcan
      go_wp2
      go_ret
      rw [HG.out]
      exact ⟨_, rfl, H5.out.row_nil _ _ _⟩
    · have H5 := Aside.mk h4
      have HC := Aside.mk hcan
      clear h4 hcan
      go_wp2_with fail
      refine (ftr_contains E _ V l n c _ HQ.out.2.1 (by omega) (fun w h => (HQ.out.1 w h.right.right.right).2) H5.out).mono ?_
      rintro e w3 ⟨rfl, h6⟩
      clear H5 k4
      cases hall : l.all Ftr.ok with
      | false =>
        have HG : Aside (gg = []) := ⟨by rw [HGG.out, if_neg (fun h => by rw [hall] at h; cases h.2.2)]⟩
        have H6 : Aside (Sat E w3 (HP.disk d A * q)) := ⟨h6.drop2.drop2⟩
        clear h6 hall
        go_wp2
        go_ret
        rw [HG.out]
        exact ⟨_, rfl, H6.out.row_nil _ _ _⟩
      | true =>
        have HG : Aside (gg = headG A gen.toNat seg x ++ l.flatMap (ftG A)) := ⟨by
          rw [HGG.out, if_pos ⟨HC.out, by omega, hall⟩]
          unfold headG
          rw [Int.toNat_natCast]
          simp only [List.append_assoc]⟩
        have HOK : Aside (∀ f ∈ l, f.ok = true) := ⟨by rwa [List.all_eq_true] at hall⟩
        have HSZ : Aside (1 + longN A (mB ++ decB gen.toNat) + longN A (tB ++ decB gen.toNat) + x + (l.flatMap (ftG A)).length ≤ 1000000) := ⟨by
          have h := HSM.out
          rw [HG.out] at h
          unfold headG at h
          simp only [List.length_append, pairsG_length] at h
          omega⟩
        have hgs : (decB gen.toNat).size ≤ 19 := by
          exact decB_size 18 gen.toNat (by have := HQ.out.2.2.2.1; unfold wf64 at this; omega)
        have hms : (mB ++ decB gen.toNat).size ≤ 20 := by rw [ByteArray.size_append]; show 1 + _ ≤ 20; omega
        have hts : (tB ++ decB gen.toNat).size ≤ 20 := by rw [ByteArray.size_append]; show 1 + _ ≤ 20; omega
        have HNS : Aside ((mB ++ decB gen.toNat).size + 2 ≤ maxLen ∧ (tB ++ decB gen.toNat).size + 2 ≤ maxLen) := ⟨by unfold maxLen; omega, by unfold maxLen; omega⟩
        obtain ⟨bD, hbD⟩ : ∃ bD, bD = w.heap.size := ⟨_, rfl⟩
        rw [← hbD] at h6 ⊢
        obtain ⟨bA, hbA⟩ : ∃ bA, bA = bD + 1 := ⟨_, rfl⟩
        rw [← hbA] at h6 ⊢
        clear hbD hbA HGG hall hgs hms hts
        have h7 := h6.alloc (.cells #[.slice none 0 0] 44)
        obtain ⟨bO, hbO⟩ : ∃ bO, bO = w3.heap.size := ⟨_, rfl⟩
        rw [← hbO] at h7
        have H7 : Aside (Sat E (w3.alloc (.cells #[.slice none 0 0] 44)) (HP.gs bO ([]) * (HP.disk d A * (HP.pt bD (.cells #[.pointer (some ⟨d, 0, none⟩)] 35) * (HP.pt bA (.cells #[.int .i64 seq, .int .i64 gen, .int .i64 lsn, .int .i64 seg, .int .i64 (x : Nat), .int .i64 flo, .int .i64 new, .int .i64 keep, .int .i64 next, .int .i64 cur] 34) * q))))) := ⟨Sat.gs_close (v := .slice none 0 0) (n := 0) (cs := []) rfl rfl (h7.row_nil 32 4 none)⟩
        have c1 := H7.out.right.right.right.cell 1
        simp only [List.getElem?_toArray, List.getElem?_cons_zero, List.getElem?_cons_succ] at c1
        clear h6 h7
        go_wp2_with fail
        rw [← hbO]
        refine (names_ok E _ gen _ HQ.out.2.2.2.1 (fun w h => (HQ.out.1 w h.right.right.right.right).1) H7.out).mono ?_
        rintro e w4 ⟨rfl, h8⟩
        have H8 := Aside.mk h8
        clear h8 H7 c1 hbO
        go_wp2_with fail
        refine (groups_pairs E _ bO [] anchorS 1 _ (by simp) H8.out).mono ?_
        rintro e w5 ⟨rfl, h9⟩
        rw [List.nil_append] at h9
        have H9 : Aside (Sat E w5 (HP.disk d A * (HP.pt bD (.cells #[.pointer (some ⟨d, 0, none⟩)] 35) * (HP.gs bO (pairsG anchorS 1) * (HP.pt bA (.cells #[.int .i64 seq, .int .i64 gen, .int .i64 lsn, .int .i64 seg, .int .i64 (x : Nat), .int .i64 flo, .int .i64 new, .int .i64 keep, .int .i64 next, .int .i64 cur] 34) * q))))) := ⟨h9.perm (by ac_rfl)⟩
        clear h9 H8
        go_wp2_with fail
        refine (groups_long E _ d bD A (mB ++ decB gen.toNat) _ HNS.out.1 H9.out).mono ?_
        rintro e w6 ⟨rfl, h10⟩
        have H10 : Aside (Sat E w6 (HP.gs bO (pairsG anchorS 1) * (HP.disk d A * (HP.pt bD (.cells #[.pointer (some ⟨d, 0, none⟩)] 35) * (HP.pt bA (.cells #[.int .i64 seq, .int .i64 gen, .int .i64 lsn, .int .i64 seg, .int .i64 (x : Nat), .int .i64 flo, .int .i64 new, .int .i64 keep, .int .i64 next, .int .i64 cur] 34) * q))))) := ⟨h10.perm (by ac_rfl)⟩
        clear h10 H9
        go_wp2_with fail
        refine (groups_pairs E _ bO (pairsG anchorS 1) (mB ++ decB gen.toNat) (longN A (mB ++ decB gen.toNat)) _ (by simp only [List.length_append, pairsG_length]; have := HSZ.out; omega) H10.out).mono ?_
        rintro e w7 ⟨rfl, h11⟩
        have H11 : Aside (Sat E w7 (HP.disk d A * (HP.pt bD (.cells #[.pointer (some ⟨d, 0, none⟩)] 35) * (HP.gs bO (pairsG anchorS 1 ++ pairsG (mB ++ decB gen.toNat) (longN A (mB ++ decB gen.toNat))) * (HP.pt bA (.cells #[.int .i64 seq, .int .i64 gen, .int .i64 lsn, .int .i64 seg, .int .i64 (x : Nat), .int .i64 flo, .int .i64 new, .int .i64 keep, .int .i64 next, .int .i64 cur] 34) * q))))) := ⟨h11.perm (by ac_rfl)⟩
        clear h11 H10
        go_wp2_with fail
        refine (groups_long E _ d bD A (tB ++ decB gen.toNat) _ HNS.out.2 H11.out).mono ?_
        rintro e w8 ⟨rfl, h12⟩
        have H12 : Aside (Sat E w8 (HP.gs bO (pairsG anchorS 1 ++ pairsG (mB ++ decB gen.toNat) (longN A (mB ++ decB gen.toNat))) * (HP.disk d A * (HP.pt bD (.cells #[.pointer (some ⟨d, 0, none⟩)] 35) * (HP.pt bA (.cells #[.int .i64 seq, .int .i64 gen, .int .i64 lsn, .int .i64 seg, .int .i64 (x : Nat), .int .i64 flo, .int .i64 new, .int .i64 keep, .int .i64 next, .int .i64 cur] 34) * q))))) := ⟨h12.perm (by ac_rfl)⟩
        clear h12 H11
        go_wp2_with fail
        refine (groups_pairs E _ bO (pairsG anchorS 1 ++ pairsG (mB ++ decB gen.toNat) (longN A (mB ++ decB gen.toNat))) (tB ++ decB gen.toNat) (longN A (tB ++ decB gen.toNat)) _ (by simp only [List.length_append, pairsG_length]; have := HSZ.out; omega) H12.out).mono ?_
        rintro e w9 ⟨rfl, h13⟩
        have H13 := Aside.mk h13.drew
        clear h13 H12
        have c3 := H13.out.right.right.right.cell 3
        simp only [List.getElem?_toArray, List.getElem?_cons_zero, List.getElem?_cons_succ] at c3
        go_wp2
        refine region_R [3, 6] [3] (fun W => Sat E W (HP.gs bO (pairsG anchorS 1 ++ pairsG (mB ++ decB gen.toNat) (longN A (mB ++ decB gen.toNat)) ++ pairsG (tB ++ decB gen.toNat) (longN A (tB ++ decB gen.toNat))) * (HP.disk d A * (HP.pt bD (.cells #[.pointer (some ⟨d, 0, none⟩)] 35) * (HP.pt bA (.cells #[.int .i64 seq, .int .i64 gen, .int .i64 lsn, .int .i64 seg, .int .i64 (x : Nat), .int .i64 flo, .int .i64 new, .int .i64 keep, .int .i64 next, .int .i64 cur] 34) * q))))) #[false, false, false, false, false, false, false] (by kernel_rfl) rfl rfl ?_
        refine wpR_pu 0 #[true, false, false, false, false, false, false] rfl onlyN_noPanic (by kernel_rfl) (fun K hK => ?_); (go_simp; try go_bits); refine hK _ ?_; clear hK K
        refine wpR_rd 1 #[true, true, false, false, false, false, false] rfl onlyN_noPanic (by kernel_rfl) (fun K hK => ?_); (go_simp; try go_bits); refine hK _ ?_; clear hK K
        refine wpR_rd 2 #[true, true, true, false, false, false, false] rfl onlyN_noPanic (by kernel_rfl) (fun K hK => ?_); (go_simp; try go_bits); refine hK _ ?_; clear hK K
        refine wpR_pu 4 #[true, true, true, false, true, false, false] rfl onlyN_noPanic (by kernel_rfl) (fun K hK => ?_); (go_simp; try go_bits); refine hK _ ?_; clear hK K
        refine wpR_held (i := 5) (v := .int .i64 (x : Nat)) #[true, true, true, false, true, true, false] rfl onlyN_noPanic (by kernel_rfl) H13.out (.inl ⟨rfl, fun w' hT => ?_⟩) ?_
        · have c4 := hT.right.right.right.cell 4
          simp only [List.getElem?_toArray, List.getElem?_cons_zero, List.getElem?_cons_succ] at c4
          go_simp
        simp only [Act.put, List.setIfInBounds_toArray, List.set_cons_zero, List.set_cons_succ]
        refine wpR_keep #[true, true, true, true, true, true, false] (i := 3) rfl (by kernel_rfl) (fun K hK => ?_)
        go_simp; refine (wal_name E _ seg _ HQ.out.2.2.2.2 (fun w h => (HQ.out.1 w h.right.right.right.right).1) H13.out).mono ?_; rintro e w10 ⟨rfl, h14⟩; have H14 := Aside.mk h14; refine hK _ _ h14 ?_; clear hK K h14 H13 c3
        refine wpR_eff #[true, true, true, true, true, true, true] (i := 6) rfl (by kernel_rfl) (fun K hK => ?_)
        go_simp; refine (groups_pairs E _ bO (pairsG anchorS 1 ++ pairsG (mB ++ decB gen.toNat) (longN A (mB ++ decB gen.toNat)) ++ pairsG (tB ++ decB gen.toNat) (longN A (tB ++ decB gen.toNat))) (nameW seg) x _ (by simp only [List.length_append, pairsG_length]; have := HSZ.out; omega) H14.out).mono ?_; rintro e w11 ⟨rfl, h15⟩; have H15 : Aside (Sat E w11 (HP.gs bO (headG A gen.toNat seg x) * (HP.disk d A * (HP.pt bD (.cells #[.pointer (some ⟨d, 0, none⟩)] 35) * (HP.pt bA (.cells #[.int .i64 seq, .int .i64 gen, .int .i64 lsn, .int .i64 seg, .int .i64 (x : Nat), .int .i64 flo, .int .i64 new, .int .i64 keep, .int .i64 next, .int .i64 cur] 34) * q))))) := ⟨h15⟩; refine hK _ _ ?_; clear hK K h15 H14
        refine wpR_done (by kernel_rfl) ?_ _
        simp only [OnlyN]
        have HHL : Aside ((headG A gen.toNat seg x).length = 1 + longN A (mB ++ decB gen.toNat) + longN A (tB ++ decB gen.toNat) + x) := ⟨by unfold headG; simp only [List.length_append, pairsG_length]⟩
        have H15b : Aside (Sat E w11 (HP.gs bO (headG A gen.toNat seg x ++ (l.take 0).flatMap (ftG A)) * (HP.disk d A * (HP.pt bD (.cells #[.pointer (some ⟨d, 0, none⟩)] 35) * (HP.pt bA (.cells #[.int .i64 seq, .int .i64 gen, .int .i64 lsn, .int .i64 seg, .int .i64 (x : Nat), .int .i64 flo, .int .i64 new, .int .i64 keep, .int .i64 next, .int .i64 cur] 34) * q))))) := ⟨by rw [List.take_zero, List.flatMap_nil, List.append_nil]; exact H15.out⟩
        clear H15
        go_wp2
        go_loopw [66] (fun v66 wr => ∃ k : Nat, v66 = .int .i64 k ∧ k ≤ n ∧ Aside (Sat E wr (HP.gs bO (headG A gen.toNat seg x ++ (l.take k).flatMap (ftG A)) * (HP.disk d A * (HP.pt bD (.cells #[.pointer (some ⟨d, 0, none⟩)] 35) * (HP.pt bA (.cells #[.int .i64 seq, .int .i64 gen, .int .i64 lsn, .int .i64 seg, .int .i64 (x : Nat), .int .i64 flo, .int .i64 new, .int .i64 keep, .int .i64 next, .int .i64 cur] 34) * q)))))) (fun i _ => n - (intOf i).toNat)
        case atStart => exact ⟨0, rfl, Nat.zero_le _, H15b⟩
        case round =>
          clear H15b
          obtain ⟨k, rfl, hk, HS⟩ := hrel
          by_cases hlt : k < n
          · have hlt1 : (k : Int) < (n : Int) := by omega
            have hlt0 : (0 : Int) ≤ (k : Int) := by omega
            obtain ⟨f, hf⟩ : ∃ f, l[k]? = some f := ⟨_, List.getElem?_eq_getElem (by rw [HQ.out.2.1]; exact hlt)⟩
            have hfm := List.mem_of_getElem? hf
            obtain ⟨g, o, hV, gx⟩ := ftr_at (HQ.out.1 _ HS.out.right.right.right.right).2 hf
            have c0 : wr.cell? ⟨g, o + k * 8, none⟩ = some (.int .i64 f.number) := gx 0 _ rfl
            have c1 : wr.cell? ⟨g, o + k * 8 + 1, none⟩ = some (.int .i64 f.gen) := gx 1 _ rfl
            have c2 : wr.cell? ⟨g, o + k * 8 + 2, none⟩ = some (.int .i64 f.level) := gx 2 _ rfl
            have c3 : wr.cell? ⟨g, o + k * 8 + 3, none⟩ = some (.int .i64 f.rank) := gx 3 _ rfl
            have c4 : wr.cell? ⟨g, o + k * 8 + 4, none⟩ = some (.int .i64 f.mn) := gx 4 _ rfl
            have c5 : wr.cell? ⟨g, o + k * 8 + 5, none⟩ = some (.int .i64 f.mx) := gx 5 _ rfl
            have c6 : wr.cell? ⟨g, o + k * 8 + 6, none⟩ = some (.int .i64 f.bytes) := gx 6 _ rfl
            have c7 : wr.cell? ⟨g, o + k * 8 + 7, none⟩ = some (.slice f.pA f.pn f.pc) := gx 7 _ rfl
            rw [hV]
            have hwf := HQ.out.2.2.1 f hfm
            have hok := HOK.out f hfm
            unfold Ftr.ok at hok
            simp only [Bool.and_eq_true, decide_eq_true_eq] at hok
            obtain ⟨dn, hdn⟩ : ∃ dn : Nat, f.number = (dn : Int) := ⟨f.number.toNat, by omega⟩
            have hdl : dn ≤ 9223372036854775807 := by have := hwf.1; unfold wf64 at this; omega
            have hds := decB_size 18 dn (by omega)
            obtain ⟨sg, hsg⟩ : ∃ sg : Nat, groupsI f.bytes = (sg : Int) := ⟨(groupsI f.bytes).toNat, by unfold groupsI; split <;> omega⟩
            have HTK := Aside.mk (flat_take (ftG A) hf)
            have HFT : Aside (ftG A f = pairsG (fB ++ decB dn) 1 ++ (pairsG (iB ++ decB dn) (longN A (iB ++ decB dn)) ++ stripesG (cB ++ decB dn) sg f.gen)) := ⟨by unfold ftG; rw [hdn, hsg, Int.toNat_natCast, Int.toNat_natCast]⟩
            have hle := flat_take_le (ftG A) l (k + 1)
            rw [HTK.out, List.length_append, HFT.out, List.length_append, List.length_append, pairsG_length, pairsG_length, stripesG_length] at hle
            have HLE : Aside ((headG A gen.toNat seg x ++ (l.take k).flatMap (ftG A)).length + (1 + (longN A (iB ++ decB dn) + sg)) ≤ 1000000) := ⟨by rw [List.length_append, HHL.out]; have := HSZ.out; omega⟩
            have HIN : Aside ((iB ++ decB dn).size + 2 ≤ maxLen) := ⟨by rw [ByteArray.size_append]; unfold maxLen; show 1 + _ + 2 ≤ _; omega⟩
            have hds1 : 1 + (decB dn).size ≤ 100 := by omega
            have HBY : Aside (wf64 f.bytes ∧ wf64 f.number) := ⟨hwf.2, hwf.1⟩
            have HSG := Aside.mk hsg
            have HDN := Aside.mk hdn
            obtain ⟨P, hP⟩ : ∃ P, P = headG A gen.toNat seg x ++ (l.take k).flatMap (ftG A) := ⟨_, rfl⟩
            have HP1 := Aside.mk hP
            rw [← hP] at HLE
            have HS2 : Aside (Sat E wr (HP.gs bO (P) * (HP.disk d A * (HP.pt bD (.cells #[.pointer (some ⟨d, 0, none⟩)] 35) * (HP.pt bA (.cells #[.int .i64 seq, .int .i64 gen, .int .i64 lsn, .int .i64 seg, .int .i64 (x : Nat), .int .i64 flo, .int .i64 new, .int .i64 keep, .int .i64 next, .int .i64 cur] 34) * q))))) := ⟨by rw [hP]; exact HS.out⟩
            have h3 := HS2.out.alloc (.cells #[.int .i64 f.number, .int .i64 f.gen, .int .i64 f.level, .int .i64 f.rank, .int .i64 f.mn, .int .i64 f.mx, .int .i64 f.bytes, .slice f.pA f.pn f.pc] 86)
            obtain ⟨bF, hbF⟩ : ∃ bF, bF = wr.heap.size := ⟨_, rfl⟩
            rw [← hbF] at h3
            have H3 : Aside (Sat E (wr.alloc (.cells #[.int .i64 f.number, .int .i64 f.gen, .int .i64 f.level, .int .i64 f.rank, .int .i64 f.mn, .int .i64 f.mx, .int .i64 f.bytes, .slice f.pA f.pn f.pc] 86)) (HP.gs bO (P) * (HP.pt bF (.cells #[.int .i64 f.number, .int .i64 f.gen, .int .i64 f.level, .int .i64 f.rank, .int .i64 f.mn, .int .i64 f.mx, .int .i64 f.bytes, .slice f.pA f.pn f.pc] 86) * (HP.disk d A * (HP.pt bD (.cells #[.pointer (some ⟨d, 0, none⟩)] 35) * (HP.pt bA (.cells #[.int .i64 seq, .int .i64 gen, .int .i64 lsn, .int .i64 seg, .int .i64 (x : Nat), .int .i64 flo, .int .i64 new, .int .i64 keep, .int .i64 next, .int .i64 cur] 34) * q)))))) := ⟨h3.s2⟩
            have e0 := H3.out.right.cell 0
            simp only [List.getElem?_toArray, List.getElem?_cons_zero, List.getElem?_cons_succ] at e0
            clear hf hfm gx hwf hok hsg hle HS HS2 h3 hP hdn hds hdl hV
            go_wp2_with fail
            rw [← hbF]
            clear hbF
            refine (itoa_ok E _ f.number _ HBY.out.2 (fun w h => (HQ.out.1 w h.right.right.right.right.right).1) H3.out).mono ?_
            rintro e w11 ⟨rfl, h4⟩
            rw [HDN.out, itoa_nat]
            have H4 := Aside.mk h4
            clear h4 H3 e0 c0 c1 c2 c3 c4 c5 c6 c7
            go_wp2_with fail
            refine (groups_pairs E _ bO P (fB ++ decB dn) 1 _ (by have := HLE.out; omega) H4.out).mono ?_
            rintro e w12 ⟨rfl, h5⟩
            have H5 : Aside (Sat E w12 (HP.disk d A * (HP.pt bD (.cells #[.pointer (some ⟨d, 0, none⟩)] 35) * (HP.gs bO (P ++ pairsG (fB ++ decB dn) 1) * (HP.pt bF (.cells #[.int .i64 f.number, .int .i64 f.gen, .int .i64 f.level, .int .i64 f.rank, .int .i64 f.mn, .int .i64 f.mx, .int .i64 f.bytes, .slice f.pA f.pn f.pc] 86) * (HP.pt bA (.cells #[.int .i64 seq, .int .i64 gen, .int .i64 lsn, .int .i64 seg, .int .i64 (x : Nat), .int .i64 flo, .int .i64 new, .int .i64 keep, .int .i64 next, .int .i64 cur] 34) * q)))))) := ⟨h5.perm (by ac_rfl)⟩
            clear h5 H4
            go_wp2_with fail
            refine (groups_long E _ d bD A (iB ++ decB dn) _ HIN.out H5.out).mono ?_
            rintro e w13 ⟨rfl, h6⟩
            have H6 : Aside (Sat E w13 (HP.gs bO (P ++ pairsG (fB ++ decB dn) 1) * (HP.pt bF (.cells #[.int .i64 f.number, .int .i64 f.gen, .int .i64 f.level, .int .i64 f.rank, .int .i64 f.mn, .int .i64 f.mx, .int .i64 f.bytes, .slice f.pA f.pn f.pc] 86) * (HP.disk d A * (HP.pt bD (.cells #[.pointer (some ⟨d, 0, none⟩)] 35) * (HP.pt bA (.cells #[.int .i64 seq, .int .i64 gen, .int .i64 lsn, .int .i64 seg, .int .i64 (x : Nat), .int .i64 flo, .int .i64 new, .int .i64 keep, .int .i64 next, .int .i64 cur] 34) * q)))))) := ⟨h6.perm (by ac_rfl)⟩
            clear h6 H5
            go_wp2_with fail
            refine (groups_pairs E _ bO (P ++ pairsG (fB ++ decB dn) 1) (iB ++ decB dn) (longN A (iB ++ decB dn)) _ (by rw [List.length_append, pairsG_length]; have := HLE.out; omega) H6.out).mono ?_
            rintro e w14 ⟨rfl, h7⟩
            obtain ⟨R, hR⟩ : ∃ R, R = P ++ pairsG (fB ++ decB dn) 1 ++ pairsG (iB ++ decB dn) (longN A (iB ++ decB dn)) := ⟨_, rfl⟩
            rw [← hR] at h7
            have HRR := Aside.mk hR
            have hRl : R.length + sg ≤ 1000000 := by rw [hR, List.length_append, List.length_append, pairsG_length, pairsG_length]; have := HLE.out; omega
            have H7 : Aside (Sat E w14 (HP.gs bO (R ++ stripesG (cB ++ decB dn) 0 f.gen) * (HP.pt bF (.cells #[.int .i64 f.number, .int .i64 f.gen, .int .i64 f.level, .int .i64 f.rank, .int .i64 f.mn, .int .i64 f.mx, .int .i64 f.bytes, .slice f.pA f.pn f.pc] 86) * (HP.disk d A * (HP.pt bD (.cells #[.pointer (some ⟨d, 0, none⟩)] 35) * (HP.pt bA (.cells #[.int .i64 seq, .int .i64 gen, .int .i64 lsn, .int .i64 seg, .int .i64 (x : Nat), .int .i64 flo, .int .i64 new, .int .i64 keep, .int .i64 next, .int .i64 cur] 34) * q)))))) := ⟨by rw [show stripesG (cB ++ decB dn) 0 f.gen = [] from rfl, List.append_nil]; exact h7⟩
            have e6 := H7.out.right.cell 6
            simp only [List.getElem?_toArray, List.getElem?_cons_zero, List.getElem?_cons_succ] at e6
            clear h7 H6 hR
            go_wp2_with fail
            refine (stripe_groups f.bytes _ HBY.out.1).mono ?_
            rintro e w15 ⟨rfl, hw15⟩
            subst w15
            rw [HSG.out]
            obtain ⟨wo, hwo⟩ : ∃ wo : World, wo = w14 := ⟨_, rfl⟩
            subst hwo
            go_wp2
            clear e6
            go_loopw [88] (fun v88 wi => ∃ i : Nat, v88 = .int .i64 i ∧ i ≤ sg ∧ Aside (Sat E wi (HP.gs bO (R ++ stripesG (cB ++ decB dn) i f.gen) * (HP.pt bF (.cells #[.int .i64 f.number, .int .i64 f.gen, .int .i64 f.level, .int .i64 f.rank, .int .i64 f.mn, .int .i64 f.mx, .int .i64 f.bytes, .slice f.pA f.pn f.pc] 86) * (HP.disk d A * (HP.pt bD (.cells #[.pointer (some ⟨d, 0, none⟩)] 35) * (HP.pt bA (.cells #[.int .i64 seq, .int .i64 gen, .int .i64 lsn, .int .i64 seg, .int .i64 (x : Nat), .int .i64 flo, .int .i64 new, .int .i64 keep, .int .i64 next, .int .i64 cur] 34) * q))))))) (fun y _ => sg - (intOf y).toNat)
            case atStart => exact ⟨0, rfl, Nat.zero_le _, H7⟩
            case round =>
              clear H7
              obtain ⟨i, rfl, hi, HI⟩ := hrel
              by_cases hil : i < sg
              · have hil1 : (i : Int) < (sg : Int) := by omega
                obtain ⟨v, h1⟩ := HI.out.gs_open
                obtain ⟨Av, cv, rfl, -, -⟩ := h1.row_slice
                have hl : (R ++ stripesG (cB ++ decB dn) i f.gen).length = R.length + i := by rw [List.length_append, stripesG_length]
                rw [hl] at h1
                obtain ⟨L, hL⟩ : ∃ L, L = (R ++ stripesG (cB ++ decB dn) i f.gen).flatMap Sgp.vals := ⟨_, rfl⟩
                rw [← hL] at h1
                have HL := Aside.mk hL
                have b0 := h1.s2.cell1
                have e1 := h1.right.right.cell 1
                simp only [List.getElem?_toArray, List.getElem?_cons_zero, List.getElem?_cons_succ] at e1
                have H1 := Aside.mk h1
                obtain ⟨zk, hzk⟩ : ∃ zk, zk = R.length + i := ⟨_, rfl⟩
                have hzk1 : zk ≤ 999999 := by omega
                rw [← hzk] at H1 b0
                have HK := Aside.mk hzk
                clear hL hl h1 HI hzk
                go_wp2_with (at_builtin; refine wpList_append_new slGrp rfl rfl (by rfl) (by rfl) H1.out (by rfl) (by rfl) (by unfold maxLen; omega) (by omega) (fun v5 w5 hw5 => ?_); obtain ⟨A5, c5, rfl, -, -⟩ := hw5.row_slice; have b5 := hw5.s2.cell1; have t5 := hw5.s2.thaw 0; have HW5 := Aside.mk hw5; clear hw5)
                have H6 : Aside (Sat E _ (HP.gs bO (R ++ stripesG (cB ++ decB dn) (i + 1) f.gen) * (HP.pt bF (.cells #[.int .i64 f.number, .int .i64 f.gen, .int .i64 f.level, .int .i64 f.rank, .int .i64 f.mn, .int .i64 f.mx, .int .i64 f.bytes, .slice f.pA f.pn f.pc] 86) * (HP.disk d A * (HP.pt bD (.cells #[.pointer (some ⟨d, 0, none⟩)] 35) * (HP.pt bA (.cells #[.int .i64 seq, .int .i64 gen, .int .i64 lsn, .int .i64 seg, .int .i64 (x : Nat), .int .i64 flo, .int .i64 new, .int .i64 keep, .int .i64 next, .int .i64 cur] 34) * q)))))) := ⟨Sat.gs_close (n := zk + 1) (by rw [List.length_append, stripesG_length, HK.out]; omega) (by rw [stripesG_step, ← List.append_assoc, List.flatMap_append, ← HL.out]; rfl) (HW5.out.s2.set1 (.slice A5 (zk + 1) c5)).s2⟩
                clear HW5 H1 b0 b5 t5 e1
                go_roundw
                case rel => exact ⟨i + 1, by go_num, by omega, H6⟩
                case measure => simp [intOf]; omega
              · obtain rfl : i = sg := by omega
                have hii : ¬ (i : Int) < (i : Int) := by omega
                have H8 : Aside (Sat E wr (HP.gs bO (headG A gen.toNat seg x ++ (l.take (k + 1)).flatMap (ftG A)) * (HP.disk d A * (HP.pt bD (.cells #[.pointer (some ⟨d, 0, none⟩)] 35) * (HP.pt bA (.cells #[.int .i64 seq, .int .i64 gen, .int .i64 lsn, .int .i64 seg, .int .i64 (x : Nat), .int .i64 flo, .int .i64 new, .int .i64 keep, .int .i64 next, .int .i64 cur] 34) * q))))) := ⟨by
                  rw [HTK.out, HFT.out, ← List.append_assoc, ← HP1.out, ← List.append_assoc, ← List.append_assoc, ← HRR.out]
                  exact HI.out.drop2⟩
                clear HI
                go_wp2
                go_roundw
                case rel => exact ⟨k + 1, by go_num, by omega, H8⟩
                case measure => simp [intOf]; omega
          · obtain rfl : k = n := by omega
            have hkk : ¬ (k : Int) < (k : Int) := by omega
            have hs1 := HS.out
            rw [List.take_of_length_le (by rw [HQ.out.2.1]; exact Nat.le_refl _), ← HG.out] at hs1
            obtain ⟨v, h1⟩ := hs1.gs_open
            have b0 := h1.s2.cell1
            have H9 : Aside (Sat E wr (HP.row 32 4 v gg.length (gg.flatMap Sgp.vals) * (HP.disk d A * q))) := ⟨h1.perm (by ac_rfl : _ = HP.row 32 4 v gg.length (gg.flatMap Sgp.vals) * (HP.pt bO (.cells #[v] 44) * (HP.pt bD (.cells #[.pointer (some ⟨d, 0, none⟩)] 35) * (HP.pt bA (.cells #[.int .i64 seq, .int .i64 gen, .int .i64 lsn, .int .i64 seg, .int .i64 (x : Nat), .int .i64 flo, .int .i64 new, .int .i64 keep, .int .i64 next, .int .i64 cur] 34) * (HP.disk d A * q))))) |>.drop2.drop2.drop2⟩
            clear HS hs1 h1
            go_wp2
            go_ret
            exact ⟨_, rfl, H9.out⟩
theorem awakeG : groupsG (Dk.new 10) ⟨1, 1, 0, 1, 0, 0, 0, 0, 1, 0⟩ [] = [⟨1, anchorS, 0, 0⟩, ⟨1, mB ++ decB 1, 0, 0⟩, ⟨1, tB ++ decB 1, 0, 0⟩] := by
  have hl : ∀ f, longN (Dk.new 10) f = 1 := fun f => rfl
  unfold groupsG
  rw [if_pos ⟨by decide, by decide, rfl⟩]
  simp only [hl, show ((1 : Int)).toNat = 1 from rfl, show ((0 : Int)).toNat = 0 from rfl]
  rfl
set_option maxHeartbeats 2000000 in
set_option maxRecDepth 100000 in
theorem awake20_ok (E : Env) (q : HP) (w : World) (hq : ∀ w, Sat E w q → Lib.TabIs Tryd.prog w "internal/strconv.uint64pow10" .u64 Lib.pow10Tab) (hw : Sat E w q) :
    Calls Tryd.prog 9 #[] w fun e w' => e = .returned (.bool true) ∧ Sat E w' q := by
  have HQ := Aside.mk (And.intro hq hw)
  clear hq hw
  go_enter Tryd.func9, Tryd.ntmps9
  go_wp2_with fail
  refine (disk_new_ok E q 10 _ ⟨by omega, by omega⟩ HQ.out.2).mono ?_
  rintro e w1 ⟨d, rfl, h1⟩
  have H1 := Aside.mk h1
  clear h1
  go_wp2_with fail
  refine (scrub_groups E q d (Dk.new 10) ⟨1, 1, 0, 1, 0, 0, 0, 0, 1, 0⟩ [] none 0 0 _ rfl (by omega) (show wf64 1 by unfold wf64; omega) (show wf64 1 by unfold wf64; omega) (fun f hf => by cases hf) (by rw [awakeG]; decide) (fun w h => ⟨HQ.out.1 w h, Cells.nil _ _⟩) H1.out).mono ?_
  rintro e w2 ⟨v, rfl, h2⟩
  rw [awakeG] at h2
  obtain ⟨Av, cv, rfl, -, -⟩ := h2.row_slice
  have hcl := h2.row_cells
  have g1 : ([⟨1, anchorS, 0, 0⟩, ⟨1, mB ++ decB 1, 0, 0⟩, ⟨1, tB ++ decB 1, 0, 0⟩] : List Sgp).flatMap Sgp.vals = [.int .i64 1, .string anchorS, .int .i64 0, .int .i64 0, .int .i64 1, .string (mB ++ decB 1), .int .i64 0, .int .i64 0, .int .i64 1, .string (tB ++ decB 1), .int .i64 0, .int .i64 0] := rfl
  rw [g1] at hcl
  have hc1 : ([.int .i64 1, .string anchorS, .int .i64 0, .int .i64 0, .int .i64 1, .string (mB ++ decB 1), .int .i64 0, .int .i64 0, .int .i64 1, .string (tB ++ decB 1), .int .i64 0, .int .i64 0] : List Value)[1]? = some (.string anchorS) := rfl
  obtain ⟨a, ha, -⟩ := hcl _ _ hc1
  obtain ⟨g, o, rfl⟩ : ∃ g o, a = ⟨g, o, none⟩ := slice_addr hcl ha (List.getElem?_eq_some_iff.1 hc1).1
  subst ha
  have c1 := hcl.some_ _ _ hc1
  rw [addr_add] at c1
  have H2 := Aside.mk h2.right.right
  unfold anchorS at c1
  clear h2 hcl hc1 g1 H1
  go_wp2
  go_ret
  exact ⟨rfl, H2.out⟩
def HP.anyL : HP := fun _ => True
theorem Sat.anyL_of {E : Env} {w : World} {p q : HP} (h : Sat E w (p * q)) : Sat E w (p * HP.anyL) := by
  obtain ⟨he, k, hk, h1, h2, hd, hu, hp, -⟩ := h
  exact ⟨he, k, hk, h1, h2, hd, hu, hp, trivial⟩
set_option maxHeartbeats 8000000 in
set_option maxRecDepth 100000 in
theorem scrubLedger_cut (E : Env) (q : HP) (A0 A1 : Option Addr) (l0 l1 : List Spt) (n0 n1 c0 c1 m0 m1 : Nat) (w : World) (hm0 : m0 = min n0 40) (hm1 : m1 = min n1 40) (k0 : n0 ≤ c0) (k1 : n1 ≤ c1) (z0 : c0 ≤ maxLen) (z1 : c1 ≤ maxLen) (e0 : l0.length = m0) (e1 : l1.length = m1)
    (hq : ∀ w, Sat E w q → Cells w A0 (l0.flatMap encSpot) ∧ Cells w A1 (l1.flatMap encSpot)) (ht : ∀ w, Sat E w q → Lib.TabIs Tryd.prog w "internal/strconv.uint64pow10" .u64 Lib.pow10Tab) (hw : Sat E w q) :
    Calls Tryd.prog 3 #[.slice A0 n0 c0, .slice A1 n1 c1] w fun e w' => e = .returned (.bool true) ∧ Sat E w' q := by
  have hn0 : (if 40 < (n0 : Int) then 40 else (n0 : Int)) = (m0 : Int) := by split <;> omega
  have hn0' : min (n0 : Int) 40 = (m0 : Int) := by omega
  have hn1 : (if 40 < (n1 : Int) then 40 else (n1 : Int)) = (m1 : Int) := by split <;> omega
  have hn1' : min (n1 : Int) 40 = (m1 : Int) := by omega
  have hm0a : m0 ≤ n0 := by omega
  have hm1a : m1 ≤ n1 := by omega
  have hm0b : m0 ≤ c0 := by omega
  have hm1b : m1 ≤ c1 := by omega
  have hm0c : m0 ≤ 40 := by omega
  have hm1c : m1 ≤ 40 := by omega
  unfold maxLen at z0 z1
  have HQ := Aside.mk (And.intro hq (And.intro e0 e1))
  have HT := Aside.mk ht
  have HW := Aside.mk hw
  clear hq ht hw e0 e1 hm0 hm1
  go_enter Tryd.func3, Tryd.ntmps3
  go_wp2
  refine region_R [] [] (fun _ => True) #[false, false, false, false, false, false, false, false, false, false, false, false] (by kernel_rfl) rfl rfl ?_
  refine wpR_rd 0 #[true, false, false, false, false, false, false, false, false, false, false, false] rfl onlyN_noPanic (by kernel_rfl) (fun K hK => ?_); (go_simp; try go_bits); refine hK _ ?_; clear hK K
  refine wpR_rd 1 #[true, true, false, false, false, false, false, false, false, false, false, false] rfl onlyN_noPanic (by kernel_rfl) (fun K hK => ?_); (go_simp; try go_bits); refine hK _ ?_; clear hK K
  refine wpR_rd 2 #[true, true, true, false, false, false, false, false, false, false, false, false] rfl onlyN_noPanic (by kernel_rfl) (fun K hK => ?_); (go_simp; try go_bits); refine hK _ ?_; clear hK K
  refine wpR_rd 3 #[true, true, true, true, false, false, false, false, false, false, false, false] rfl onlyN_noPanic (by kernel_rfl) (fun K hK => ?_); (go_simp; try go_bits); refine hK _ ?_; clear hK K
  refine wpR_rd 4 #[true, true, true, true, true, false, false, false, false, false, false, false] rfl onlyN_noPanic (by kernel_rfl) (fun K hK => ?_); (go_simp; try go_bits); refine hK _ ?_; clear hK K
  refine wpR_rd 5 #[true, true, true, true, true, true, false, false, false, false, false, false] rfl onlyN_noPanic (by kernel_rfl) (fun K hK => ?_); (go_simp; try go_bits); refine hK _ ?_; clear hK K
  refine wpR_rd 6 #[true, true, true, true, true, true, true, false, false, false, false, false] rfl onlyN_noPanic (by kernel_rfl) (fun K hK => ?_); (go_simp; try go_bits); refine hK _ ?_; clear hK K
  refine wpR_rd 7 #[true, true, true, true, true, true, true, true, false, false, false, false] rfl onlyN_noPanic (by kernel_rfl) (fun K hK => ?_); (go_simp; try go_bits); refine hK _ ?_; clear hK K
  refine wpR_rd 8 #[true, true, true, true, true, true, true, true, true, false, false, false] rfl onlyN_noPanic (by kernel_rfl) (fun K hK => ?_); (go_simp; try go_bits); refine hK _ ?_; clear hK K
  refine wpR_rd 9 #[true, true, true, true, true, true, true, true, true, true, false, false] rfl onlyN_noPanic (by kernel_rfl) (fun K hK => ?_); (go_simp; try go_bits); refine hK _ ?_; clear hK K
  refine wpR_rd 10 #[true, true, true, true, true, true, true, true, true, true, true, false] rfl onlyN_noPanic (by kernel_rfl) (fun K hK => ?_); (go_simp; try go_bits); refine hK _ ?_; clear hK K
  refine wpR_rd 11 #[true, true, true, true, true, true, true, true, true, true, true, true] rfl onlyN_noPanic (by kernel_rfl) (fun K hK => ?_); (go_simp; try go_bits); refine hK _ ?_; clear hK K
  refine wpR_done (by kernel_rfl) ?_ _
  simp only [OnlyN]
  have HW1 := Aside.mk HW.out.drew
  clear HW
  go_wp2_with fail
  refine (scrub_note E q A0 A1 l0 l1 m0 m1 _ _ true _ HQ.out.2.1 HQ.out.2.2 (by omega) (by omega) HQ.out.1 HW1.out).mono ?_
  rintro e w1 ⟨v1, rfl, h1⟩
  obtain ⟨VM, cM, rfl, -, -⟩ := h1.row_slice
  obtain ⟨M, hM⟩ : ∃ M, M = noteL l0 l1 true := ⟨_, rfl⟩
  obtain ⟨nM, hnM⟩ : ∃ nM, nM = M.length := ⟨_, rfl⟩
  have hM1 : nM ≤ m0 + m1 := by
    have := note_length l0 l1 true
    unfold preN at this
    rw [if_pos rfl, List.length_append, HQ.out.2.1, HQ.out.2.2, ← hM, ← hnM] at this
    exact this
  rw [← hM, ← hnM] at h1 ⊢
  have H1 := Aside.mk h1
  have HMM := Aside.mk (And.intro hM hnM)
  clear h1 HW1 hM hnM
  go_wp2_with fail
  refine (scrub_note E _ VM A1 M l1 nM m1 cM _ false _ HMM.out.2.symm HQ.out.2.2 (by omega) (by omega) (fun w h => ⟨h.row_cells, (HQ.out.1 w h.right).2⟩) H1.out).mono ?_
  rintro e w2 ⟨v2, rfl, h2⟩
  obtain ⟨VL, cL, rfl, -, -⟩ := h2.row_slice
  obtain ⟨LS, hL⟩ : ∃ LS, LS = noteL M l1 false := ⟨_, rfl⟩
  obtain ⟨nL, hnL⟩ : ∃ nL, nL = LS.length := ⟨_, rfl⟩
  have hL1 : nL ≤ nM := by
    have := note_length M l1 false
    unfold preN at this
    rw [if_neg (by decide), ← hL, ← hnL] at this
    rw [HMM.out.2]
    exact Nat.le_trans this (List.length_filter_le ..)
  rw [← hL, ← hnL] at h2 ⊢
  have H2 := Aside.mk h2
  have HMS : Aside (M.length = nM ∧ LS.length = nL ∧ (∀ x, x ∈ M ↔ x ∈ l0 ∨ x ∈ l1) ∧ ∀ x, x ∈ LS ↔ x ∈ M ∧ x ∉ l1) := ⟨HMM.out.2.symm, hnL.symm, fun x => by rw [HMM.out.1, note_mem]; simp, fun x => by rw [hL, note_mem]; simp⟩
  clear h2 H1 HMM hL hnL
  go_wp2
  go_loopw [29] (fun v29 wr => ∃ k : Nat, v29 = .int .i64 k ∧ k ≤ m1 ∧ Aside (Sat E wr (HP.row 25 2 (.slice VL nL cL) nL (LS.flatMap encSpot) * (HP.row 25 2 (.slice VM nM cM) nM (M.flatMap encSpot) * q)))) (fun x _ => m1 - (intOf x).toNat)
  case atStart => exact ⟨0, rfl, Nat.zero_le _, H2⟩
  case round =>
    clear H2
    obtain ⟨k, rfl, hk, HS⟩ := hrel
    by_cases hlt : k < m1
    · have hk0 : (0 : Int) ≤ (k : Int) := by omega
      have hk1 : (k : Int) < (m1 : Int) := by omega
      obtain ⟨⟨s, i⟩, hx⟩ : ∃ x, l1[k]? = some x := ⟨_, List.getElem?_eq_getElem (by rw [HQ.out.2.2]; exact hlt)⟩
      have hxm : (s, i) ∈ l1 := List.mem_of_getElem? hx
      have HIN : Aside ((s, i) ∈ M ∧ (s, i) ∉ LS) := ⟨(HMS.out.2.2.1 _).2 (.inr hxm), fun h => ((HMS.out.2.2.2 _).1 h).2 hxm⟩
      obtain ⟨g0, o0, hA, x0, x1⟩ := spot_at (HQ.out.1 _ HS.out.right.right).2 hx
      subst hA
      obtain ⟨BX, hBX⟩ : ∃ BX, BX = wr.heap.size := ⟨_, rfl⟩
      have hB := HS.out.alloc (.cells #[.string s, .int .i64 i] 25)
      rw [← hBX] at hB
      have HB := Aside.mk hB
      have ldb := spot_box HB.out
      rw [hBX] at ldb
      clear hx hxm hB HS
      go_wp2_with fail
      rw [← hBX] at ldb ⊢
      clear hBX
      refine (spots_contains E _ VM M nM cM s i _ HMS.out.1 (by omega) (fun w h => h.right.right.row_cells) HB.out).mono ?_
      rintro e w5 ⟨b, rfl, hb, h5⟩
      obtain rfl : b = true := hb.2 HIN.out.1
      have H5 := Aside.mk h5
      clear h5 hb HB ldb x0 x1
      have ldb := spot_box H5.out
      have b0 := H5.out.cell 0
      have b1 := H5.out.cell 1
      go_wp2_with fail
      refine (spots_contains E _ VL LS nL cL s i _ HMS.out.2.1 (by omega) (fun w h => h.right.row_cells) H5.out).mono ?_
      rintro e w6 ⟨b, rfl, hb, h6⟩
      obtain rfl : b = false := by
        cases b with
        | false => rfl
        | true => exact absurd (hb.1 rfl) HIN.out.2
      have H6 := Aside.mk h6.right
      clear h6 hb H5 ldb b0 b1
      go_wp2
      go_roundw
      case rel => exact ⟨k + 1, by go_num, by omega, H6⟩
      case measure => simp [intOf]; omega
    · obtain rfl : m1 = k := by omega
      have hkk : ¬ (m1 : Int) < (m1 : Int) := by omega
      go_wp2
      go_loopw [45] (fun v45 wr => ∃ k : Nat, v45 = .int .i64 k ∧ k ≤ m0 ∧ Aside (Sat E wr (HP.row 25 2 (.slice VL nL cL) nL (LS.flatMap encSpot) * (HP.row 25 2 (.slice VM nM cM) nM (M.flatMap encSpot) * q)))) (fun x _ => m0 - (intOf x).toNat)
      case atStart => exact ⟨0, rfl, Nat.zero_le _, HS⟩
      case round =>
        clear HS
        obtain ⟨k, rfl, hk, HS⟩ := hrel
        by_cases hlt : k < m0
        · have hk0 : (0 : Int) ≤ (k : Int) := by omega
          have hk1 : (k : Int) < (m0 : Int) := by omega
          obtain ⟨⟨s, i⟩, hx⟩ : ∃ x, l0[k]? = some x := ⟨_, List.getElem?_eq_getElem (by rw [HQ.out.2.1]; exact hlt)⟩
          have hxm : (s, i) ∈ l0 := List.mem_of_getElem? hx
          have HIN : Aside ((s, i) ∈ M ∧ ∀ b1 b2 : Bool, (b1 = true ↔ (s, i) ∈ LS) → (b2 = true ↔ (s, i) ∈ l1) → b1 = !b2) := ⟨(HMS.out.2.2.1 _).2 (.inl hxm), fun b1 b2 h1 h2 => by
            have h3 := HMS.out.2.2.2 (s, i)
            have h4 := (HMS.out.2.2.1 (s, i)).2 (.inl hxm)
            cases b1 <;> cases b2 <;> simp_all⟩
          obtain ⟨g0, o0, hA, x0, x1⟩ := spot_at (HQ.out.1 _ HS.out.right.right).1 hx
          subst hA
          obtain ⟨BX, hBX⟩ : ∃ BX, BX = wr.heap.size := ⟨_, rfl⟩
          have hB := HS.out.alloc (.cells #[.string s, .int .i64 i] 25)
          rw [← hBX] at hB
          have HB := Aside.mk hB.drew
          have ldb := spot_box HB.out
          rw [hBX] at ldb
          clear hx hxm hB HS
          go_wp2
          rw [← hBX] at ldb ⊢
          clear hBX x0 x1
          refine region_R [2, 7, 10] [7] (fun W => Sat E W (HP.pt BX (.cells #[.string s, .int .i64 i] 25) * HP.anyL)) #[false, false, false, false, false, false, false, false, false, false, false, false, false] (by kernel_rfl) rfl rfl ?_
          refine wpR_rd 0 #[true, false, false, false, false, false, false, false, false, false, false, false, false] rfl onlyN_noPanic (by kernel_rfl) (fun K hK => ?_); (go_simp; try go_bits); refine hK _ ?_; clear hK K
          refine wpR_read (i := 1) #[true, true, false, false, false, false, false, false, false, false, false, false, false] rfl onlyN_noPanic (by kernel_rfl) (.inl ⟨rfl, exec_load rfl rfl ldb⟩) ?_
          simp only [Act.put, List.setIfInBounds_toArray, List.set_cons_zero, List.set_cons_succ]
          clear ldb
          refine wpR_eff #[true, true, true, false, false, false, false, false, false, false, false, false, false] (i := 2) rfl (by kernel_rfl) (fun K hK => ?_)
          go_simp
          refine (spots_contains E _ VM M nM cM s i _ HMS.out.1 (by omega) (fun w h => h.right.right.row_cells) HB.out).mono ?_
          rintro e w5 ⟨b, rfl, hb, h5⟩
          obtain rfl : b = true := hb.2 HIN.out.1
          refine hK _ _ ?_
          clear hK K hb
          have H5 := Aside.mk h5
          have ldb := spot_box H5.out
          clear h5 HB
          refine wpR_rd 3 #[true, true, true, true, false, false, false, false, false, false, false, false, false] rfl onlyN_noPanic (by kernel_rfl) (fun K hK => ?_); (go_simp; try go_bits); refine hK _ ?_; clear hK K
          refine wpR_rd 4 #[true, true, true, true, true, false, false, false, false, false, false, false, false] rfl onlyN_noPanic (by kernel_rfl) (fun K hK => ?_); (go_simp; try go_bits); refine hK _ ?_; clear hK K
          refine wpR_rd 5 #[true, true, true, true, true, true, false, false, false, false, false, false, false] rfl onlyN_noPanic (by kernel_rfl) (fun K hK => ?_); (go_simp; try go_bits); refine hK _ ?_; clear hK K
          refine wpR_read (i := 6) #[true, true, true, true, true, true, true, false, false, false, false, false, false] rfl onlyN_noPanic (by kernel_rfl) (.inl ⟨rfl, exec_load rfl rfl ldb⟩) ?_
          simp only [Act.put, List.setIfInBounds_toArray, List.set_cons_zero, List.set_cons_succ]
          refine wpR_pu 8 #[true, true, true, true, true, true, true, false, true, false, false, false, false] rfl onlyN_noPanic (by kernel_rfl) (fun K hK => ?_); (go_simp; try go_bits); refine hK _ ?_; clear hK K
          refine wpR_held (i := 9) (v := .agg #[.string s, .int .i64 i]) #[true, true, true, true, true, true, true, false, true, true, false, false, false] rfl onlyN_noPanic (by kernel_rfl) (Sat.anyL_of H5.out) (.inl ⟨rfl, fun w' hT => exec_load rfl rfl (spot_box hT)⟩) ?_
          simp only [Act.put, List.setIfInBounds_toArray, List.set_cons_zero, List.set_cons_succ]
          refine wpR_keep #[true, true, true, true, true, true, true, true, true, true, false, false, false] (i := 7) rfl (by kernel_rfl) (fun K hK => ?_)
          go_simp
          refine (spots_contains E _ VL LS nL cL s i _ HMS.out.2.1 (by omega) (fun w h => h.right.row_cells) H5.out).mono ?_
          rintro e w6 ⟨b1, rfl, hb1, h6⟩
          refine hK _ _ (Sat.anyL_of h6) ?_
          clear hK K
          have H6 := Aside.mk h6
          clear h6 H5 ldb
          refine wpR_eff #[true, true, true, true, true, true, true, true, true, true, true, false, false] (i := 10) rfl (by kernel_rfl) (fun K hK => ?_)
          go_simp
          refine (spots_contains E _ A1 l1 m1 c1 s i _ HQ.out.2.2 (by omega) (fun w h => (HQ.out.1 w h.right.right.right).2) H6.out).mono ?_
          rintro e w7 ⟨b2, rfl, hb2, h7⟩
          refine hK _ _ ?_
          clear hK K
          obtain rfl : b1 = !b2 := HIN.out.2 b1 b2 hb1 hb2
          have H7 := Aside.mk h7.right
          clear h7 H6 hb1 hb2
          have hbb : ((!b2) == b2) = false := by cases b2 <;> rfl
          refine wpR_rd 11 #[true, true, true, true, true, true, true, true, true, true, true, true, false] rfl onlyN_noPanic (by kernel_rfl) (fun K hK => ?_); (go_simp; try go_bits); refine hK _ ?_; clear hK K
          refine wpR_rd 12 #[true, true, true, true, true, true, true, true, true, true, true, true, true] rfl onlyN_noPanic (by kernel_rfl) (fun K hK => ?_); (go_simp; try go_bits); refine hK _ ?_; clear hK K
          refine wpR_done (by kernel_rfl) ?_ _
          simp only [OnlyN]
          go_wp2
          go_roundw
          case rel => exact ⟨k + 1, by go_num, by omega, H7⟩
          case measure => simp [intOf]; omega
        · obtain rfl : m0 = k := by omega
          have hkk : ¬ (m0 : Int) < (m0 : Int) := by omega
          have H8 := Aside.mk HS.out.right.right
          have hi1 : (nL : Int) ≤ (nM : Int) := by omega
          have hi2 : (nM : Int) ≤ (m0 : Int) + (m1 : Int) := by omega
          clear HS
          go_wp2_with fail
          refine (awake20_ok E q _ HT.out H8.out).mono ?_
          rintro e w9 ⟨rfl, h9⟩
          have H9 := Aside.mk h9
          clear h9 H8
          go_wp2
          go_ret
          exact ⟨rfl, H9.out⟩
end Go.Proofs.YtnpinegpajbkeaaDoor
namespace Go.Proofs.YtnpinegpajbkeaaDoor
open Go.ChangeShapes Go.WideShapes Go.ChangeAt Go.WideMaps Go.WideElems Go.RowKit HP
theorem pow10_tab : (Rows.laid_internal_strconv_uint64pow10 : DataW Unit) = Lib.tabData .u64 Lib.pow10Tab := by kernel_rfl
theorem pow10_of_reads {W : World} (h : Lib.VarReads Tryd.prog W "internal/strconv.uint64pow10" Rows.laid_internal_strconv_uint64pow10) : Lib.TabIs Tryd.prog W "internal/strconv.uint64pow10" .u64 Lib.pow10Tab := by
  obtain ⟨g0, t0, cs0, f0, p0, hg0, ht0, hv0, hd0⟩ := h
  have hg : Tryd.prog.globalNamed "internal/strconv.uint64pow10" = some 1 := by kernel_rfl
  have ht : (Tryd.prog.globals[1]?).map (·.type) = some 193 := by kernel_rfl
  obtain rfl := Option.some.inj (hg.symm.trans hg0)
  obtain rfl := Option.some.inj (ht.symm.trans ht0)
  unfold Lib.TabIs
  rw [hv0, ← Lib.cells_of_tab Tryd.underlying193 Tryd.underlying133 (by kernel_rfl) (by kernel_rfl) (pow10_tab ▸ hd0)]
def laid3 : List (String × DataW Unit) := [("math/bits.deBruijn32tab", Rows.laid_math_bits_deBruijn32tab), ("math/bits.deBruijn64tab", Rows.laid_math_bits_deBruijn64tab), ("internal/strconv.uint64pow10", Rows.laid_internal_strconv_uint64pow10)]
theorem door_met3 (os : Os) (args : Array Value) : laidMetH Tryd.prog laid3 ((World.doorLaid Tryd.prog 400 os).forCall (fun _ _ => 0) ⟨#[], args, []⟩).memory :=
  laidMetH_of_parts3 (fuel := 8) (laidMet_of_run' 8 (by kernel_rfl) (by kernel_rfl)) (by kernel_rfl) (by kernel_rfl)
theorem laid3_reads {W : World} (h : laidMetH Tryd.prog laid3 W) : Lib.TabIs Tryd.prog W "internal/strconv.uint64pow10" .u64 Lib.pow10Tab := by
  rw [MakeChecks.laidMetH_plain _ _ _ (by kernel_rfl)] at h
  obtain ⟨ps, hL, -⟩ := h
  exact pow10_of_reads (Lib.LaidVars_reads hL _ _ (by simp [laid3]))
end Go.Proofs.YtnpinegpajbkeaaDoor
namespace Go.Proofs.YtnpinegpajbkeaaDoor
open Go.ChangeShapes Go.WideShapes Go.ChangeAt Go.RowKit HP
def rdSpt : Rd Spt := rdMap (rdPair rdStr (rdPair (rdInt .i64) rdEnd)) (fun x => ((x.1, x.2.1) : Spt)) (fun s => (s.1, s.2, ())) (fun a => rfl)
theorem rdSpt_at : rdSpt.At Tryd.prog 25 :=
  rdStruct_at Tryd.underlying25 (total := 1 + (1 + 0)) (by kernel_rfl) (rdPair_fs rfl (by kernel_rfl) (rdStr_at Tryd.underlying9) (rdPair_fs rfl (by kernel_rfl) (rdInt_at Tryd.underlying3) (rdEnd_fs _))) _ _ _
theorem rdSpts_at : (rdSl rdSpt).At Tryd.prog 22 := rdSl_at (n := 2) Tryd.underlying22 (by kernel_rfl) rdSpt_at
theorem spt_cut {W : World} {s : Sl Spt} (h : (rdSl rdSpt).ok W s) {E : Env} {w : World} (hw : Sat E w (HP.old W)) (m : Nat) : Cells w s.A ((s.l.take m).flatMap encSpot) := by
  rw [← flat_take2]
  exact (Cells.carry (cs := s.l.flatMap encSpot) h.2.2.1 (old_carry hw)).take _
end Go.Proofs.YtnpinegpajbkeaaDoor
