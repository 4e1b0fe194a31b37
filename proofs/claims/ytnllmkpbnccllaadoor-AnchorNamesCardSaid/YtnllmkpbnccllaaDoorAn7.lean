/- Texts of one claim, one behind the other: Itoa, Digits, NamesW, LaidN. -/
import Derived.Test.YtnllmkpbnccllaaDoorAn6
import Derived.Test.YtnllmkpbnccllaaDoorProg
import Derived.Shelf.Strconv.Itoa3
import Derived.Lib.LaidU8
import Derived.Lib.LaidTab
import Derived.Lib.ItoaNum
/- strconv.Itoa, laid at this program (printed by the kit's own tool). -/
namespace Go.Proofs.YtnllmkpbnccllaaDoor
open Go.Shelf Go.RowKit HP
set_option linter.unusedSimpArgs false
set_option linter.unusedVariables false

def laysItoa_ren : Go.Shelf.Ren := ⟨fun | 171 => 83 | 243 => 104 | 246 => 130 | 283 => 145 | 284 => 146 | 285 => 147 | 286 => 148 | 129 => 121 | 317 => 161 | 318 => 162 | 319 => 163 | 320 => 164 | 337 => 168 | 338 => 169 | n => n, fun | 3 => 3 | 9 => 9 | 2 => 2 | 4 => 4 | 171 => 194 | 0 => 0 | 53 => 127 | 37 => 22 | 5 => 5 | 173 => 196 | 212 => 209 | 51 => 155 | 20 => 20 | 213 => 210 | 46 => 49 | 232 => 218 | 233 => 219 | n => n, fun | 17 => 1 | 18 => 4 | 19 => 5 | n => n⟩
theorem laysItoa : Go.Proofs.LaysM.n171 Tryd.prog laysItoa_ren := {
  mixed := by kernel_rfl
  f129 := Tryd.func121.trans (congrArg some (by kernel_rfl))
  f171 := Tryd.func83.trans (congrArg some (by kernel_rfl))
  f243 := Tryd.func104.trans (congrArg some (by kernel_rfl))
  f246 := Tryd.func130.trans (congrArg some (by kernel_rfl))
  f283 := Tryd.func145.trans (congrArg some (by kernel_rfl))
  f284 := Tryd.func146.trans (congrArg some (by kernel_rfl))
  f285 := Tryd.func147.trans (congrArg some (by kernel_rfl))
  f286 := Tryd.func148.trans (congrArg some (by kernel_rfl))
  f317 := Tryd.func161.trans (congrArg some (by kernel_rfl))
  f318 := Tryd.func162.trans (congrArg some (by kernel_rfl))
  f319 := Tryd.func163.trans (congrArg some (by kernel_rfl))
  f320 := Tryd.func164.trans (congrArg some (by kernel_rfl))
  f337 := Tryd.func168.trans (congrArg some (by kernel_rfl))
  f338 := Tryd.func169.trans (congrArg some (by kernel_rfl))
  t0 := Tryd.underlying0
  a0 := Tryd.isAgg0
  z0 := Tryd.sizeOf0
  v0 := Tryd.zeroValue0
  t2 := Tryd.underlying2
  a2 := Tryd.isAgg2
  z2 := Tryd.sizeOf2
  v2 := Tryd.zeroValue2
  t3 := Tryd.underlying3
  a3 := Tryd.isAgg3
  z3 := Tryd.sizeOf3
  v3 := Tryd.zeroValue3
  t4 := Tryd.underlying4
  a4 := Tryd.isAgg4
  z4 := Tryd.sizeOf4
  v4 := Tryd.zeroValue4
  t5 := Tryd.underlying5
  a5 := Tryd.isAgg5
  z5 := Tryd.sizeOf5
  v5 := Tryd.zeroValue5
  t9 := Tryd.underlying9
  a9 := Tryd.isAgg9
  z9 := Tryd.sizeOf9
  v9 := Tryd.zeroValue9
  t20 := Tryd.underlying20
  a20 := Tryd.isAgg20
  z20 := Tryd.sizeOf20
  v20 := Tryd.zeroValue20
  t37 := Tryd.underlying22
  a37 := Tryd.isAgg22
  z37 := Tryd.sizeOf22
  v37 := Tryd.zeroValue22
  t46 := Tryd.underlying49
  a46 := Tryd.isAgg49
  z46 := Tryd.sizeOf49
  v46 := Tryd.zeroValue49
  t51 := Tryd.underlying155
  a51 := Tryd.isAgg155
  z51 := Tryd.sizeOf155
  v51 := Tryd.zeroValue155
  t53 := Tryd.underlying127
  a53 := Tryd.isAgg127
  z53 := Tryd.sizeOf127
  v53 := Tryd.zeroValue127
  t171 := Tryd.underlying194
  a171 := Tryd.isAgg194
  z171 := Tryd.sizeOf194
  v171 := Tryd.zeroValue194
  t173 := Tryd.underlying196
  a173 := Tryd.isAgg196
  z173 := Tryd.sizeOf196
  v173 := Tryd.zeroValue196
  t212 := Tryd.underlying209
  a212 := Tryd.isAgg209
  z212 := Tryd.sizeOf209
  v212 := Tryd.zeroValue209
  t213 := Tryd.underlying210
  a213 := Tryd.isAgg210
  z213 := Tryd.sizeOf210
  t232 := Tryd.underlying218
  a232 := Tryd.isAgg218
  z232 := Tryd.sizeOf218
  v232 := Tryd.zeroValue218
  t233 := Tryd.underlying219
  a233 := Tryd.isAgg219
  z233 := Tryd.sizeOf219
  v233 := Tryd.zeroValue219
  g17 := by kernel_rfl
  g18 := by kernel_rfl
  g19 := by kernel_rfl
  i0 := by kernel_rfl
  i2 := by kernel_rfl
  i3 := by kernel_rfl
  i4 := by kernel_rfl
  i5 := by kernel_rfl
  i9 := by kernel_rfl
  i20 := by kernel_rfl
  i37 := by kernel_rfl
  i46 := by kernel_rfl
  i51 := by kernel_rfl
  i53 := by kernel_rfl
  i171 := by kernel_rfl
  i173 := by kernel_rfl
  i212 := by kernel_rfl
  i232 := by kernel_rfl
  i233 := by kernel_rfl
  m17 := by kernel_rfl
  m18 := by kernel_rfl
  m19 := by kernel_rfl }
theorem Sat.grown {E : Env} {q : HP} : ∀ (l : List Obj) {w : World}, Sat E w q → Sat E (Go.Sort.grow w l.toArray) q
  | [], w, h => by
    have : Go.Sort.grow w ([] : List Obj).toArray = w := by simp [Go.Sort.grow]
    rw [this]; exact h
  | o :: l, w, h => by
    have h1 : Sat E (w.alloc o) q := (h.alloc o).right
    have h2 := Sat.grown l h1
    rw [Go.Sort.alloc_eq_grow, Go.Sort.grow_grow] at h2
    have e : #[o] ++ l.toArray = (o :: l).toArray := by simp
    rw [e] at h2; exact h2
theorem itoa_ok (E : Env) (q : HP) (n : Int) (w : World) (hn : wf64 n) (ht : ∀ w, Sat E w q → Lib.TabIs Tryd.prog w "internal/strconv.uint64pow10" .u64 Lib.pow10Tab) (hw : Sat E w q) :
    Calls Tryd.prog 83 #[.int .i64 n] w fun e w' => e = .returned (.string ⟨(Lib.itoa n).toArray⟩) ∧ Sat E w' q := by
  refine (Any.strconv_Itoa laysItoa n hn.1 hn.2 w (ht w hw)).mono ?_
  rintro e w' ⟨rfl, k, os, rfl⟩
  refine ⟨rfl, ?_⟩
  have := Sat.grown os.toList (hw.drewN (n := k))
  simpa using this
end Go.Proofs.YtnllmkpbnccllaaDoor
/- dryrotref17.Digits, Names; anchor.Names. -/
namespace Go.Proofs.YtnllmkpbnccllaaDoor
open Go.RowKit HP
set_option linter.unusedSimpArgs false
set_option linter.unusedVariables false

def decB (m : Nat) : ByteArray := ⟨(Lib.decDigits m).toArray⟩
def digB (d : Nat) : ByteArray := ⟨#[UInt8.ofNat (48 + d)]⟩
theorem decB_small {m : Nat} (h : m < 10) : decB m = digB m := by
  unfold decB digB Lib.decDigits
  rw [dif_pos h]
theorem decB_more {m : Nat} (h : ¬ m < 10) : decB m = decB (m / 10) ++ digB (m % 10) := by
  unfold decB digB
  rw [Lib.decDigits, dif_neg h]
  apply ByteArray.ext
  simp
theorem dig_slice : ∀ d : Nat, d < 10 → ∀ w, (Instr.slice 9 (.string ⟨#[48, 49, 50, 51, 52, 53, 54, 55, 56, 57]⟩) (some (.int .i64 (d : Int))) (some (.int .i64 ((d : Int) + 1))) none).run Tryd.prog w = .ok (.string (digB d)) w
  | 0, _ => fun w => by kernel_rfl
  | 1, _ => fun w => by kernel_rfl
  | 2, _ => fun w => by kernel_rfl
  | 3, _ => fun w => by kernel_rfl
  | 4, _ => fun w => by kernel_rfl
  | 5, _ => fun w => by kernel_rfl
  | 6, _ => fun w => by kernel_rfl
  | 7, _ => fun w => by kernel_rfl
  | 8, _ => fun w => by kernel_rfl
  | 9, _ => fun w => by kernel_rfl
  | k + 10, h => by omega
theorem decB_size : ∀ (k u : Nat), u < 10 ^ (k + 1) → (decB u).size ≤ k + 1
  | 0, u, h => by rw [decB_small (by omega)]; exact Nat.le_refl _
  | k + 1, u, h => by
    by_cases h10 : u < 10
    · rw [decB_small h10]
      show 1 ≤ k + 1 + 1
      omega
    · rw [decB_more h10, ByteArray.size_append]
      have h2 : u / 10 < 10 ^ (k + 1) := by
        rw [Nat.pow_succ] at h
        omega
      have := decB_size k (u / 10) h2
      show _ + 1 ≤ k + 1 + 1
      omega
theorem app_assoc (a b c : ByteArray) : a ++ b ++ c = a ++ (b ++ c) := by
  apply ByteArray.ext
  simp [Array.append_assoc]
set_option maxHeartbeats 1000000 in
set_option maxRecDepth 100000 in
theorem digits_ok (n : Int) (w : World) (hn : wf64 n) :
    Calls Tryd.prog 84 #[.int .i64 n] w fun e w' => e = .returned (.string (decB n.toNat)) ∧ w' = w := by
  unfold wf64 at hn
  have hsz := decB_size 18 n.toNat (by omega)
  have HSZ := Aside.mk hsz
  clear hsz
  go_enter Tryd.func84, Tryd.ntmps84
  go_wp2
  go_loopw [0, 3] (fun v0 v3 wr => ∃ (m : Int) (s : ByteArray), v0 = .int .i64 m ∧ v3 = .string s ∧ m ≤ 9223372036854775807 ∧ Aside (decB m.toNat ++ s = decB n.toNat) ∧ wr = w) (fun i _ _ => (intOf i).toNat)
  case atStart => exact ⟨n, ⟨#[]⟩, rfl, rfl, hn.2, ⟨by apply ByteArray.ext; simp⟩, rfl⟩
  case round =>
    obtain ⟨m, s, rfl, rfl, hm, HS, hwr⟩ := hrel
    subst wr
    by_cases h10 : 10 ≤ m
    · obtain ⟨d, hd⟩ : ∃ d : Nat, m % 10 = (d : Int) := ⟨(m % 10).toNat, by omega⟩
      have sl := dig_slice d (by omega)
      have HS2 : Aside (decB (m / 10).toNat ++ (digB d ++ s) = decB n.toNat) := ⟨by
        rw [← HS.out, decB_more (m := m.toNat) (by omega), app_assoc, show (m / 10).toNat = m.toNat / 10 by omega, show d = m.toNat % 10 by omega]⟩
      have hmt : m.tmod 10 = (d : Int) := by rw [Int.tmod_eq_emod_of_nonneg (by omega)]; exact hd
      have hmd : m.tdiv 10 = m / 10 := Int.tdiv_eq_ediv_of_nonneg (by omega)
      have hd10 : (d : Int) < 10 := by omega
      have hss : (digB d).size + s.size ≤ 100 := by
        have e := congrArg ByteArray.size HS2.out
        simp only [ByteArray.size_append] at e
        have := HSZ.out
        omega
      obtain ⟨m2, hm2⟩ : ∃ m2, m2 = m / 10 := ⟨_, rfl⟩
      have HM : Aside (m2 ≤ 9223372036854775807 ∧ m2.toNat < m.toNat) := ⟨by omega, by omega⟩
      rw [← hm2] at HS2 hmd
      have hm3 : m / 10 = m2 := hm2.symm
      clear hm2
      go_wp2
      refine ⟨⟨m2, digB d ++ s, rfl, rfl, HM.out.1, HS2, by first | rfl | trivial⟩, ?_⟩
      simp only [intOf]
      exact HM.out.2
    · have HS2 : Aside (digB m.toNat ++ s = decB n.toNat) := ⟨by rw [← HS.out, decB_small (m := m.toNat) (by omega)]⟩
      obtain ⟨d, hd⟩ : ∃ d : Nat, d = m.toNat := ⟨_, rfl⟩
      rw [← hd] at HS2
      have hmx : max m 0 = (d : Int) := by omega
      have hmx2 : (if (0 : Int) > m then (0 : Int) else m) = (d : Int) := by split <;> omega
      have sl := dig_slice d (by omega)
      have hd10 : (d : Int) < 10 := by omega
      have hss : (digB d).size + s.size ≤ 100 := by
        have e := congrArg ByteArray.size HS2.out
        simp only [ByteArray.size_append] at e
        have := HSZ.out
        omega
      clear hd
      go_wp2
      go_ret
      rw [← HS2.out]
      exact ⟨rfl, rfl⟩
end Go.Proofs.YtnllmkpbnccllaaDoor
/- AnchorNames: the walk. -/
namespace Go.Proofs.YtnllmkpbnccllaaDoor
open Go.RowKit HP
set_option linter.unusedSimpArgs false
set_option linter.unusedVariables false

def mB : ByteArray := ⟨#[109]⟩
def tB : ByteArray := ⟨#[116]⟩
theorem itoa_nat (d : Nat) : (⟨(Lib.itoa (d : Int)).toArray⟩ : ByteArray) = decB d := by
  unfold Lib.itoa decB
  rw [if_neg (by omega), Int.toNat_natCast]
set_option maxHeartbeats 1000000 in
set_option maxRecDepth 100000 in
theorem names_ok (E : Env) (q : HP) (n : Int) (w : World) (hn : wf64 n) (ht : ∀ w, Sat E w q → Lib.TabIs Tryd.prog w "internal/strconv.uint64pow10" .u64 Lib.pow10Tab) (hw : Sat E w q) :
    Calls Tryd.prog 44 #[.int .i64 n] w fun e w' => e = .returned (.tuple #[.string (mB ++ decB n.toNat), .string (tB ++ decB n.toNat)]) ∧ Sat E w' q := by
  obtain ⟨d, hd⟩ : ∃ d : Nat, d = n.toNat := ⟨_, rfl⟩
  have hmx : max n 0 = (d : Int) := by omega
  have hmx2 : (if (0 : Int) > n then (0 : Int) else n) = (d : Int) := by split <;> omega
  unfold wf64 at hn
  have hsz := decB_size 18 d (by omega)
  have HI := Aside.mk (itoa_ok E q (d : Int) w ⟨by omega, by omega⟩ ht hw)
  rw [← hd]
  have hs1 : mB.size + (decB d).size ≤ 100 := by show 1 + (decB d).size ≤ 100; omega
  have hs2 : tB.size + (decB d).size ≤ 100 := by show 1 + (decB d).size ≤ 100; omega
  have hs3 : 1 + (decB d).size ≤ 100 := by omega
  clear ht hw hd hn hsz
  go_enter Tryd.func44, Tryd.ntmps44
  go_wp2_with fail
  refine HI.out.mono ?_
  rintro e w1 ⟨rfl, h1⟩
  rw [itoa_nat]
  have H1 := Aside.mk h1
  clear h1 HI
  go_wp2
  go_ret2
  exact ⟨rfl, H1.out⟩
set_option maxHeartbeats 1000000 in
set_option maxRecDepth 100000 in
theorem refnames_ok (n : Int) (w : World) (hn : wf64 n) :
    Calls Tryd.prog 45 #[.int .i64 n] w fun e w' => e = .returned (.tuple #[.string (mB ++ decB n.toNat), .string (tB ++ decB n.toNat)]) ∧ w' = w := by
  have HI := Aside.mk (digits_ok n w hn)
  unfold wf64 at hn
  obtain ⟨d, hd⟩ : ∃ d : Nat, d = n.toNat := ⟨_, rfl⟩
  have hsz := decB_size 18 d (by omega)
  rw [← hd] at HI ⊢
  have hs3 : 1 + (decB d).size ≤ 100 := by omega
  clear hd hn hsz
  go_enter Tryd.func45, Tryd.ntmps45
  go_wp2_with fail
  refine HI.out.mono ?_
  rintro e w1 ⟨rfl, hw1⟩
  subst w1
  go_wp2_with fail
  refine HI.out.mono ?_
  rintro e w1 ⟨rfl, hw1⟩
  subst w1
  go_wp2
  go_ret2
  exact ⟨rfl, rfl⟩
set_option maxHeartbeats 1000000 in
set_option maxRecDepth 100000 in
theorem reffresh_ok (E : Env) (q : HP) (w : World) (hw : Sat E w q) :
    Calls Tryd.prog 47 #[] w fun e w' => e = .returned freshA.val ∧ Sat E w' q := by
  have H1 := Aside.mk (hw.alloc (.cells #[.int .i64 0, .int .i64 1, .int .i64 0, .int .i64 1, .int .i64 0, .int .i64 (-9223372036854775808), .int .i64 (-9223372036854775808), .int .i64 0, .int .i64 1, .int .i64 0] 71))
  clear hw
  go_enter Tryd.func47, Tryd.ntmps47
  go_wp2
  refine bodyPost_ret (results_cell (t := 0) rfl rfl (run_loadAgg agAnch (cs := i8s freshA.l) rfl (Sat.ptCells (off := 0) H1.out rfl))) rfl ?_
  exact ⟨rfl, H1.out.right⟩
set_option maxHeartbeats 2000000 in
set_option maxRecDepth 100000 in
theorem anchorNames_ok (E : Env) (q : HP) (n : Int) (w : World) (hn : wf64 n) (hq : ∀ w, Sat E w q → Quarter w ∧ Lib.TabIs Tryd.prog w "internal/strconv.uint64pow10" .u64 Lib.pow10Tab) (hw : Sat E w q) :
    Calls Tryd.prog 10 #[.int .i64 n] w fun e w' => e = .returned (.bool true) ∧ Sat E w' q := by
  have HQ := Aside.mk (And.intro hq (And.intro hw hn))
  clear hq hw hn
  go_enter Tryd.func10, Tryd.ntmps10
  go_wp2_with fail
  refine (names_ok E q n _ HQ.out.2.2 (fun w h => (HQ.out.1 w h).2) HQ.out.2.1).mono ?_
  rintro e w1 ⟨rfl, h1⟩
  have H1 := Aside.mk h1
  clear h1
  go_wp2_with fail
  refine (refnames_ok n _ HQ.out.2.2).mono ?_
  rintro e w2 ⟨rfl, hw2⟩
  subst w2
  go_wp2_with fail
  refine (fresh_ok E q _ H1.out).mono ?_
  rintro e w3 ⟨rfl, h3⟩
  have H3 := Aside.mk h3
  clear h3
  rw [show freshA.val = .agg #[.int .i64 0, .int .i64 1, .int .i64 0, .int .i64 1, .int .i64 0, .int .i64 (-9223372036854775808), .int .i64 (-9223372036854775808), .int .i64 0, .int .i64 1, .int .i64 0] from rfl]
  go_wp2_with fail
  refine (reffresh_ok E q _ H3.out).mono ?_
  rintro e w4 ⟨rfl, h4⟩
  have H4 := Aside.mk h4
  clear h4
  rw [show freshA.val = .agg #[.int .i64 0, .int .i64 1, .int .i64 0, .int .i64 1, .int .i64 0, .int .i64 (-9223372036854775808), .int .i64 (-9223372036854775808), .int .i64 0, .int .i64 1, .int .i64 0] from rfl]
  go_wp2_with fail
  refine (awake17_ok E q _ (fun w h => (HQ.out.1 w h).1) H4.out).mono ?_
  rintro e w5 ⟨rfl, h5⟩
  have H5 := Aside.mk h5
  clear h5
  go_wp2
  go_ret
  exact ⟨rfl, H5.out⟩
end Go.Proofs.YtnllmkpbnccllaaDoor
/- The listed tables of AnchorNames: what the condition gives a walk. -/
namespace Go.Proofs.YtnllmkpbnccllaaDoor
open Go.ChangeShapes Go.WideShapes Go.ChangeAt Go.WideMaps Go.WideElems Go.RowKit HP
set_option linter.unusedVariables false

theorem quarter_of_reads {W : World} (h : Lib.VarReads Tryd.prog W "dryrot/crc.quarter" Rows.laid_dryrot_crc_quarter) : Quarter W := by
  obtain ⟨g0, t0, cs0, f0, p0, hg0, ht0, hv0, hd0⟩ := h
  obtain rfl := Option.some.inj (gQuarter.symm.trans hg0)
  obtain rfl := Option.some.inj (tQuarter.symm.trans ht0)
  obtain ⟨xs, m1, rfl, hx1, hlen, hn3, hel⟩ := DataW.trod_array Tryd.underlying198 hd0
  have c3 : Tryd.prog.cellsOf 155 = 1 := by kernel_rfl
  simp only [Prod.mk.injEq, DataW.agg.injEq, Rows.laid_dryrot_crc_quarter] at hx1
  intro i hi
  have hi' := hel i hi
  rw [c3, Nat.mul_one] at hi'
  have hxl : i < xs.length := by omega
  rw [List.getElem?_eq_getElem hxl] at hi'
  obtain ⟨k, e1, e2, _⟩ := DataW.trod_int Tryd.underlying155 hi'
  have e3 : (xs.map (·.1))[i]? = some (DataW.lit (.int .u32 k)) := by
    rw [List.getElem?_map, List.getElem?_eq_getElem hxl]
    simp [e2]
  rw [← hx1.1] at e3
  have hk : k = quarterN i := by
    match i, hi with
    | 0, _ => simpa [quarterN] using e3.symm
    | 1, _ => simpa [quarterN] using e3.symm
    | 2, _ => simpa [quarterN] using e3.symm
    | 3, _ => simpa [quarterN] using e3.symm
  have e4 := World.var?_cell hg0 hv0 i
  have e5 : cs0.toList[i]? = some (.int .u32 k) := by
    have := congrArg (fun l => l[0]?) e1
    simpa [List.getElem?_take] using this
  rw [Array.getElem?_toList, hk] at e5
  rw [← e5, ← e4]
theorem pow10_tab : (Rows.laid_internal_strconv_uint64pow10 : DataW Unit) = Lib.tabData .u64 Lib.pow10Tab := by kernel_rfl
theorem pow10_of_reads {W : World} (h : Lib.VarReads Tryd.prog W "internal/strconv.uint64pow10" Rows.laid_internal_strconv_uint64pow10) : Lib.TabIs Tryd.prog W "internal/strconv.uint64pow10" .u64 Lib.pow10Tab := by
  obtain ⟨g0, t0, cs0, f0, p0, hg0, ht0, hv0, hd0⟩ := h
  have hg : Tryd.prog.globalNamed "internal/strconv.uint64pow10" = some 1 := by kernel_rfl
  have ht : (Tryd.prog.globals[1]?).map (·.type) = some 209 := by kernel_rfl
  obtain rfl := Option.some.inj (hg.symm.trans hg0)
  obtain rfl := Option.some.inj (ht.symm.trans ht0)
  unfold Lib.TabIs
  rw [hv0, ← Lib.cells_of_tab Tryd.underlying209 Tryd.underlying127 (by kernel_rfl) (by kernel_rfl) (pow10_tab ▸ hd0)]
def laidN : List (String × DataW Unit) := [("dryrot/crc.quarter", Rows.laid_dryrot_crc_quarter), ("math/bits.deBruijn32tab", Rows.laid_math_bits_deBruijn32tab), ("math/bits.deBruijn64tab", Rows.laid_math_bits_deBruijn64tab), ("internal/strconv.uint64pow10", Rows.laid_internal_strconv_uint64pow10)]
theorem door_metN (os : Os) (args : Array Value) : laidMetH Tryd.prog laidN ((World.doorLaid Tryd.prog 400 os).forCall (fun _ _ => 0) ⟨#[], args, []⟩).memory :=
  laidMetH_of_parts3 (fuel := 8) (laidMet_of_run' 8 (by kernel_rfl) (by kernel_rfl)) (by kernel_rfl) (by kernel_rfl)
theorem laidN_reads {W : World} (h : laidMetH Tryd.prog laidN W) : Quarter W ∧ Lib.TabIs Tryd.prog W "internal/strconv.uint64pow10" .u64 Lib.pow10Tab := by
  rw [MakeChecks.laidMetH_plain _ _ _ (by kernel_rfl)] at h
  obtain ⟨ps, hL, -⟩ := h
  exact ⟨quarter_of_reads (Lib.LaidVars_reads hL _ _ (by simp [laidN])), pow10_of_reads (Lib.LaidVars_reads hL _ _ (by simp [laidN]))⟩
end Go.Proofs.YtnllmkpbnccllaaDoor
