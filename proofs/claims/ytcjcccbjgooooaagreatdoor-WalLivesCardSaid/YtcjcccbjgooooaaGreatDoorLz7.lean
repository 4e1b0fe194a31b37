/- Texts of one claim, one behind the other: ConcA, SameT, BClone, Full, Laid, Tied. -/
import Derived.Test.YtcjcccbjgooooaaGreatDoorLz6
import Derived.Lib.SliceRun
import Derived.LaidMore
import Derived.Stop.Joined
/- slices.Concat of two slices of bytes. -/
namespace Go.Proofs.YtcjcccbjgooooaaGreatDoor
open Go.RowKit HP
set_option linter.unusedSimpArgs false
set_option linter.unusedVariables false

theorem Sat.row_cut {E : Env} {w : World} {q : HP} {e : TypeId} {size n m c : Nat} {A : Option Addr} {cs : List Value} (h : Sat E w (HP.row e size (.slice A n c) n cs * q)) (hm : m ≤ n) : Sat E w (HP.row e size (.slice A m c) m (cs.take (m * size)) * q) := by
  rcases h.row_cases with ⟨hl, ⟨A', hv, hn, hq⟩ | ⟨g, off, cap, cur, hv, hnc, hcm, hs, ht, hp⟩⟩
  · simp only [Value.slice.injEq] at hv
    obtain ⟨rfl, -, rfl⟩ := hv
    subst hn
    obtain rfl : m = 0 := by omega
    rw [Nat.zero_mul, List.take_zero]
    exact hq.row_nil e size A
  · simp only [Value.slice.injEq] at hv
    obtain ⟨rfl, -, rfl⟩ := hv
    refine hp.row_mk (by omega) hcm hs ?_
    rw [← ht, List.take_take]
    congr 1
    have := Nat.mul_le_mul_right size hm
    omega
end Go.Proofs.YtcjcccbjgooooaaGreatDoor
/- SameTexts: two lists of texts compared. -/
namespace Go.Proofs.YtcjcccbjgooooaaGreatDoor
open Go.RowKit HP
set_option linter.unusedSimpArgs false
set_option linter.unusedVariables false

theorem val8_cell {w : World} {V : Option Addr} {g o : Nat} {ss : List (Sl Int)} (h : Cells w V (ss.map Sl.val8)) (hV : V = some ⟨g, o, none⟩) {k : Nat} (hk : k < ss.length) : w.cell? ⟨g, o + k, none⟩ = some (.slice (ss[k]).A (ss[k]).l.length (ss[k]).cap) := by
  obtain ⟨a, ha, hc⟩ := h.at_ k (by simpa using hk)
  rw [hV] at ha
  cases ha
  rw [addr_add] at hc
  rw [hc]
  simp [Sl.val8]
theorem val8_addr {w : World} {V : Option Addr} {ss : List (Sl Int)} (h : Cells w V (ss.map Sl.val8)) (hk : 0 < ss.length) : ∃ g o, V = some ⟨g, o, none⟩ := by
  obtain ⟨a, rfl, -⟩ := h.at_ 0 (by simpa using hk)
  obtain ⟨g, o, rfl⟩ := slice_addr h rfl (k := 0) (by simpa using hk)
  exact ⟨g, o, rfl⟩
/-- What one is told of a list of texts. -/
structure Texts (w : World) (V : Option Addr) (ss : List (Sl Int)) : Prop where
  top : Cells w V (ss.map Sl.val8)
  each : ∀ s ∈ ss, Cells w s.A (b8s s.l)
  bytes : ∀ s ∈ ss, Bytes s.l
set_option maxHeartbeats 2000000 in
set_option maxRecDepth 100000 in
theorem equalFunc_ok (V1 V2 : Option Addr) (ss1 ss2 : List (Sl Int)) (n1 n2 c1 c2 : Nat) (w : World) (e1 : ss1.length = n1) (e2 : ss2.length = n2) (k1 : n1 ≤ 4611686018427387904) (k2 : n2 ≤ 4611686018427387904) (h1 : Texts w V1 ss1) (h2 : Texts w V2 ss2) :
    Calls Tryz.prog 56 #[.slice V1 n1 c1, .slice V2 n2 c2, .func (Fn.func 10) #[] #[]] w fun e w' => e = .returned (.bool (decide (ss1.map (·.l) = ss2.map (·.l)))) ∧ w' = w := by
  have HH := Aside.mk (And.intro h1 (And.intro h2 (And.intro e1 e2)))
  clear h1 h2 e1 e2
  by_cases hne : n1 = n2
  · subst hne
    have HV : Aside (0 < n1 → (∃ g o, V1 = some ⟨g, o, none⟩) ∧ ∃ g o, V2 = some ⟨g, o, none⟩) := ⟨fun h => ⟨val8_addr HH.out.1.top (by rw [HH.out.2.2.1]; exact h), val8_addr HH.out.2.1.top (by rw [HH.out.2.2.2]; exact h)⟩⟩
    go_enter Tryz.func56, Tryz.ntmps56
    go_wp2
    go_loopw [17] (fun v17 wr => ∃ k : Nat, k ≤ n1 ∧ v17 = .int .i64 k ∧ Aside (∀ j : Nat, j < k → (ss1.map (·.l))[j]? = (ss2.map (·.l))[j]?) ∧ wr = w) (fun i _ => n1 - (intOf i).toNat)
    case atStart => exact ⟨0, by omega, rfl, ⟨fun j hj => by omega⟩, rfl⟩
    case round =>
      obtain ⟨k, hk, rfl, HE, hwr⟩ := hrel
      subst wr
      by_cases hlt : k < n1
      · obtain ⟨⟨g1, o1, rfl⟩, g2, o2, rfl⟩ := HV.out (by omega)
        have hk1 : k < ss1.length := by rw [HH.out.2.2.1]; exact hlt
        have hk2 : k < ss2.length := by rw [HH.out.2.2.2]; exact hlt
        have x1 := val8_cell HH.out.1.top rfl hk1
        have x2 := val8_cell HH.out.2.1.top rfl hk2
        have X1 : Aside ((ss1.map (·.l))[k]? = some (ss1[k]).l) := ⟨by rw [List.getElem?_map, List.getElem?_eq_getElem hk1]; rfl⟩
        have X2 : Aside ((ss2.map (·.l))[k]? = some (ss2[k]).l) := ⟨by rw [List.getElem?_map, List.getElem?_eq_getElem hk2]; rfl⟩
        have HC := Aside.mk (bytesEq_ok (ss1[k]).A (ss2[k]).A (ss1[k]).l (ss2[k]).l _ _ (ss1[k]).cap (ss2[k]).cap w rfl rfl (HH.out.1.each _ (List.getElem_mem hk1)) (HH.out.2.1.each _ (List.getElem_mem hk2)) (HH.out.1.bytes _ (List.getElem_mem hk1)) (HH.out.2.1.bytes _ (List.getElem_mem hk2)))
        generalize ss1[k] = s1 at *
        generalize ss2[k] = s2 at *
        obtain ⟨m1, hm1⟩ : ∃ m1, m1 = s1.l.length := ⟨_, rfl⟩
        obtain ⟨m2, hm2⟩ : ∃ m2, m2 = s2.l.length := ⟨_, rfl⟩
        rw [← hm1] at x1 HC
        rw [← hm2] at x2 HC
        clear hm1 hm2 hk1 hk2
        have hlt2 : (k : Int) < n1 := by omega
        go_wp2_with fail
        refine HC.out.mono ?_
        rintro e w1 ⟨rfl, hw1⟩
        subst w1
        clear HC x1 x2
        by_cases he : s1.l = s2.l
        · have HE2 : Aside (∀ j : Nat, j < k + 1 → (ss1.map (·.l))[j]? = (ss2.map (·.l))[j]?) := ⟨fun j hj => by
            rcases Nat.lt_or_ge j k with h | h
            · exact HE.out j h
            · obtain rfl : j = k := by omega
              rw [X1.out, X2.out, he]⟩
          rw [decide_eq_true he]
          clear he X1 X2 HE
          go_wp2
          go_roundw
          case rel => exact ⟨k + 1, by omega, by push_cast; rfl, HE2, by first | rfl | trivial⟩
          case measure => simp [intOf]; omega
        · have HX : Aside (decide (ss1.map (·.l) = ss2.map (·.l)) = false) := ⟨decide_eq_false fun h => he (by
            have h1 := X1.out
            rw [h, X2.out] at h1
            exact (Option.some.inj h1).symm)⟩
          rw [decide_eq_false he]
          clear he X1 X2 HE
          go_wp2
          go_ret
          rw [HX.out]
          exact ⟨rfl, rfl⟩
      · obtain rfl : k = n1 := by omega
        have HX : Aside (decide (ss1.map (·.l) = ss2.map (·.l)) = true) := ⟨decide_eq_true (List.ext_getElem? fun j => by
          rcases Nat.lt_or_ge j k with h | h
          · exact HE.out j h
          · rw [List.getElem?_eq_none (by rw [List.length_map, HH.out.2.2.1]; exact h), List.getElem?_eq_none (by rw [List.length_map, HH.out.2.2.2]; exact h)])⟩
        clear HE
        go_wp2
        go_ret
        rw [HX.out]
        exact ⟨rfl, rfl⟩
  · have HX : Aside (decide (ss1.map (·.l) = ss2.map (·.l)) = false) := ⟨decide_eq_false fun h => hne (by
      have := congrArg List.length h
      rw [List.length_map, List.length_map, HH.out.2.2.1, HH.out.2.2.2] at this
      exact this)⟩
    have hne2 : ((n1 : Int) == n2) = false := by rw [beq_eq_false_iff_ne]; omega
    go_enter Tryz.func56, Tryz.ntmps56
    go_wp2
    go_ret
    rw [HX.out]
    exact ⟨rfl, rfl⟩
set_option maxHeartbeats 1000000 in
set_option maxRecDepth 100000 in
theorem sameTexts_ok (V1 V2 : Option Addr) (ss1 ss2 : List (Sl Int)) (n1 n2 c1 c2 : Nat) (w : World) (e1 : ss1.length = n1) (e2 : ss2.length = n2) (k1 : n1 ≤ 4611686018427387904) (k2 : n2 ≤ 4611686018427387904) (h1 : Texts w V1 ss1) (h2 : Texts w V2 ss2) :
    Calls Tryz.prog 14 #[.slice V1 n1 c1, .slice V2 n2 c2] w fun e w' => e = .returned (.bool (decide (ss1.map (·.l) = ss2.map (·.l)))) ∧ w' = w := by
  have HC := Aside.mk (equalFunc_ok V1 V2 ss1 ss2 n1 n2 c1 c2 w e1 e2 k1 k2 h1 h2)
  clear e1 e2 k1 k2 h1 h2
  obtain ⟨b, hb⟩ : ∃ b, b = decide (ss1.map (·.l) = ss2.map (·.l)) := ⟨_, rfl⟩
  rw [← hb] at HC ⊢
  clear hb
  go_enter Tryz.func14, Tryz.ntmps14
  go_wp2_with fail
  refine HC.out.mono ?_
  rintro e w1 ⟨rfl, hw1⟩
  subst w1
  go_wp2
  go_ret
  exact ⟨rfl, rfl⟩
end Go.Proofs.YtcjcccbjgooooaaGreatDoor
/- bytes.Clone. -/
namespace Go.Proofs.YtcjcccbjgooooaaGreatDoor
open Go.RowKit HP
set_option linter.unusedSimpArgs false
set_option linter.unusedVariables false

set_option maxHeartbeats 1000000 in
set_option maxRecDepth 100000 in
theorem bytesClone_ok (E : Env) (q : HP) (A : Option Addr) (l : List Int) (n c : Nat) (w : World) (hn : l.length = n) (hl : n ≤ 140737488351232) (hw : Sat E w q) (hc : Cells w A (b8s l)) :
    Calls Tryz.prog 6 #[.slice A n c] w fun e w' => ∃ v, e = .returned v ∧ Sat E w' (HP.row 5 1 v n (b8s l) * q) := by
  go_enter Tryz.func6, Tryz.ntmps6
  cases A with
  | none =>
    have hl0 : l = [] := by
      cases l with
      | nil => rfl
      | cons x l => obtain ⟨a, ha, _⟩ := hc.at_ 0 (by simp [b8s]); cases ha
    subst hl0
    obtain rfl : n = 0 := by simpa using hn.symm
    have hnil := Lib.run_eql_slice_nil (P := Tryz.prog) w 28 5 none 0 c 0 0 Tryz.underlying28
    go_wp2
    go_ret
    exact ⟨_, rfl, hw.row_nil _ _ _⟩
  | some a =>
    have hil : (b8s l).length = n * 1 := by simp [b8s, hn]
    have hall : (b8s l).all Value.oneCell' = true := by simp [b8s, Value.oneCell']
    have HH := Aside.mk (And.intro hw (And.intro hc (And.intro hil hall)))
    clear hw hc hil hall hn
    have hnil := Lib.run_eql_slice_nil (P := Tryz.prog) w 28 5 (some a) n c 0 0 Tryz.underlying28
    go_wp2_with (at_builtin; refine wpList_append_row slB8 rfl rfl (by rfl) (by rfl) (((HH.out.1.alloc _).right).row_nil _ _ _) (HH.out.2.1.alloc _) HH.out.2.2.1 HH.out.2.2.2 (by unfold maxLen; omega) (by omega) (fun v4 w4 hw4 => ?_))
    go_ret
    refine ⟨_, rfl, ?_⟩
    simpa using hw4
end Go.Proofs.YtcjcccbjgooooaaGreatDoor
/- A step's extent: its own bytes, cut or filled up. -/
namespace Go.Proofs.YtcjcccbjgooooaaGreatDoor
open Go.RowKit HP
set_option linter.unusedSimpArgs false
set_option linter.unusedVariables false

set_option maxHeartbeats 1000000 in
set_option maxRecDepth 100000 in
theorem full_ok (E : Env) (q : HP) (s : StepV) (w : World) (hl : s.b.l.length ≤ s.b.cap) (hq : ∀ E w, Sat E w q → Cells w s.b.A (b8s s.b.l)) (hw : Sat E w q) :
    Calls Tryz.prog 75 #[.agg s.vals.toArray] w fun e w' => ∃ g, e = .returned (.slice (some ⟨g, 0, none⟩) 128 128) ∧ Sat E w' (HP.row 5 1 (.slice (some ⟨g, 0, none⟩) 128 128) 128 (b8s (fullOf s.b.l)) * q) := by
  unfold StepV.vals Sl.val
  go_enter Tryz.func75, Tryz.ntmps75
  have h1 := hw.alloc (.cells #[.int .i64 s.op, .int .i64 s.i, .int .i64 s.at_, .int .i64 s.n, .string s.name, .slice s.b.A s.b.l.length s.b.cap, .int .u8 s.mask, .slice s.kept.A s.kept.l.length s.kept.cap] 49)
  have HH := Aside.mk (And.intro h1 (And.intro hl hq))
  clear hw h1 hl hq
  go_wp2_with (first
    | (refine wpList_make_row (n := 128) slB8 rfl rfl rfl rfl rfl HH.out.1 (by unfold maxLen; omega) (by omega) (fun g w2 hw2 => ?_); have g5 := (hw2.s2).cell 5; simp only [List.getElem?_toArray, List.getElem?_cons_zero, List.getElem?_cons_succ] at g5; have HW2 := Aside.mk hw2; clear hw2)
    | (at_builtin; fail)
    | (refine wpList_copy_sat Tryz.underlying28 (by kernel_rfl) rfl rfl rfl rfl HW2.out (b8s_length _) (HH.out.2.2 _ _ HW2.out.right.right) (b8s_one _) (fun w3 hw3 => ?_); have HW3 := Aside.mk hw3; clear hw3))
  go_ret
  refine ⟨g, rfl, ?_⟩
  have h9 := HW3.out.drop2
  rw [full_cells] at h9
  exact h9
end Go.Proofs.YtcjcccbjgooooaaGreatDoor
/- The listed table: what the condition gives a walk; the door's own heap meets it. -/
namespace Go.Proofs.YtcjcccbjgooooaaGreatDoor
open Go.ChangeShapes Go.WideShapes Go.ChangeAt Go.WideMaps Go.WideElems Go.RowKit HP
set_option linter.unusedVariables false

def laidAll : List (String × DataW Unit) := [("dryrot/crc.quarter", Rows.laid_dryrot_crc_quarter)]
theorem gQuarter : Tryz.prog.globalNamed "dryrot/crc.quarter" = some 0 := by kernel_rfl
theorem tQuarter : (Tryz.prog.globals[0]?).map (·.type) = some 215 := by kernel_rfl
theorem door_met (os : Os) (args : Array Value) : laidMetH Tryz.prog laidAll ((World.doorLaid Tryz.prog 400 os).forCall (fun _ _ => 0) ⟨#[], args, []⟩).memory :=
  laidMetH_of_parts3 (fuel := 8) (laidMet_of_run' 8 (by kernel_rfl) (by kernel_rfl)) (by kernel_rfl) (by kernel_rfl)
theorem quarter_of_laid {W : World} (h : laidMetH Tryz.prog laidAll W) : Quarter W := by
  rw [MakeChecks.laidMetH_plain _ _ _ (by kernel_rfl)] at h
  obtain ⟨ps, ⟨g0, t0, cs0, f0, p0, q0, hg0, ht0, hv0, hd0, _, _⟩, _, _⟩ := h
  obtain rfl := Option.some.inj (gQuarter.symm.trans hg0)
  obtain rfl := Option.some.inj (tQuarter.symm.trans ht0)
  obtain ⟨xs, m1, rfl, hx1, hlen, hn3, hel⟩ := DataW.trod_array Tryz.underlying215 hd0
  have c3 : Tryz.prog.cellsOf 161 = 1 := by kernel_rfl
  simp only [Prod.mk.injEq, DataW.agg.injEq, Rows.laid_dryrot_crc_quarter] at hx1
  intro i hi
  have hi' := hel i hi
  rw [c3, Nat.mul_one] at hi'
  have hxl : i < xs.length := by omega
  rw [List.getElem?_eq_getElem hxl] at hi'
  obtain ⟨k, e1, e2, _⟩ := DataW.trod_int Tryz.underlying161 hi'
  have e3 : (xs.map (·.1))[i]? = some (DataW.lit (.int .u32 k)) := by
    rw [List.getElem?_map, List.getElem?_eq_getElem hxl]
    simp [e2]
  rw [← hx1.1] at e3
  have hk : k = quarterN i := by
    match i, hi with
    | 0, _ => simpa [quarterN] using e3.symm
    | 1, _ => simpa [quarterN] using e3.symm
    | 2, _ => simpa [quarterN] using e3.symm
    | 3, _ => simpa [quarterN] using e3.symm
  have e4 := World.var?_cell hg0 hv0 i
  have e5 : cs0.toList[i]? = some (.int .u32 k) := by
    have := congrArg (fun l => l[0]?) e1
    simpa [List.getElem?_take] using this
  rw [Array.getElem?_toList, hk] at e5
  rw [← e5, ← e4]
end Go.Proofs.YtcjcccbjgooooaaGreatDoor
/- What the laws' cards share. -/
namespace Go.Proofs.YtcjcccbjgooooaaGreatDoor
open Go.ChangeShapes Go.WideShapes Go.ChangeAt Go.RowKit HP
set_option linter.unusedVariables false

theorem old_carry {E : Env} {W w : World} (h : Sat E w (HP.old W)) : ∀ k, k < W.heap.size → w.heap[k]? = W.heap[k]? := fun k hk => Sat.old_block (p := HP.emp) (by rw [HP.mul_emp]; exact h) k hk
theorem quarter_old {E : Env} {W w : World} (hQ : Quarter W) (h : Sat E w (HP.old W)) : Quarter w := fun i hi => by
  rw [World.cell?_of_block (w := W) (old_carry h _ (World.block_lt_of_cell? W _ (hQ i hi)))]
  exact hQ i hi
theorem trodAll_five {H : Type} {enc : TypeId × Value → H} {P : Program} {w : World} {base : Nat} {spare : Nat → Bool} {held : Bool} {t t' t'' t3 t4 : TypeId} {args : Array Value} {ds : List (DataW H)} {ps : List MemPlace} (h : DataW.TrodAll enc P w base spare held [t, t', t'', t3, t4] args.toList ds ps) :
    ∃ v v' v'' v3 v4 d d' d'' d3 d4 p p' p'' p3 p4, args = #[v, v', v'', v3, v4] ∧ ds = [d, d', d'', d3, d4] ∧ ps = p ++ p' ++ p'' ++ p3 ++ p4 ∧ DataW.Trod enc P w base spare held t v d p ∧ DataW.Trod enc P w base spare held t' v' d' p' ∧ DataW.Trod enc P w base spare held t'' v'' d'' p'' ∧ DataW.Trod enc P w base spare held t3 v3 d3 p3 ∧ DataW.Trod enc P w base spare held t4 v4 d4 p4 := by
  obtain ⟨v, vs, d, ds', p, q, hargs, rfl, rfl, hd, hrest⟩ := trodAll_cons h
  obtain ⟨v', vs', d', ds'', p', q', rfl, rfl, rfl, hd', hrest'⟩ := trodAll_cons hrest
  obtain ⟨v'', vs'', d'', ds''', p'', q'', rfl, rfl, rfl, hd'', hrest''⟩ := trodAll_cons hrest'
  obtain ⟨v3, vs3, d3, ds3, p3, q3, rfl, rfl, rfl, hd3, hrest3⟩ := trodAll_cons hrest''
  obtain ⟨v4, vs4, d4, ds4, p4, q4, rfl, rfl, rfl, hd4, hrest4⟩ := trodAll_cons hrest3
  obtain ⟨rfl, rfl, rfl⟩ := trodAll_nil hrest4
  exact ⟨v, v', v'', v3, v4, d, d', d'', d3, d4, p, p', p'', p3, p4, by cases args; simp_all, rfl, by simp, hd, hd', hd'', hd3, hd4⟩
theorem rdB_at : (rdSl (rdInt .u8)).At Tryz.prog 28 := rdSl_at (n := 1) Tryz.underlying28 (by kernel_rfl) (rdInt_at Tryz.underlying5)
end Go.Proofs.YtcjcccbjgooooaaGreatDoor
