/- Texts of one claim, one behind the other: AnchE, AnchD, AnchS, ExtP, AnchP, Ref2, AnchR, Ref3E, Ref3, PairD. -/
import Derived.Test.YtmjnnbnbdcadbaaGreatDoorLz6
/- anchor.Encode. -/
namespace Go.Proofs.YtmjnnbnbdcadbaaGreatDoor
open Go.RowKit HP
set_option linter.unusedSimpArgs false
set_option linter.unusedVariables false

def n64 (n : Int) : Nat := (n % 18446744073709551616).toNat
def encI (l : List Int) : List Int := l.flatMap fun n => putI (n64 n) 8
def encEnd (E : Env) (q : HP) (a : Anch) (e : Ending) (w' : World) : Prop :=
  if canA a = true then ∃ v, e = .returned (.tuple #[v, .int .i64 0]) ∧ Sat E w' (HP.row 5 1 v 80 (b8s (encI a.l)) * q) else e = .returned (.tuple #[.slice none 0 0, .int .i64 1]) ∧ Sat E w' q
theorem encEnd_no {E : Env} {q : HP} {a : Anch} {e : Ending} {w' : World} (h : canA a = false) (he : e = .returned (.tuple #[.slice none 0 0, .int .i64 1])) (hw : Sat E w' q) : encEnd E q a e w' := by
  unfold encEnd
  rw [if_neg (by rw [h]; decide)]
  exact ⟨he, hw⟩
theorem encEnd_yes {E : Env} {q : HP} {a : Anch} {e : Ending} {w' : World} {v : Value} (h : canA a = true) (he : e = .returned (.tuple #[v, .int .i64 0])) (hw : Sat E w' (HP.row 5 1 v 80 (b8s (encI a.l)) * q)) : encEnd E q a e w' := by
  unfold encEnd
  rw [if_pos h]
  exact ⟨v, he, hw⟩
theorem Anch.l_length (a : Anch) : a.l.length = 10 := rfl
theorem encI_length (l : List Int) : (encI l).length = 8 * l.length := by
  unfold encI
  rw [List.length_flatMap]
  induction l with
  | nil => rfl
  | cons x l ih => rw [List.map_cons, List.sum_cons, ih, putI_length, List.length_cons]; omega
theorem encI_bytes (l : List Int) : Bytes (encI l) := fun x hx => by
  obtain ⟨n, -, h⟩ := List.mem_flatMap.1 hx
  exact putI_bytes _ _ x h
theorem encI_take {l : List Int} {k : Nat} {x : Int} (hx : l[k]? = some x) : encI (l.take (k + 1)) = encI (l.take k) ++ putI (n64 x) 8 := by
  unfold encI
  rw [List.take_add_one, hx, List.flatMap_append]
  simp
theorem n64_wrap (n : Int) : IntKind.u64.wrap n = (n64 n : Int) := by
  rw [IntKind.wrap_u64]
  unfold n64
  rw [Int.toNat_of_nonneg (by omega)]
theorem n64_lt (n : Int) : n64 n < 18446744073709551616 := by unfold n64; omega
set_option maxRecDepth 100000 in
theorem index_anch (a : Anch) : ∀ k : Nat, k < 10 → ∃ x, a.l[k]? = some x ∧ ∀ w, (Instr.index 167 (.agg #[.int .i64 a.seq, .int .i64 a.gen, .int .i64 a.lsn, .int .i64 a.seg, .int .i64 a.ext, .int .i64 a.flo, .int .i64 a.new, .int .i64 a.keep, .int .i64 a.next, .int .i64 a.cur]) (.int .i64 (k : Int))).run Tryz.prog w = .ok (.int .i64 x) w
  | 0, _ => ⟨_, rfl, fun w => by kernel_rfl⟩
  | 1, _ => ⟨_, rfl, fun w => by kernel_rfl⟩
  | 2, _ => ⟨_, rfl, fun w => by kernel_rfl⟩
  | 3, _ => ⟨_, rfl, fun w => by kernel_rfl⟩
  | 4, _ => ⟨_, rfl, fun w => by kernel_rfl⟩
  | 5, _ => ⟨_, rfl, fun w => by kernel_rfl⟩
  | 6, _ => ⟨_, rfl, fun w => by kernel_rfl⟩
  | 7, _ => ⟨_, rfl, fun w => by kernel_rfl⟩
  | 8, _ => ⟨_, rfl, fun w => by kernel_rfl⟩
  | 9, _ => ⟨_, rfl, fun w => by kernel_rfl⟩
  | k + 10, h => by omega
set_option maxHeartbeats 2000000 in
set_option maxRecDepth 100000 in
theorem encode_ok (E : Env) (q : HP) (a : Anch) (w : World) (hw : Sat E w q) :
    Calls Tryz.prog 50 #[.agg #[.int .i64 a.seq, .int .i64 a.gen, .int .i64 a.lsn, .int .i64 a.seg, .int .i64 a.ext, .int .i64 a.flo, .int .i64 a.new, .int .i64 a.keep, .int .i64 a.next, .int .i64 a.cur]] w (encEnd E q a) := by
  have H1 := Aside.mk (hw.alloc (.cells #[.int .i64 a.seq, .int .i64 a.gen, .int .i64 a.lsn, .int .i64 a.seg, .int .i64 a.ext, .int .i64 a.flo, .int .i64 a.new, .int .i64 a.keep, .int .i64 a.next, .int .i64 a.cur] 29))
  clear hw
  go_enter Tryz.func50, Tryz.ntmps50
  go_wp2_with fail
  refine (can_ok E _ a _ H1.out).mono ?_
  rintro e w1 ⟨rfl, h2⟩
  have H2 := Aside.mk h2
  clear h2 H1
  obtain ⟨cb, hcb⟩ : ∃ cb, cb = canA a := ⟨_, rfl⟩
  rw [← hcb]
  have HC := Aside.mk hcb
  clear hcb
  cases cb with
  | false =>
    go_wp2
    go_ret2
    exact encEnd_no HC.out.symm rfl H2.out.right
  | true =>
    have k0 := H2.out.cell 0
    have k1 := H2.out.cell 1
    have k2 := H2.out.cell 2
    have k3 := H2.out.cell 3
    have k4 := H2.out.cell 4
    have k5 := H2.out.cell 5
    have k6 := H2.out.cell 6
    have k7 := H2.out.cell 7
    have k8 := H2.out.cell 8
    have k9 := H2.out.cell 9
    simp only [List.getElem?_toArray, List.getElem?_cons_zero, List.getElem?_cons_succ] at k0 k1 k2 k3 k4 k5 k6 k7 k8 k9
    have H3 := Aside.mk ((H2.out.right.alloc (.cells #[.int .i64 a.seq, .int .i64 a.gen, .int .i64 a.lsn, .int .i64 a.seg, .int .i64 a.ext, .int .i64 a.flo, .int .i64 a.new, .int .i64 a.keep, .int .i64 a.next, .int .i64 a.cur] 167)).right.row_nil 5 1 none)
    have HIX := Aside.mk (index_anch a)
    go_wp2
    go_loopw [5, 33] (fun v5 v33 wr => ∃ k : Nat, k ≤ 10 ∧ v33 = .int .i64 k ∧ Aside (Sat E wr (HP.row 5 1 v5 (8 * k) (b8s (encI (a.l.take k))) * q))) (fun _ i _ => 10 - (intOf i).toNat)
    case atStart => exact ⟨0, by omega, rfl, H3⟩
    case round =>
      obtain ⟨k, hk, rfl, HS⟩ := hrel
      clear k0 k1 k2 k3 k4 k5 k6 k7 k8 k9 H3 H2
      by_cases hlt : k < 10
      · obtain ⟨x, hx, ix⟩ := HIX.out k hlt
        have HX := Aside.mk (encI_take hx)
        have hlt2 : (k : Int) < 10 := by omega
        have hwr := n64_wrap x
        have HN := Aside.mk (n64_lt x)
        obtain ⟨m, hm⟩ : ∃ m, m = n64 x := ⟨_, rfl⟩
        rw [← hm] at hwr HX HN
        clear hm hx
        go_wp2_with fail
        refine (crc_put E _ m 8 _ (by omega) HN.out HS.out).mono ?_
        rintro e w4 ⟨g, rfl, h4⟩
        have h5 := h4.s2
        obtain ⟨ol, hol⟩ : ∃ ol, ol = 8 * k := ⟨_, rfl⟩
        rw [← hol] at h5
        have ho : ol ≤ 80 := by omega
        have H5 := Aside.mk (And.intro h5 (And.intro h4.row_cells (show (b8s (putI m 8)).length = 8 * 1 by rw [b8s_length, putI_length])))
        have HO := Aside.mk hol
        clear h4 h5 hol
        go_wp2_with (at_builtin; refine wpList_append_row slB8 rfl rfl (by rfl) (by rfl) H5.out.1 H5.out.2.1 H5.out.2.2 (b8s_one _) (by unfold maxLen; omega) (by omega) (fun v5 w5 hw5 => ?_); obtain ⟨A5, c5, rfl, -, -⟩ := hw5.row_slice; have HW5 := Aside.mk hw5; clear hw5)
        have H6 : Aside (Sat E w5 (HP.row 5 1 (.slice A5 (ol + 8) c5) (8 * (k + 1)) (b8s (encI (a.l.take (k + 1)))) * q)) := ⟨by
          rw [HX.out, b8s_append, show 8 * (k + 1) = ol + 8 by have := HO.out; omega]
          exact HW5.out.drop2⟩
        clear HW5 H5
        go_wp2
        go_roundw
        case rel => exact ⟨k + 1, by omega, by push_cast; rfl, H6⟩
        case measure => simp [intOf]; omega
      · obtain rfl : k = 10 := by omega
        have H7 : Aside (Sat E wr (HP.row 5 1 u5 80 (b8s (encI a.l)) * q)) := ⟨HS.out⟩
        clear HS
        go_wp2
        go_ret2
        exact encEnd_yes HC.out.symm rfl H7.out
end Go.Proofs.YtmjnnbnbdcadbaaGreatDoor
/- anchor.Decode. -/
namespace Go.Proofs.YtmjnnbnbdcadbaaGreatDoor
open Go.RowKit HP
set_option linter.unusedSimpArgs false
set_option linter.unusedVariables false

theorem results_cellTmp {P : Program} {fn : Func} {t u : Tmp} {ty : TypeId} (h : fn.results = #[.cell t ty, .tmp u]) {tmps : Array Value} {w : World} {a : Addr} {V : Value} (ha : tmps.getD t undef = .pointer (some a)) (hr : (loadVar ty a).run P w = .ok V w) : (results fn tmps).run P w = .ok (.tuple #[V, tmps.getD u undef]) w := by
  have ha' : tmps[t]?.getD undef = .pointer (some a) := by simpa using ha
  unfold results
  rw [h]
  simp [ha', asAddr, hr]
theorem agAnch : AgTy Tryz.prog 29 10 := ⟨⟨_, Tryz.underlying29, rfl⟩, by kernel_rfl⟩
def decN (b : List Int) (k : Nat) : Int := wrap64 (getN ((b.drop (8 * k)).take 8) : Int)
def decA (b : List Int) : Anch := ⟨decN b 0, decN b 1, decN b 2, decN b 3, decN b 4, decN b 5, decN b 6, decN b 7, decN b 8, decN b 9⟩
set_option maxHeartbeats 1000000 in
set_option maxRecDepth 100000 in
theorem of_ok (k : Nat) (hk : k < 10) (bl : Nat) (g o : Nat) (b : List Int) (n c : Nat) (w : World) (hn : n = 80) (hln : b.length = n) (hnc : n ≤ c) (hcm : c ≤ maxLen) (hb : Bytes b) (hs : w.cell? ⟨bl, 0, none⟩ = some (.slice (some ⟨g, o, none⟩) n c)) (hc : Cells w (some ⟨g, o, none⟩) (b8s b)) :
    Calls Tryz.prog 138 #[.int .i64 k, .pointer (some ⟨bl, 0, none⟩)] w fun e w' => e = .returned (.int .i64 (decN b k)) ∧ w' = w := by
  obtain ⟨j, hj⟩ : ∃ j, j = 8 * k := ⟨_, rfl⟩
  have h8 : (8 : Int) * (k : Int) = (j : Int) := by omega
  have hjn : j + 8 ≤ 80 := by omega
  have c2 : Cells w (some ⟨g, o + j, none⟩) (b8s ((b.drop j).take 8)) := by
    have := (hc.drop j).take 8
    rw [addr_add] at this
    unfold b8s at this ⊢
    rw [List.map_take, List.map_drop]
    exact this
  have l2 : ((b.drop j).take 8).length = 8 := by rw [List.length_take, List.length_drop]; omega
  have b2 : Bytes ((b.drop j).take 8) := fun y hy => hb y (List.mem_of_mem_drop (List.mem_of_mem_take hy))
  have HD : Aside (decN b k = wrap64 (getN ((b.drop j).take 8) : Int)) := ⟨by unfold decN; rw [hj]⟩
  have H2 := Aside.mk (And.intro c2 (And.intro l2 b2))
  subst hn
  clear c2 l2 b2 hc hb hln hj
  go_enter Tryz.func138, Tryz.ntmps138
  go_wp2_with fail
  refine (crc_get (some ⟨g, o + j, none⟩) ((b.drop j).take 8) 8 _ w H2.out.2.1 (by omega) (by omega) H2.out.2.2 H2.out.1).mono ?_
  rintro e w1 ⟨rfl, hw1⟩
  subst w1
  go_wp2
  go_ret
  rw [HD.out]
  exact ⟨rfl, rfl⟩
def Anch.val (a : Anch) : Value := .agg (i8s a.l).toArray
def zeroA : Anch := ⟨0, 0, 0, 0, 0, 0, 0, 0, 0, 0⟩
def decP (b : List Int) : Anch × Int := if b.length = 80 ∧ canA (decA b) = true then (decA b, 0) else (zeroA, 5)
theorem decP_long {b : List Int} (h : ¬ b.length = 80) : decP b = (zeroA, 5) := by
  unfold decP
  rw [if_neg (fun h2 => h h2.1)]
set_option maxHeartbeats 2000000 in
set_option maxRecDepth 100000 in
theorem decode_ok (E : Env) (q : HP) (A : Option Addr) (b : List Int) (n c : Nat) (w : World) (hln : b.length = n) (hnc : n ≤ c) (hcm : c ≤ maxLen) (hb : Bytes b) (hq : ∀ w, Sat E w q → Cells w A (b8s b)) (hw : Sat E w q) :
    Calls Tryz.prog 77 #[.slice A n c] w fun e w' => e = .returned (.tuple #[(decP b).1.val, .int .i64 (decP b).2]) ∧ Sat E w' q := by
  have h1 := (hw.alloc (.cells #[.slice A n c] 34)).alloc (.cells #[.int .i64 0, .int .i64 0, .int .i64 0, .int .i64 0, .int .i64 0, .int .i64 0, .int .i64 0, .int .i64 0, .int .i64 0, .int .i64 0] 29)
  have hz : (w.alloc (.cells #[.slice A n c] 34)).heap.size = w.heap.size + 1 := by simp
  rw [hz] at h1
  by_cases h80 : n = 80
  · subst h80
    have HC : Aside (decP b = if canA (decA b) = true then (decA b, 0) else (zeroA, 5)) := ⟨by
      unfold decP
      by_cases hc : canA (decA b) = true
      · rw [if_pos ⟨hln, hc⟩, if_pos hc]
      · rw [if_neg (fun h => hc h.2), if_neg hc]⟩
    have hcw := hq _ h1.right.right
    obtain ⟨a0, rfl, -⟩ := hcw.at_ 0 (by rw [b8s_length, hln]; decide)
    obtain ⟨g, o, rfl⟩ := slice_addr hcw rfl (k := 0) (by rw [b8s_length, hln]; decide)
    have HQ := Aside.mk (And.intro hln (And.intro hb (And.intro h1.right.cell1 hcw)))
    have h2 := h1.alloc (.cells #[.int .i64 (decN b 0), .int .i64 (decN b 1), .int .i64 (decN b 2), .int .i64 (decN b 3), .int .i64 (decN b 4), .int .i64 (decN b 5), .int .i64 (decN b 6), .int .i64 (decN b 7), .int .i64 (decN b 8), .int .i64 (decN b 9)] 29)
    have hz2 : ((w.alloc (.cells #[.slice (some ⟨g, o, none⟩) 80 c] 34)).alloc (.cells #[.int .i64 0, .int .i64 0, .int .i64 0, .int .i64 0, .int .i64 0, .int .i64 0, .int .i64 0, .int .i64 0, .int .i64 0, .int .i64 0] 29)).heap.size = w.heap.size + 1 + 1 := by simp
    rw [hz2] at h2
    have H2 := Aside.mk h2
    clear hw h1 hz hq hb hln hcw h2 hz2
    go_enter Tryz.func77, Tryz.ntmps77
    go_wp2_with fail
    refine (of_ok 0 (by omega) w.heap.size g o b 80 c _ rfl HQ.out.1 hnc hcm HQ.out.2.1 HQ.out.2.2.1 HQ.out.2.2.2).mono ?_
    rintro e w1 ⟨rfl, hw1⟩
    subst w1
    go_wp2_with fail
    refine (of_ok 1 (by omega) w.heap.size g o b 80 c _ rfl HQ.out.1 hnc hcm HQ.out.2.1 HQ.out.2.2.1 HQ.out.2.2.2).mono ?_
    rintro e w1 ⟨rfl, hw1⟩
    subst w1
    go_wp2_with fail
    refine (of_ok 2 (by omega) w.heap.size g o b 80 c _ rfl HQ.out.1 hnc hcm HQ.out.2.1 HQ.out.2.2.1 HQ.out.2.2.2).mono ?_
    rintro e w1 ⟨rfl, hw1⟩
    subst w1
    go_wp2_with fail
    refine (of_ok 3 (by omega) w.heap.size g o b 80 c _ rfl HQ.out.1 hnc hcm HQ.out.2.1 HQ.out.2.2.1 HQ.out.2.2.2).mono ?_
    rintro e w1 ⟨rfl, hw1⟩
    subst w1
    go_wp2_with fail
    refine (of_ok 4 (by omega) w.heap.size g o b 80 c _ rfl HQ.out.1 hnc hcm HQ.out.2.1 HQ.out.2.2.1 HQ.out.2.2.2).mono ?_
    rintro e w1 ⟨rfl, hw1⟩
    subst w1
    go_wp2_with fail
    refine (of_ok 5 (by omega) w.heap.size g o b 80 c _ rfl HQ.out.1 hnc hcm HQ.out.2.1 HQ.out.2.2.1 HQ.out.2.2.2).mono ?_
    rintro e w1 ⟨rfl, hw1⟩
    subst w1
    go_wp2_with fail
    refine (of_ok 6 (by omega) w.heap.size g o b 80 c _ rfl HQ.out.1 hnc hcm HQ.out.2.1 HQ.out.2.2.1 HQ.out.2.2.2).mono ?_
    rintro e w1 ⟨rfl, hw1⟩
    subst w1
    go_wp2_with fail
    refine (of_ok 7 (by omega) w.heap.size g o b 80 c _ rfl HQ.out.1 hnc hcm HQ.out.2.1 HQ.out.2.2.1 HQ.out.2.2.2).mono ?_
    rintro e w1 ⟨rfl, hw1⟩
    subst w1
    go_wp2_with fail
    refine (of_ok 8 (by omega) w.heap.size g o b 80 c _ rfl HQ.out.1 hnc hcm HQ.out.2.1 HQ.out.2.2.1 HQ.out.2.2.2).mono ?_
    rintro e w1 ⟨rfl, hw1⟩
    subst w1
    go_wp2_with fail
    refine (of_ok 9 (by omega) w.heap.size g o b 80 c _ rfl HQ.out.1 hnc hcm HQ.out.2.1 HQ.out.2.2.1 HQ.out.2.2.2).mono ?_
    rintro e w1 ⟨rfl, hw1⟩
    subst w1
    go_wp2_with fail
    refine (can_ok E _ (decA b) _ H2.out).mono ?_
    rintro e w2 ⟨rfl, h3⟩
    have H3 := Aside.mk h3
    clear h3 H2 HQ
    obtain ⟨cb, hcb⟩ : ∃ cb, cb = canA (decA b) := ⟨_, rfl⟩
    rw [← hcb] at HC ⊢
    clear hcb
    cases cb with
    | false =>
      rw [if_neg (by decide)] at HC
      have r2 : (storeVar 29 ⟨w.heap.size + 1, 0, none⟩ (.agg (i8s zeroA.l).toArray)).run Tryz.prog w2 = .ok () (w2.setRow (w.heap.size + 1) (i8s zeroA.l).toArray) := run_storeAgg agAnch (g := w.heap.size + 1) (off := 0) (cs := i8s zeroA.l) H3.out.s2.get rfl (by decide) rfl
      have h4 := H3.out.s2.splice (i8s zeroA.l)
      have H4 := Aside.mk h4
      clear h4
      generalize World.setRow w2 _ _ = w4 at *
      go_wp2_with (refine wpList_store_run rfl rfl rfl rfl rfl r2 ?_)
      go_wp2
      refine bodyPost_ret (results_cellTmp rfl rfl (run_loadAgg agAnch (cs := i8s zeroA.l) rfl (Sat.ptCells (off := 0) H4.out rfl))) rfl ?_
      rw [HC.out]
      exact ⟨rfl, H4.out.right.right.right⟩
    | true =>
      rw [if_pos rfl] at HC
      have r1 : (loadVar 29 ⟨w.heap.size + 1 + 1, 0, none⟩).run Tryz.prog w2 = .ok (.agg (i8s (decA b).l).toArray) w2 := run_loadAgg agAnch (cs := i8s (decA b).l) rfl (Sat.ptCells (off := 0) H3.out rfl)
      have r2 : (storeVar 29 ⟨w.heap.size + 1, 0, none⟩ (.agg (i8s (decA b).l).toArray)).run Tryz.prog w2 = .ok () (w2.setRow (w.heap.size + 1) (i8s (decA b).l).toArray) := run_storeAgg agAnch (g := w.heap.size + 1) (off := 0) (cs := i8s (decA b).l) H3.out.s2.get rfl (by show 0 + 10 ≤ 10; omega) rfl
      have h4 := H3.out.s2.splice (i8s (decA b).l)
      have H4 := Aside.mk h4
      clear h4
      generalize World.setRow w2 _ _ = w4 at *
      go_wp2_with (first | (refine wpList_load_run rfl rfl rfl r1 ?_) | (refine wpList_store_run rfl rfl rfl rfl rfl r2 ?_))
      go_wp2
      refine bodyPost_ret (results_cellTmp rfl rfl (run_loadAgg agAnch (cs := i8s (decA b).l) rfl (Sat.ptCells (off := 0) H4.out rfl))) rfl ?_
      rw [HC.out]
      exact ⟨rfl, H4.out.right.right.right⟩
  · have HP := Aside.mk (decP_long (b := b) (by omega))
    have H1 := Aside.mk h1
    have h80b : ((n : Int) == 80) = false := by rw [beq_eq_false_iff_ne]; omega
    have h80c : ¬ (n : Int) = 80 := by omega
    clear hw h1 hz hq hb hln
    go_enter Tryz.func77, Tryz.ntmps77
    go_wp2
    refine bodyPost_ret (results_cellTmp rfl rfl (run_loadAgg agAnch (cs := i8s zeroA.l) rfl (Sat.ptCells (off := 0) H1.out rfl))) rfl ?_
    rw [HP.out]
    exact ⟨rfl, H1.out.right.right⟩
end Go.Proofs.YtmjnnbnbdcadbaaGreatDoor
/- anchor.Fresh, Save, Load. -/
namespace Go.Proofs.YtmjnnbnbdcadbaaGreatDoor
open Go.RowKit HP
set_option linter.unusedSimpArgs false
set_option linter.unusedVariables false

def freshA : Anch := ⟨0, 1, 0, 1, 0, -9223372036854775808, -9223372036854775808, 0, 1, 0⟩
set_option maxHeartbeats 1000000 in
set_option maxRecDepth 100000 in
theorem fresh_ok (E : Env) (q : HP) (w : World) (hw : Sat E w q) :
    Calls Tryz.prog 79 #[] w fun e w' => e = .returned freshA.val ∧ Sat E w' q := by
  have H1 := Aside.mk (hw.alloc (.cells #[.int .i64 0, .int .i64 1, .int .i64 0, .int .i64 1, .int .i64 0, .int .i64 (-9223372036854775808), .int .i64 (-9223372036854775808), .int .i64 0, .int .i64 1, .int .i64 0] 29))
  clear hw
  go_enter Tryz.func79, Tryz.ntmps79
  go_wp2
  refine bodyPost_ret (results_cell (t := 0) rfl rfl (run_loadAgg agAnch (cs := i8s freshA.l) rfl (Sat.ptCells (off := 0) H1.out rfl))) rfl ?_
  exact ⟨rfl, H1.out.right⟩
def nameA : ByteArray := ⟨#[97, 110, 99, 104, 111, 114]⟩
def Anch.up (a : Anch) : Anch := { a with seq := a.seq + 1 }
def saveP (A : Dk) (a : Anch) : (Anch × Int) × Dk :=
  if btw 0 [a.seq] = true ∧ canA a.up = true then
    (if (putP A nameA 0 a.up.seq (encI a.up.l)).1 = 0 then (a.up, 0) else (zeroA, (putP A nameA 0 a.up.seq (encI a.up.l)).1), (putP A nameA 0 a.up.seq (encI a.up.l)).2)
  else ((zeroA, 1), A)
def loadA (A : Dk) : Anch × Int :=
  if 0 ≤ (getP A nameA 0).1 ∧ (decP (getP A nameA 0).2).2 = 0 ∧ (decP (getP A nameA 0).2).1.seq = (getP A nameA 0).1 then ((decP (getP A nameA 0).2).1, 0) else (zeroA, 170)
theorem openI_bytes {b : List Int} {f : ByteArray} {i : Int} {p : List Int} {g : Nat} (h : openI b f i = some (p, g)) (hb : Bytes b) : Bytes p := by
  unfold openI at h
  split at h
  · cases h
  · split at h
    · cases h
    · split at h
      · cases h
      · simp only [Option.some.injEq, Prod.mk.injEq] at h
        rw [← h.1]
        exact fun y hy => hb y (List.mem_of_mem_drop (List.mem_of_mem_take hy))
theorem getF_bytes {A : Dk} {i : Int} {st : Int × List Int} {f : ByteArray} (hs : Bytes st.2) (hb : ∀ c, A.cel f i = some c → Bytes c.read) : Bytes (getF A i st f).2 := by
  unfold getF
  cases hc : A.cel f i with
  | none => exact hs
  | some c =>
    dsimp only
    cases ho : openI c.read f i with
    | none => exact hs
    | some x =>
      dsimp only
      split
      · exact hs
      · exact openI_bytes (p := x.1) (g := x.2) ho (hb c hc)
theorem getP_bytes {A : Dk} {name : ByteArray} {i : Int} (hb : ∀ f ∈ halvesL name, ∀ c, A.cel f i = some c → Bytes c.read) : Bytes (getP A name i).2 := by
  unfold getP halvesL
  exact getF_bytes (getF_bytes (fun x hx => by cases hx) (hb _ (List.mem_cons_self ..))) (hb _ (List.mem_cons_of_mem _ (List.mem_cons_self ..)))
set_option maxHeartbeats 2000000 in
set_option maxRecDepth 100000 in
theorem anchor_load (E : Env) (q : HP) (d : Nat) (A : Dk) (w : World) (hby : ∀ f ∈ halvesL nameA, ∀ c, A.cel f 0 = some c → Bytes c.read) (hq : ∀ w, Sat E w q → Quarter w) (hw : Sat E w (HP.disk d A * q)) :
    Calls Tryz.prog 12 #[.pointer (some ⟨d, 0, none⟩)] w fun e w' => e = .returned (.tuple #[(loadA A).1.val, .int .i64 (loadA A).2]) ∧ Sat E w' (HP.disk d A * q) := by
  have h1 := hw.alloc (.cells #[.int .i64 0, .int .i64 0, .int .i64 0, .int .i64 0, .int .i64 0, .int .i64 0, .int .i64 0, .int .i64 0, .int .i64 0, .int .i64 0] 29)
  have H1 : Aside (Sat E (w.alloc (.cells #[.int .i64 0, .int .i64 0, .int .i64 0, .int .i64 0, .int .i64 0, .int .i64 0, .int .i64 0, .int .i64 0, .int .i64 0, .int .i64 0] 29)) (HP.disk d A * (HP.pt w.heap.size (.cells #[.int .i64 0, .int .i64 0, .int .i64 0, .int .i64 0, .int .i64 0, .int .i64 0, .int .i64 0, .int .i64 0, .int .i64 0, .int .i64 0] 29) * q))) := ⟨h1.perm (by ac_rfl)⟩
  have HQ := Aside.mk (And.intro hq hby)
  have hx : nameA.size + 2 ≤ maxLen := by show 8 ≤ maxLen; unfold maxLen; omega
  have HX := Aside.mk hx
  have HL : Aside (loadA A = if 0 ≤ (getP A nameA 0).1 ∧ (decP (getP A nameA 0).2).2 = 0 ∧ (decP (getP A nameA 0).2).1.seq = (getP A nameA 0).1 then ((decP (getP A nameA 0).2).1, 0) else (zeroA, 170)) := ⟨rfl⟩
  clear hq hby hw h1 hx
  go_enter Tryz.func12, Tryz.ntmps12
  go_wp2_with fail
  refine (pair_get E _ d A nameA 0 _ HX.out HQ.out.2 (fun w h => HQ.out.1 w h.right) H1.out).mono ?_
  rintro e w1 ⟨v, rfl, h2⟩
  obtain ⟨⟨best, p⟩, hst⟩ : ∃ st, st = getP A nameA 0 := ⟨_, rfl⟩
  have hpb := getP_bytes HQ.out.2
  rw [← hst] at h2 HL hpb ⊢
  clear hst
  dsimp only at h2 HL hpb
  unfold getEnd
  dsimp only
  by_cases hneg : best < 0
  · rw [if_pos hneg]
    have HX2 : Aside (loadA A = (zeroA, 170)) := ⟨by rw [HL.out, if_neg (by omega)]⟩
    have H2 := Aside.mk h2.right
    clear h2 HL
    go_wp2_with fail
    refine (decode_ok E _ none [] 0 0 _ rfl (by omega) (by unfold maxLen; omega) (fun x hx => by cases hx) (fun w h => Cells.nil _ _) H2.out).mono ?_
    rintro e w2 ⟨rfl, h3⟩
    rw [show decP [] = (zeroA, 5) from rfl]
    dsimp only
    rw [show zeroA.val = .agg #[.int .i64 0, .int .i64 0, .int .i64 0, .int .i64 0, .int .i64 0, .int .i64 0, .int .i64 0, .int .i64 0, .int .i64 0, .int .i64 0] from rfl]
    have H4 : Aside (Sat E (w2.alloc (.cells #[.int .i64 0, .int .i64 0, .int .i64 0, .int .i64 0, .int .i64 0, .int .i64 0, .int .i64 0, .int .i64 0, .int .i64 0, .int .i64 0] 29)) (HP.pt w.heap.size (.cells #[.int .i64 0, .int .i64 0, .int .i64 0, .int .i64 0, .int .i64 0, .int .i64 0, .int .i64 0, .int .i64 0, .int .i64 0, .int .i64 0] 29) * (HP.disk d A * q))) := ⟨(h3.alloc (.cells #[.int .i64 0, .int .i64 0, .int .i64 0, .int .i64 0, .int .i64 0, .int .i64 0, .int .i64 0, .int .i64 0, .int .i64 0, .int .i64 0] 29)).right.perm (by ac_rfl)⟩
    clear h3 H2
    have r2 : (storeVar 29 ⟨w.heap.size, 0, none⟩ (.agg (i8s zeroA.l).toArray)).run Tryz.prog (w2.alloc (.cells #[.int .i64 0, .int .i64 0, .int .i64 0, .int .i64 0, .int .i64 0, .int .i64 0, .int .i64 0, .int .i64 0, .int .i64 0, .int .i64 0] 29)) = .ok () ((w2.alloc (.cells #[.int .i64 0, .int .i64 0, .int .i64 0, .int .i64 0, .int .i64 0, .int .i64 0, .int .i64 0, .int .i64 0, .int .i64 0, .int .i64 0] 29)).setRow w.heap.size (i8s zeroA.l).toArray) := run_storeAgg agAnch (g := w.heap.size) (off := 0) (cs := i8s zeroA.l) H4.out.get rfl (by show 0 + 10 ≤ 10; omega) rfl
    have h5 := H4.out.splice (i8s zeroA.l)
    have H5 := Aside.mk h5
    clear h5 H4
    generalize World.setRow (w2.alloc _) _ _ = w5 at *
    go_wp2_with (refine wpList_store_run rfl rfl rfl rfl rfl r2 ?_)
    go_wp2
    refine bodyPost_ret (results_cellTmp rfl rfl (run_loadAgg agAnch (cs := i8s zeroA.l) rfl (Sat.ptCells (off := 0) H5.out rfl))) rfl ?_
    rw [HX2.out]
    exact ⟨rfl, H5.out.right⟩
  · rw [if_neg hneg]
    obtain ⟨Av, cv, rfl, hcv, hcm⟩ := h2.row_slice
    have H2 := Aside.mk h2
    have HPB := Aside.mk hpb
    clear hpb
    obtain ⟨⟨a, c⟩, hac⟩ : ∃ r, r = decP p := ⟨_, rfl⟩
    rw [← hac] at HL
    have HD := Aside.mk hac.symm
    clear h2 hac
    go_wp2_with fail
    refine (decode_ok E _ Av p p.length cv _ rfl hcv hcm HPB.out (fun w h => h.row_cells) H2.out).mono ?_
    rintro e w2 ⟨rfl, h3⟩
    rw [HD.out]
    dsimp only
    rw [show a.val = .agg #[.int .i64 a.seq, .int .i64 a.gen, .int .i64 a.lsn, .int .i64 a.seg, .int .i64 a.ext, .int .i64 a.flo, .int .i64 a.new, .int .i64 a.keep, .int .i64 a.next, .int .i64 a.cur] from rfl]
    have H4 : Aside (Sat E (w2.alloc (.cells #[.int .i64 a.seq, .int .i64 a.gen, .int .i64 a.lsn, .int .i64 a.seg, .int .i64 a.ext, .int .i64 a.flo, .int .i64 a.new, .int .i64 a.keep, .int .i64 a.next, .int .i64 a.cur] 29)) (HP.pt w.heap.size (.cells #[.int .i64 0, .int .i64 0, .int .i64 0, .int .i64 0, .int .i64 0, .int .i64 0, .int .i64 0, .int .i64 0, .int .i64 0, .int .i64 0] 29) * (HP.disk d A * q))) := ⟨(h3.alloc (.cells #[.int .i64 a.seq, .int .i64 a.gen, .int .i64 a.lsn, .int .i64 a.seg, .int .i64 a.ext, .int .i64 a.flo, .int .i64 a.new, .int .i64 a.keep, .int .i64 a.next, .int .i64 a.cur] 29)).right.right.perm (by ac_rfl)⟩
    clear h3 H2 HD HPB
    by_cases hc : c = 0
    · subst hc
      by_cases hs : a.seq = best
      · subst hs
        have HX2 : Aside (loadA A = (a, 0)) := ⟨by rw [HL.out, if_pos ⟨by omega, rfl, rfl⟩]⟩
        clear HL
        have r2 : (storeVar 29 ⟨w.heap.size, 0, none⟩ (.agg (i8s a.l).toArray)).run Tryz.prog (w2.alloc (.cells #[.int .i64 a.seq, .int .i64 a.gen, .int .i64 a.lsn, .int .i64 a.seg, .int .i64 a.ext, .int .i64 a.flo, .int .i64 a.new, .int .i64 a.keep, .int .i64 a.next, .int .i64 a.cur] 29)) = .ok () ((w2.alloc (.cells #[.int .i64 a.seq, .int .i64 a.gen, .int .i64 a.lsn, .int .i64 a.seg, .int .i64 a.ext, .int .i64 a.flo, .int .i64 a.new, .int .i64 a.keep, .int .i64 a.next, .int .i64 a.cur] 29)).setRow w.heap.size (i8s a.l).toArray) := run_storeAgg agAnch (g := w.heap.size) (off := 0) (cs := i8s a.l) H4.out.get rfl (by show 0 + 10 ≤ 10; omega) rfl
        have h5 := H4.out.splice (i8s a.l)
        have H5 := Aside.mk h5
        clear h5 H4
        generalize World.setRow (w2.alloc _) _ _ = w5 at *
        go_wp2_with (refine wpList_store_run rfl rfl rfl rfl rfl r2 ?_)
        go_wp2
        refine bodyPost_ret (results_cellTmp rfl rfl (run_loadAgg agAnch (cs := i8s a.l) rfl (Sat.ptCells (off := 0) H5.out rfl))) rfl ?_
        rw [HX2.out]
        exact ⟨rfl, H5.out.right⟩
      · have HX2 : Aside (loadA A = (zeroA, 170)) := ⟨by rw [HL.out, if_neg (fun h => hs h.2.2)]⟩
        have hsb : (a.seq == best) = false := by rw [beq_eq_false_iff_ne]; exact hs
        clear HL
        have r2 : (storeVar 29 ⟨w.heap.size, 0, none⟩ (.agg (i8s zeroA.l).toArray)).run Tryz.prog (w2.alloc (.cells #[.int .i64 a.seq, .int .i64 a.gen, .int .i64 a.lsn, .int .i64 a.seg, .int .i64 a.ext, .int .i64 a.flo, .int .i64 a.new, .int .i64 a.keep, .int .i64 a.next, .int .i64 a.cur] 29)) = .ok () ((w2.alloc (.cells #[.int .i64 a.seq, .int .i64 a.gen, .int .i64 a.lsn, .int .i64 a.seg, .int .i64 a.ext, .int .i64 a.flo, .int .i64 a.new, .int .i64 a.keep, .int .i64 a.next, .int .i64 a.cur] 29)).setRow w.heap.size (i8s zeroA.l).toArray) := run_storeAgg agAnch (g := w.heap.size) (off := 0) (cs := i8s zeroA.l) H4.out.get rfl (by show 0 + 10 ≤ 10; omega) rfl
        have h5 := H4.out.splice (i8s zeroA.l)
        have H5 := Aside.mk h5
        clear h5 H4
        generalize World.setRow (w2.alloc _) _ _ = w5 at *
        go_wp2_with (refine wpList_store_run rfl rfl rfl rfl rfl r2 ?_)
        go_wp2
        refine bodyPost_ret (results_cellTmp rfl rfl (run_loadAgg agAnch (cs := i8s zeroA.l) rfl (Sat.ptCells (off := 0) H5.out rfl))) rfl ?_
        rw [HX2.out]
        exact ⟨rfl, H5.out.right⟩
    · have HX2 : Aside (loadA A = (zeroA, 170)) := ⟨by rw [HL.out, if_neg (fun h => hc h.2.1)]⟩
      have hcb : (c == 0) = false := by rw [beq_eq_false_iff_ne]; exact hc
      clear HL
      have r2 : (storeVar 29 ⟨w.heap.size, 0, none⟩ (.agg (i8s zeroA.l).toArray)).run Tryz.prog (w2.alloc (.cells #[.int .i64 a.seq, .int .i64 a.gen, .int .i64 a.lsn, .int .i64 a.seg, .int .i64 a.ext, .int .i64 a.flo, .int .i64 a.new, .int .i64 a.keep, .int .i64 a.next, .int .i64 a.cur] 29)) = .ok () ((w2.alloc (.cells #[.int .i64 a.seq, .int .i64 a.gen, .int .i64 a.lsn, .int .i64 a.seg, .int .i64 a.ext, .int .i64 a.flo, .int .i64 a.new, .int .i64 a.keep, .int .i64 a.next, .int .i64 a.cur] 29)).setRow w.heap.size (i8s zeroA.l).toArray) := run_storeAgg agAnch (g := w.heap.size) (off := 0) (cs := i8s zeroA.l) H4.out.get rfl (by show 0 + 10 ≤ 10; omega) rfl
      have h5 := H4.out.splice (i8s zeroA.l)
      have H5 := Aside.mk h5
      clear h5 H4
      generalize World.setRow (w2.alloc _) _ _ = w5 at *
      go_wp2_with (refine wpList_store_run rfl rfl rfl rfl rfl r2 ?_)
      go_wp2
      refine bodyPost_ret (results_cellTmp rfl rfl (run_loadAgg agAnch (cs := i8s zeroA.l) rfl (Sat.ptCells (off := 0) H5.out rfl))) rfl ?_
      rw [HX2.out]
      exact ⟨rfl, H5.out.right⟩
end Go.Proofs.YtmjnnbnbdcadbaaGreatDoor
/- What is framed is opened; two extents written and read. -/
namespace Go.Proofs.YtmjnnbnbdcadbaaGreatDoor
open Go.RowKit HP
set_option linter.unusedSimpArgs false
set_option linter.unusedVariables false

theorem extI_parts {f : ByteArray} {i g : Nat} {p : List Int} (h : p.length ≤ 106) :
    (extI f i g p).getD 17 0 = p.length ∧ ((extI f i g p).drop 9).take 8 = putI g 8 ∧ ((extI f i g p).drop 18).take p.length = p := by
  have e : extI f i g p = ([229] ++ putI (crcSum (strB f)) 4 ++ putI i 4) ++ (putI g 8 ++ ((p.length : Int) :: (p ++ (List.replicate (106 - p.length) 0 ++ putI (crcSum (extH f i g p)) 4)))) := by
    unfold extI
    conv => lhs; arg 1; unfold extH
    simp only [List.append_assoc, List.cons_append, List.nil_append]
  have l1 : ([229] ++ putI (crcSum (strB f)) 4 ++ putI i 4 : List Int).length = 9 := by simp [putI_length]
  have d9 : (extI f i g p).drop 9 = putI g 8 ++ ((p.length : Int) :: (p ++ (List.replicate (106 - p.length) 0 ++ putI (crcSum (extH f i g p)) 4))) := by
    rw [e, ← l1, List.drop_left]
  have d17 : (extI f i g p).drop 17 = (p.length : Int) :: (p ++ (List.replicate (106 - p.length) 0 ++ putI (crcSum (extH f i g p)) 4)) := by
    rw [show 17 = 9 + 8 from rfl, ← List.drop_drop, d9, List.drop_left' (putI_length g 8)]
  refine ⟨?_, ?_, ?_⟩
  · have := congrArg (fun l => l[0]?) d17
    simp only [List.getElem?_drop, Nat.add_zero, List.getElem?_cons_zero] at this
    simp [List.getD, this]
  · rw [d9]
    have := putI_length g 8
    rw [List.take_append_of_le_length (by omega), List.take_of_length_le (by omega)]
  · rw [show 18 = 17 + 1 from rfl, ← List.drop_drop, d17, List.drop_one, List.tail_cons, List.take_left]
theorem openI_extI {f : ByteArray} {i g : Nat} {p : List Int} (hi : i ≤ 2147483647) (hg : g ≤ 4611686018427387904) (h : p.length ≤ 106) : openI (extI f i g p) f i = some (p, g) := by
  obtain ⟨h1, h2, h3⟩ := extI_parts (f := f) (i := i) (g := g) h
  unfold openI
  rw [h1, h2, Int.toNat_natCast, Int.toNat_natCast, h3, getN_putI 8 g (by omega)]
  rw [if_neg (by rw [extI_length h]; omega), if_neg (by omega), if_neg (by simp)]

def stl (I : List Int) : Cel := ⟨I, I, I, I, false⟩
theorem stl_sync (c : Cel) (I : List Int) : (c.wrote I).syncd = stl I := rfl
structure TwoNames (fa fb : ByteArray) : Prop where
  na : namedB fa = true
  nb : namedB fb = true
  ne : fa ≠ fb
  lt : ltN fa fb = true
  gt : ltN fb fa = false
def wr1 (A : Dk) (f : ByteArray) (i : Int) (I : List Int) : Int × Dk := if (A.write f i I).1 = 0 then (A.write f i I).2.sync f else A.write f i I
def put2 (A : Dk) (fa fb : ByteArray) (i : Int) (Ia Ib : List Int) : Int × Dk :=
  if (wr1 A fa i Ia).1 = 0 then (if (wr1 (wr1 A fa i Ia).2 fb i Ib).1 = 0 then (0, (wr1 (wr1 A fa i Ia).2 fb i Ib).2) else wr1 (wr1 A fa i Ia).2 fb i Ib) else wr1 A fa i Ia
theorem wrF_one {A : Dk} {f : ByteArray} {i g : Nat} {p : List Int} (hf : FrameOk i g p.length) : wrF A f g i [p] = wr1 A f i (extI f i g p) := by
  unfold wrF wr1
  rw [if_neg (by simpa using hf)]
  rfl
theorem putP_two {A : Dk} {x : ByteArray} {i g : Nat} {p : List Int} (hf : FrameOk i g p.length) : putP A x i g p = put2 A (x ++ dotA) (x ++ dotB) i (extI (x ++ dotA) i g p) (extI (x ++ dotB) i g p) := by
  unfold putP
  rw [if_pos hf, Int.toNat_natCast, Int.toNat_natCast]
  unfold wrP halvesL
  simp only [wrL, wrF_one hf]
  rfl
def two (room fuse : Int) (fa fb : ByteArray) (a b : Cel) : Dk := ⟨room, fuse, [(fa, [a]), (fb, [b])]⟩
section
variable {fa fb : ByteArray} {Ia Ib : List Int} (T : TwoNames fa fb) (la : Ia.length = 128) (lb : Ib.length = 128)
include T la lb
theorem put_first : put2 (Dk.new 4) fa fb 0 Ia Ib = (0, two 4 (-1) fa fb (stl Ia) (stl Ib)) := by
  obtain ⟨na, nb, ne, lt, gt⟩ := T
  have ne' := Ne.symm ne
  simp [put2, wr1, Dk.write, Dk.sync, Dk.new, Dk.at, Dk.free, Dk.goes, Dk.burnt, burnI, Dk.set, lk_nil, lk_cons, putF, sizeF, na, nb, ne, ne', lt, gt, la, lb, stl_sync, two]
theorem put_first2 : put2 (Dk.new 2) fa fb 0 Ia Ib = (0, two 2 (-1) fa fb (stl Ia) (stl Ib)) := by
  obtain ⟨na, nb, ne, lt, gt⟩ := T
  have ne' := Ne.symm ne
  simp [put2, wr1, Dk.write, Dk.sync, Dk.new, Dk.at, Dk.free, Dk.goes, Dk.burnt, burnI, Dk.set, lk_nil, lk_cons, putF, sizeF, na, nb, ne, ne', lt, gt, la, lb, stl_sync, two]
end
theorem cel_a {room fuse : Int} {fa fb : ByteArray} {a b : Cel} : (two room fuse fa fb a b).cel fa 0 = some a := by simp [two, Dk.cel, Dk.at, lk_cons]
theorem cel_b {room fuse : Int} {fa fb : ByteArray} {a b : Cel} (h : fa ≠ fb) : (two room fuse fa fb a b).cel fb 0 = some b := by simp [two, Dk.cel, Dk.at, lk_cons, h]
/-- Of two halves that are right the greater generation counts; of two alike the first. -/
theorem get_two {x : ByteArray} (h : x ++ dotA ≠ x ++ dotB) {room fuse : Int} {ca cb : Cel} {ga gb : Nat} (ha : ga ≤ 4611686018427387904) (hb : gb ≤ 4611686018427387904) {pa pb : List Int} (la : pa.length ≤ 106) (lb : pb.length ≤ 106)
    (ra : ca.read = extI (x ++ dotA) 0 ga pa) (rb : cb.read = extI (x ++ dotB) 0 gb pb) :
    getP (two room fuse (x ++ dotA) (x ++ dotB) ca cb) x 0 = if (gb : Int) ≤ ga then ((ga : Int), pa) else ((gb : Int), pb) := by
  have oa := openI_extI (f := x ++ dotA) (i := 0) (by omega) ha la
  have ob := openI_extI (f := x ++ dotB) (i := 0) (by omega) hb lb
  simp only [Int.ofNat_zero, Int.natCast_zero] at oa ob
  rw [← ra] at oa
  rw [← rb] at ob
  unfold getP halvesL
  simp only [List.foldl_cons, List.foldl_nil]
  rw [show getF _ 0 (-1, []) (x ++ dotA) = ((ga : Int), pa) by simp only [getF, cel_a, oa]; rw [if_neg (by show ¬ (ga : Int) ≤ -1; omega)]]
  simp only [getF, cel_b h, ob]
def exS : ByteArray := ⟨#[120]⟩
theorem twoEx : TwoNames (exS ++ dotA) (exS ++ dotB) := ⟨by kernel_rfl, by kernel_rfl, by decide, by kernel_rfl, by kernel_rfl⟩
end Go.Proofs.YtmjnnbnbdcadbaaGreatDoor
/- anchor, the plain part: what is coded is read; an anchor saved on a new disk is there. -/
namespace Go.Proofs.YtmjnnbnbdcadbaaGreatDoor
open Go.RowKit HP
set_option linter.unusedSimpArgs false
set_option linter.unusedVariables false

theorem encI_piece : ∀ {l : List Int} {k : Nat} {x : Int}, l[k]? = some x → ((encI l).drop (8 * k)).take 8 = putI (n64 x) 8
  | [], k, x, h => by simp at h
  | y :: t, 0, x, h => by
    simp only [List.getElem?_cons_zero, Option.some.injEq] at h
    subst h
    show ((putI (n64 y) 8 ++ encI t).drop 0).take 8 = _
    rw [List.drop_zero, List.take_left' (putI_length _ _)]
  | y :: t, k + 1, x, h => by
    have ih := encI_piece (l := t) (k := k) (x := x) (by simpa using h)
    show ((putI (n64 y) 8 ++ encI t).drop (8 * (k + 1))).take 8 = _
    rw [show 8 * (k + 1) = 8 + 8 * k by omega, ← List.drop_drop, List.drop_left' (putI_length _ _), ih]
theorem decN_encI {l : List Int} {k : Nat} {x : Int} (h : l[k]? = some x) (hx : wf64 x) : decN (encI l) k = x := by
  unfold decN
  rw [encI_piece h, getN_putI 8 _ (n64_lt x)]
  unfold wrap64 n64
  unfold wf64 at hx
  omega
structure Anch.Ok (a : Anch) : Prop where
  seq : wf64 a.seq
  gen : wf64 a.gen
  lsn : wf64 a.lsn
  seg : wf64 a.seg
  ext : wf64 a.ext
  flo : wf64 a.flo
  new : wf64 a.new
  keep : wf64 a.keep
  next : wf64 a.next
  cur : wf64 a.cur
theorem decA_encI {a : Anch} (h : a.Ok) : decA (encI a.l) = a := by
  unfold decA
  rw [decN_encI (l := a.l) (k := 0) rfl h.seq, decN_encI (l := a.l) (k := 1) rfl h.gen, decN_encI (l := a.l) (k := 2) rfl h.lsn, decN_encI (l := a.l) (k := 3) rfl h.seg, decN_encI (l := a.l) (k := 4) rfl h.ext,
    decN_encI (l := a.l) (k := 5) rfl h.flo, decN_encI (l := a.l) (k := 6) rfl h.new, decN_encI (l := a.l) (k := 7) rfl h.keep, decN_encI (l := a.l) (k := 8) rfl h.next, decN_encI (l := a.l) (k := 9) rfl h.cur]
theorem decP_encI {a : Anch} (h : a.Ok) (hc : canA a = true) : decP (encI a.l) = (a, 0) := by
  unfold decP
  rw [decA_encI h, if_pos ⟨by rw [encI_length]; rfl, hc⟩]
theorem can_seq {a : Anch} (h : canA a = true) : 1 ≤ a.seq ∧ a.seq ≤ 4611686018427387904 := by
  unfold canA btw at h
  simp only [List.all_cons, Bool.and_eq_true, nOk] at h
  have := h.1.1
  simp at this
  omega
theorem twoAnch : TwoNames (nameA ++ dotA) (nameA ++ dotB) := ⟨by kernel_rfl, by kernel_rfl, by decide, by kernel_rfl, by kernel_rfl⟩
instance (i : Int) : Decidable (wf64 i) := by unfold wf64; infer_instance
theorem fresh_up_ok : freshA.up.Ok := ⟨by decide, by decide, by decide, by decide, by decide, by decide, by decide, by decide, by decide, by decide⟩
theorem fresh_can : canA freshA.up = true := by decide
structure SavedEnd (B : Dk) : Prop where
  save : saveP (Dk.new 2) freshA = ((freshA.up, 0), B)
  load : loadA B = (freshA.up, 0)
  bytes : ∀ f ∈ halvesL nameA, ∀ c, B.cel f 0 = some c → Bytes c.read
theorem saved_end : ∃ B, SavedEnd B := by
  have hl : (encI freshA.up.l).length = 80 := by rw [encI_length]; rfl
  have f1 : FrameOk ((0 : Nat) : Int) ((1 : Nat) : Int) (encI freshA.up.l).length := ⟨by omega, by omega, by omega, by omega, by rw [hl]; omega⟩
  have p1 : putP (Dk.new 2) nameA 0 1 (encI freshA.up.l) = _ := putP_two (A := Dk.new 2) (x := nameA) f1
  have la : ∀ f, (extI f 0 1 (encI freshA.up.l)).length = 128 := fun f => extI_length (by rw [hl]; omega)
  rw [show ((0 : Nat) : Int) = 0 from rfl, put_first2 twoAnch (la _) (la _)] at p1
  have g1 := get_two (x := nameA) twoAnch.ne (room := 2) (fuse := -1) (ca := stl (extI (nameA ++ dotA) 0 1 (encI freshA.up.l))) (cb := stl (extI (nameA ++ dotB) 0 1 (encI freshA.up.l))) (ga := 1) (gb := 1) (by omega) (by omega) (by rw [hl]; omega) (by rw [hl]; omega) rfl rfl
  rw [if_pos (by omega)] at g1
  refine ⟨two 2 (-1) (nameA ++ dotA) (nameA ++ dotB) (stl (extI (nameA ++ dotA) 0 1 (encI freshA.up.l))) (stl (extI (nameA ++ dotB) 0 1 (encI freshA.up.l))), ⟨?_, ?_, ?_⟩⟩
  · unfold saveP
    rw [if_pos ⟨by decide, fresh_can⟩, show freshA.up.seq = 1 from rfl, p1]
    rfl
  · unfold loadA
    rw [g1]
    dsimp only
    rw [decP_encI fresh_up_ok fresh_can, if_pos ⟨by omega, rfl, rfl⟩]
  · have hb : ∀ f, Bytes (extI f 0 1 (encI freshA.up.l)) := fun f => extI_bytes (by rw [hl]; omega) (encI_bytes _)
    intro f hf c hc
    rcases List.mem_cons.1 hf with rfl | hf
    · rw [cel_a] at hc
      cases hc
      exact hb _
    · rcases List.mem_cons.1 hf with rfl | hf
      · rw [cel_b twoAnch.ne] at hc
        cases hc
        exact hb _
      · cases hf
end Go.Proofs.YtmjnnbnbdcadbaaGreatDoor
/- dryrotref10.Big, Int. -/
namespace Go.Proofs.YtmjnnbnbdcadbaaGreatDoor
open Go.RowKit HP
set_option linter.unusedSimpArgs false
set_option linter.unusedVariables false

set_option maxHeartbeats 1000000 in
set_option maxRecDepth 100000 in
theorem big_ok (E : Env) (q : HP) (n : Int) (w : World) (hw : Sat E w q) :
    Calls Tryz.prog 122 #[.int .i64 n] w fun e w' => ∃ g, e = .returned (.slice (some ⟨g, 0, none⟩) 8 8) ∧ Sat E w' (HP.row 5 1 (.slice (some ⟨g, 0, none⟩) 8 8) 8 (b8s (putI (n64 n) 8)) * q) := by
  have hwr := n64_wrap n
  have HN := Aside.mk (n64_lt n)
  have HW := Aside.mk hw
  obtain ⟨m, hm⟩ : ∃ m, m = n64 n := ⟨_, rfl⟩
  rw [← hm] at hwr HN ⊢
  clear hm hw
  go_enter Tryz.func122, Tryz.ntmps122
  go_wp2_with fail
  refine (ref_put E _ m 8 _ (by omega) HN.out HW.out).mono ?_
  rintro e w4 ⟨g, rfl, h4⟩
  go_wp2
  go_ret
  exact ⟨g, rfl, h4⟩
set_option maxHeartbeats 1000000 in
set_option maxRecDepth 100000 in
theorem refint_ok (E : Env) (q : HP) (g o : Nat) (b : List Int) (n c : Nat) (w : World) (hln : b.length = n) (h8 : 8 ≤ n) (hnc : n ≤ c) (hb : Bytes b) (hq : ∀ w, Sat E w q → Cells w (some ⟨g, o, none⟩) (b8s b)) (hw : Sat E w q) :
    Calls Tryz.prog 101 #[.slice (some ⟨g, o, none⟩) n c, .int .i64 8] w fun e w' => (∃ o', e = .returned (.tuple #[.int .i64 (wrap64 (getN (b.take 8) : Int)), .slice (some ⟨g, o', none⟩) (n - 8) (c - 8), .bool true]) ∧ (8 < n → o' = o + 8)) ∧ Sat E w' q := by
  have c2 : Cells w (some ⟨g, o, none⟩) (b8s (b.take 8)) := by
    have := (hq w hw).take 8
    unfold b8s at this ⊢
    rw [List.map_take]
    exact this
  have l2 : (b.take 8).length = 8 := by rw [List.length_take]; omega
  have b2 : Bytes (b.take 8) := fun y hy => hb y (List.mem_of_mem_take hy)
  have H2 := Aside.mk (And.intro c2 (And.intro l2 (And.intro b2 hw)))
  have h8' : ¬ (n : Int) < 8 := by omega
  have h8c : (8 : Int) ≤ n := by omega
  have h8d : (8 : Int) ≤ c := by omega
  clear c2 l2 b2 hq hw hb hln
  go_enter Tryz.func101, Tryz.ntmps101
  go_wp2_with fail
  refine (ref_get (some ⟨g, o, none⟩) (b.take 8) 8 _ w H2.out.2.1 (by omega) (by omega) H2.out.2.2.1 H2.out.1).mono ?_
  rintro e w1 ⟨rfl, hw1⟩
  subst w1
  go_wp2
  refine region_R [] [] (fun _ => True) #[false, false, false, false, false, false, false, false] (by kernel_rfl) rfl rfl ?_
  refine wpR_rd 0 #[true, false, false, false, false, false, false, false] rfl onlyN_noPanic (by kernel_rfl) (fun K hK => ?_); (go_simp; try go_bits); refine hK _ ?_; clear hK K
  refine wpR_rd 1 #[true, true, false, false, false, false, false, false] rfl onlyN_noPanic (by kernel_rfl) (fun K hK => ?_); (go_simp; try go_bits); refine hK _ ?_; clear hK K
  refine wpR_rd 2 #[true, true, true, false, false, false, false, false] rfl onlyN_noPanic (by kernel_rfl) (fun K hK => ?_); (go_simp; try go_bits); refine hK _ ?_; clear hK K
  refine wpR_rd 3 #[true, true, true, true, false, false, false, false] rfl onlyN_noPanic (by kernel_rfl) (fun K hK => ?_); (go_simp; try go_bits); refine hK _ ?_; clear hK K
  refine wpR_rd 4 #[true, true, true, true, true, false, false, false] rfl onlyN_noPanic (by kernel_rfl) (fun K hK => ?_); (go_simp; try go_bits); refine hK _ ?_; clear hK K
  refine wpR_rd 5 #[true, true, true, true, true, true, false, false] rfl onlyN_noPanic (by kernel_rfl) (fun K hK => ?_); (go_simp; try go_bits); refine hK _ ?_; clear hK K
  refine wpR_rd 6 #[true, true, true, true, true, true, true, false] rfl onlyN_noPanic (by kernel_rfl) (fun K hK => ?_); (go_simp; try go_bits); refine hK _ ?_; clear hK K
  refine wpR_rd 7 #[true, true, true, true, true, true, true, true] rfl onlyN_noPanic (by kernel_rfl) (fun K hK => ?_); (go_simp; try go_bits); refine hK _ ?_; clear hK K
  refine wpR_done (by kernel_rfl) ?_ _
  simp only [OnlyN]
  go_wp2
  all_goals (go_ret3; exact ⟨⟨_, rfl, by omega⟩, H2.out.2.2.2.drew⟩)
end Go.Proofs.YtmjnnbnbdcadbaaGreatDoor
/- dryrotref17.Can. -/
namespace Go.Proofs.YtmjnnbnbdcadbaaGreatDoor
open Go.RowKit HP
set_option linter.unusedSimpArgs false
set_option linter.unusedVariables false

set_option maxHeartbeats 4000000 in
set_option maxRecDepth 100000 in
theorem refcan_ok (E : Env) (q : HP) (a : Anch) (w : World) (hw : Sat E w q) :
    Calls Tryz.prog 121 #[.agg #[.int .i64 a.seq, .int .i64 a.gen, .int .i64 a.lsn, .int .i64 a.seg, .int .i64 a.ext, .int .i64 a.flo, .int .i64 a.new, .int .i64 a.keep, .int .i64 a.next, .int .i64 a.cur]] w fun e w' => e = .returned (.bool (canA a)) ∧ Sat E w' q := by
  have h1 := (hw.alloc (.cells #[.int .i64 a.seq, .int .i64 a.gen, .int .i64 a.lsn, .int .i64 a.seg, .int .i64 a.ext, .int .i64 a.flo, .int .i64 a.new, .int .i64 a.keep, .int .i64 a.next, .int .i64 a.cur] 29))
  have h2 := h1.alloc (.cells (i8s [a.seq, a.gen, a.seg, a.next]).toArray 3)
  have hz : (w.alloc (.cells #[.int .i64 a.seq, .int .i64 a.gen, .int .i64 a.lsn, .int .i64 a.seg, .int .i64 a.ext, .int .i64 a.flo, .int .i64 a.new, .int .i64 a.keep, .int .i64 a.next, .int .i64 a.cur] 29)).heap.size = w.heap.size + 1 := by simp
  rw [hz] at h2
  have H2 := Aside.mk h2
  have HC : Aside (canA a = (btw 1 [a.seq, a.gen, a.seg, a.next] && btw 0 [a.lsn, a.ext, a.keep, a.cur])) := ⟨rfl⟩
  clear hw h1 h2 hz
  go_enter Tryz.func121, Tryz.ntmps121
  go_wp2
  go_loopw [17] (fun v17 wr => ∃ k : Nat, k ≤ 4 ∧ v17 = .int .i64 k ∧ Aside (btw 1 ([a.seq, a.gen, a.seg, a.next].take k) = true) ∧ Aside (Sat E wr (HP.pt (w.heap.size + 1) (.cells (i8s [a.seq, a.gen, a.seg, a.next]).toArray 3) * (HP.pt w.heap.size (.cells #[.int .i64 a.seq, .int .i64 a.gen, .int .i64 a.lsn, .int .i64 a.seg, .int .i64 a.ext, .int .i64 a.flo, .int .i64 a.new, .int .i64 a.keep, .int .i64 a.next, .int .i64 a.cur] 29) * q)))) (fun i _ => 4 - (intOf i).toNat)
  case atStart => exact ⟨0, by omega, rfl, ⟨rfl⟩, H2⟩
  case round =>
    obtain ⟨k, hk, rfl, HB, HS⟩ := hrel
    by_cases hlt : k < 4
    · have hlt2 : (k : Int) < 4 := by omega
      obtain ⟨x, hx⟩ : ∃ x, [a.seq, a.gen, a.seg, a.next][k]? = some x := ⟨_, List.getElem?_eq_getElem (show k < 4 from hlt)⟩
      have gx : wr.cell? ⟨(w.heap.size + 1), k, none⟩ = some (.int .i64 x) := by
        have := (Sat.ptCells (off := 0) (l := i8s [a.seq, a.gen, a.seg, a.next]) HS.out rfl).some_ k (.int .i64 x) (by unfold i8s; rw [List.getElem?_map, hx]; rfl)
        rw [addr_add, Nat.zero_add] at this
        exact this
      have HX := Aside.mk hx
      clear hx
      by_cases h1 : x < 1
      · have HN : Aside (btw 1 [a.seq, a.gen, a.seg, a.next] = false) := ⟨btw_bad HX.out (by unfold nOk; rw [decide_eq_false (by omega)]; rfl)⟩
        go_wp2
        go_ret
        rw [HC.out, HN.out]
        exact ⟨rfl, HS.out.right.right⟩
      · by_cases h2 : 4611686018427387904 < x
        · have HN : Aside (btw 1 [a.seq, a.gen, a.seg, a.next] = false) := ⟨btw_bad HX.out (by unfold nOk; rw [decide_eq_true (by omega), decide_eq_false (by omega)]; rfl)⟩
          go_wp2
          go_ret
          rw [HC.out, HN.out]
          exact ⟨rfl, HS.out.right.right⟩
        · have HN : Aside (btw 1 ([a.seq, a.gen, a.seg, a.next].take (k + 1)) = true) := ⟨by rw [btw_take HX.out, HB.out]; unfold nOk; rw [decide_eq_true (by omega), decide_eq_true (by omega)]; rfl⟩
          go_wp2
          go_roundw
          case rel => exact ⟨k + 1, by omega, by push_cast; rfl, HN, HS⟩
          case measure => simp [intOf]; omega
    · obtain rfl : k = 4 := by omega
      have HN : Aside (btw 1 [a.seq, a.gen, a.seg, a.next] = true) := ⟨HB.out⟩
      have HN1 : Aside (btw 1 [a.seq, a.gen, a.seg, a.next] = true) := HN
      clear HN HB
      have h2 := HS.out.right
      have k0 := h2.cell 2
      have k1 := h2.cell 4
      have k2 := h2.cell 7
      have k3 := h2.cell 9
      simp only [List.getElem?_toArray, List.getElem?_cons_zero, List.getElem?_cons_succ] at k0 k1 k2 k3
      have H3 := Aside.mk (h2.alloc (.cells (i8s [a.lsn, a.ext, a.keep, a.cur]).toArray 3))
      clear h2
      obtain ⟨b2, hb2⟩ : ∃ b, b = wr.heap.size := ⟨_, rfl⟩
      rw [← hb2] at H3
      go_wp2
      rw [← hb2]
      clear hb2 k0 k1 k2 k3
      go_loopw [38] (fun v38 wr => ∃ k : Nat, k ≤ 4 ∧ v38 = .int .i64 k ∧ Aside (btw 0 ([a.lsn, a.ext, a.keep, a.cur].take k) = true) ∧ Aside (Sat E wr (HP.pt b2 (.cells (i8s [a.lsn, a.ext, a.keep, a.cur]).toArray 3) * (HP.pt w.heap.size (.cells #[.int .i64 a.seq, .int .i64 a.gen, .int .i64 a.lsn, .int .i64 a.seg, .int .i64 a.ext, .int .i64 a.flo, .int .i64 a.new, .int .i64 a.keep, .int .i64 a.next, .int .i64 a.cur] 29) * q)))) (fun i _ => 4 - (intOf i).toNat)
      case atStart => exact ⟨0, by omega, rfl, ⟨rfl⟩, H3⟩
      case round =>
        obtain ⟨k, hk, rfl, HB, HS⟩ := hrel
        by_cases hlt : k < 4
        · have hlt2 : (k : Int) < 4 := by omega
          obtain ⟨x, hx⟩ : ∃ x, [a.lsn, a.ext, a.keep, a.cur][k]? = some x := ⟨_, List.getElem?_eq_getElem (show k < 4 from hlt)⟩
          have gx : wr.cell? ⟨b2, k, none⟩ = some (.int .i64 x) := by
            have := (Sat.ptCells (off := 0) (l := i8s [a.lsn, a.ext, a.keep, a.cur]) HS.out rfl).some_ k (.int .i64 x) (by unfold i8s; rw [List.getElem?_map, hx]; rfl)
            rw [addr_add, Nat.zero_add] at this
            exact this
          have HX := Aside.mk hx
          clear hx
          by_cases h1 : x < 0
          · have HN : Aside (btw 0 [a.lsn, a.ext, a.keep, a.cur] = false) := ⟨btw_bad HX.out (by unfold nOk; rw [decide_eq_false (by omega)]; rfl)⟩
            go_wp2
            go_ret
            rw [HC.out, HN.out]
            exact ⟨by rw [HN1.out]; rfl, HS.out.right.right⟩
          · by_cases h2 : 4611686018427387904 < x
            · have HN : Aside (btw 0 [a.lsn, a.ext, a.keep, a.cur] = false) := ⟨btw_bad HX.out (by unfold nOk; rw [decide_eq_true (by omega), decide_eq_false (by omega)]; rfl)⟩
              go_wp2
              go_ret
              rw [HC.out, HN.out]
              exact ⟨by rw [HN1.out]; rfl, HS.out.right.right⟩
            · have HN : Aside (btw 0 ([a.lsn, a.ext, a.keep, a.cur].take (k + 1)) = true) := ⟨by rw [btw_take HX.out, HB.out]; unfold nOk; rw [decide_eq_true (by omega), decide_eq_true (by omega)]; rfl⟩
              go_wp2
              go_roundw
              case rel => exact ⟨k + 1, by omega, by push_cast; rfl, HN, HS⟩
              case measure => simp [intOf]; omega
        · obtain rfl : k = 4 := by omega
          have HN : Aside (btw 0 [a.lsn, a.ext, a.keep, a.cur] = true) := ⟨HB.out⟩
          go_wp2
          go_ret
          rw [HC.out, HN.out, HN1.out]
          exact ⟨rfl, HS.out.right.right⟩
end Go.Proofs.YtmjnnbnbdcadbaaGreatDoor
/- dryrotref17.Encode. -/
namespace Go.Proofs.YtmjnnbnbdcadbaaGreatDoor
open Go.RowKit HP
set_option linter.unusedSimpArgs false
set_option linter.unusedVariables false

set_option maxHeartbeats 2000000 in
set_option maxRecDepth 100000 in
theorem refenc_ok (E : Env) (q : HP) (a : Anch) (w : World) (hw : Sat E w q) :
    Calls Tryz.prog 51 #[.agg #[.int .i64 a.seq, .int .i64 a.gen, .int .i64 a.lsn, .int .i64 a.seg, .int .i64 a.ext, .int .i64 a.flo, .int .i64 a.new, .int .i64 a.keep, .int .i64 a.next, .int .i64 a.cur]] w (encEnd E q a) := by
  have H1 := Aside.mk (hw.alloc (.cells #[.int .i64 a.seq, .int .i64 a.gen, .int .i64 a.lsn, .int .i64 a.seg, .int .i64 a.ext, .int .i64 a.flo, .int .i64 a.new, .int .i64 a.keep, .int .i64 a.next, .int .i64 a.cur] 29))
  clear hw
  go_enter Tryz.func51, Tryz.ntmps51
  go_wp2_with fail
  refine (refcan_ok E _ a _ H1.out).mono ?_
  rintro e w1 ⟨rfl, h2⟩
  have H2 := Aside.mk h2
  clear h2 H1
  obtain ⟨cb, hcb⟩ : ∃ cb, cb = canA a := ⟨_, rfl⟩
  rw [← hcb]
  have HC := Aside.mk hcb
  clear hcb
  cases cb with
  | false =>
    go_wp2
    go_ret2
    exact encEnd_no HC.out.symm rfl H2.out.right
  | true =>
    have k0 := H2.out.cell 0
    have k1 := H2.out.cell 1
    have k2 := H2.out.cell 2
    have k3 := H2.out.cell 3
    have k4 := H2.out.cell 4
    have k5 := H2.out.cell 5
    have k6 := H2.out.cell 6
    have k7 := H2.out.cell 7
    have k8 := H2.out.cell 8
    have k9 := H2.out.cell 9
    simp only [List.getElem?_toArray, List.getElem?_cons_zero, List.getElem?_cons_succ] at k0 k1 k2 k3 k4 k5 k6 k7 k8 k9
    have H3 := Aside.mk ((H2.out.right.alloc (.cells (i8s a.l).toArray 3)).row_nil 5 1 none)
    obtain ⟨bl, hbl⟩ : ∃ x, x = w1.heap.size := ⟨_, rfl⟩
    rw [← hbl] at H3
    go_wp2
    rw [← hbl]
    clear hbl
    go_loopw [4, 32] (fun v4 v32 wr => ∃ k : Nat, k ≤ 10 ∧ v32 = .int .i64 k ∧ Aside (Sat E wr (HP.row 5 1 v4 (8 * k) (b8s (encI (a.l.take k))) * (HP.pt bl (.cells (i8s a.l).toArray 3) * q)))) (fun _ i _ => 10 - (intOf i).toNat)
    case atStart => exact ⟨0, by omega, rfl, H3⟩
    case round =>
      obtain ⟨k, hk, rfl, HS⟩ := hrel
      clear k0 k1 k2 k3 k4 k5 k6 k7 k8 k9 H3 H2
      by_cases hlt : k < 10
      · obtain ⟨x, hx⟩ : ∃ x, a.l[k]? = some x := ⟨_, List.getElem?_eq_getElem (show k < 10 from hlt)⟩
        have gx : wr.cell? ⟨bl, k, none⟩ = some (.int .i64 x) := by
          have := (Sat.ptCells (off := 0) (l := i8s a.l) HS.out.right rfl).some_ k (.int .i64 x) (by unfold i8s; rw [List.getElem?_map, hx]; rfl)
          rw [addr_add, Nat.zero_add] at this
          exact this
        have HX := Aside.mk (encI_take hx)
        have hlt2 : (k : Int) < 10 := by omega
        clear hx
        go_wp2_with fail
        refine (big_ok E _ x _ HS.out).mono ?_
        rintro e w4 ⟨g, rfl, h4⟩
        have h5 := h4.s2
        obtain ⟨ol, hol⟩ : ∃ ol, ol = 8 * k := ⟨_, rfl⟩
        rw [← hol] at h5
        have ho : ol ≤ 80 := by omega
        have H5 := Aside.mk (And.intro h5 (And.intro h4.row_cells (show (b8s (putI (n64 x) 8)).length = 8 * 1 by rw [b8s_length, putI_length])))
        have HO := Aside.mk hol
        clear h4 h5 hol gx
        go_wp2_with (at_builtin; refine wpList_append_row slB8 rfl rfl (by rfl) (by rfl) H5.out.1 H5.out.2.1 H5.out.2.2 (b8s_one _) (by unfold maxLen; omega) (by omega) (fun v5 w5 hw5 => ?_); obtain ⟨A5, c5, rfl, -, -⟩ := hw5.row_slice; have HW5 := Aside.mk hw5; clear hw5)
        have H6 : Aside (Sat E w5 (HP.row 5 1 (.slice A5 (ol + 8) c5) (8 * (k + 1)) (b8s (encI (a.l.take (k + 1)))) * (HP.pt bl (.cells (i8s a.l).toArray 3) * q))) := ⟨by
          rw [HX.out, b8s_append, show 8 * (k + 1) = ol + 8 by have := HO.out; omega]
          exact HW5.out.drop2⟩
        clear HW5 H5
        go_wp2
        go_roundw
        case rel => exact ⟨k + 1, by omega, by push_cast; rfl, H6⟩
        case measure => simp [intOf]; omega
      · obtain rfl : k = 10 := by omega
        have H7 : Aside (Sat E wr (HP.row 5 1 u4 80 (b8s (encI a.l)) * q)) := ⟨HS.out.drop2⟩
        clear HS
        go_wp2
        go_ret2
        exact encEnd_yes HC.out.symm rfl H7.out
end Go.Proofs.YtmjnnbnbdcadbaaGreatDoor
/- dryrotref17.Decode. -/
namespace Go.Proofs.YtmjnnbnbdcadbaaGreatDoor
open Go.RowKit HP
set_option linter.unusedSimpArgs false
set_option linter.unusedVariables false

theorem decL_take (b : List Int) : ∀ k : Nat, k < 10 → (decA b).l[k]? = some (decN b k)
  | 0, _ => rfl
  | 1, _ => rfl
  | 2, _ => rfl
  | 3, _ => rfl
  | 4, _ => rfl
  | 5, _ => rfl
  | 6, _ => rfl
  | 7, _ => rfl
  | 8, _ => rfl
  | 9, _ => rfl
  | k + 10, h => by omega
theorem slI8 : SlTy Tryz.prog 163 3 (.int .i64 0) 1 8 := ⟨Tryz.underlying163, by kernel_rfl, rfl, by decide⟩
set_option maxHeartbeats 4000000 in
set_option maxRecDepth 100000 in
theorem refdec_ok (E : Env) (q : HP) (A : Option Addr) (b : List Int) (n c : Nat) (w : World) (hln : b.length = n) (hnc : n ≤ c) (hcm : c ≤ maxLen) (hb : Bytes b) (hq : ∀ w, Sat E w q → Cells w A (b8s b)) (hw : Sat E w q) :
    Calls Tryz.prog 78 #[.slice A n c] w fun e w' => e = .returned (.tuple #[(decP b).1.val, .int .i64 (decP b).2]) ∧ Sat E w' q := by
  have h1 := hw.alloc (.cells #[.int .i64 0, .int .i64 0, .int .i64 0, .int .i64 0, .int .i64 0, .int .i64 0, .int .i64 0, .int .i64 0, .int .i64 0, .int .i64 0] 29)
  by_cases h80 : n = 80
  · subst h80
    have HC : Aside (decP b = if canA (decA b) = true then (decA b, 0) else (zeroA, 5)) := ⟨by
      unfold decP
      by_cases hc : canA (decA b) = true
      · rw [if_pos ⟨hln, hc⟩, if_pos hc]
      · rw [if_neg (fun h => hc h.2), if_neg hc]⟩
    have hcw := hq _ h1.right
    obtain ⟨a0, rfl, -⟩ := hcw.at_ 0 (by rw [b8s_length, hln]; decide)
    obtain ⟨g, o, rfl⟩ := slice_addr hcw rfl (k := 0) (by rw [b8s_length, hln]; decide)
    have HQ := Aside.mk (And.intro hln (And.intro hb hq))
    have H1 := Aside.mk (h1.row_nil 3 1 none)
    clear hw h1 hq hb hln hcw
    go_enter Tryz.func78, Tryz.ntmps78
    go_wp2
    go_loopw [0, 4] (fun v0 v4 wr => ∃ k : Nat, k ≤ 10 ∧ (∃ o', v0 = .slice (some ⟨g, o', none⟩) (80 - 8 * k) (c - 8 * k) ∧ (k < 10 → o' = o + 8 * k)) ∧ Aside (Sat E wr (HP.row 3 1 v4 k (i8s ((decA b).l.take k)) * (HP.pt w.heap.size (.cells #[.int .i64 0, .int .i64 0, .int .i64 0, .int .i64 0, .int .i64 0, .int .i64 0, .int .i64 0, .int .i64 0, .int .i64 0, .int .i64 0] 29) * q)))) (fun v _ _ => (match v with | .slice _ n _ => n | _ => 0))
    case atStart => exact ⟨0, by omega, ⟨o, rfl, fun _ => rfl⟩, H1⟩
    case round =>
      obtain ⟨k, hk, ⟨o', rfl, ho⟩, HS⟩ := hrel
      by_cases hlt : k < 10
      · obtain rfl := ho hlt
        obtain ⟨n', hn'⟩ : ∃ n', n' = 80 - 8 * k := ⟨_, rfl⟩
        obtain ⟨c', hc'⟩ : ∃ c', c' = c - 8 * k := ⟨_, rfl⟩
        obtain ⟨n2, hn2⟩ : ∃ n2, n2 = 80 - 8 * (k + 1) := ⟨_, rfl⟩
        obtain ⟨c2, hc2⟩ : ∃ c2, c2 = c - 8 * (k + 1) := ⟨_, rfl⟩
        have HN : Aside (n2 = 80 - 8 * (k + 1) ∧ c2 = c - 8 * (k + 1)) := ⟨hn2, hc2⟩
        have hn8 : 8 ≤ n' := by omega
        have hnc' : n' ≤ c' := by omega
        have e1 : n' - 8 = n2 := by omega
        have e2 : c' - 8 = c2 := by omega
        have hlt2 : n2 < n' := by omega
        have hn0 : (0 : Int) < n' := by omega
        have h10 : 8 < n' → k + 1 < 10 := by omega
        have h11 : k + 1 < 10 → 8 < n' := by omega
        rw [← hn', ← hc']
        have HD := Aside.mk (And.intro (show (b.drop (8 * k)).length = n' by rw [List.length_drop, HQ.out.1]; omega) (And.intro h11 (And.intro e1 e2)))
        clear hn' hc' hn2 hc2 h10 h11 e1 e2 ho
        go_wp2_with fail
        refine (refint_ok E _ g (o + 8 * k) (b.drop (8 * k)) n' c' _ HD.out.1 hn8 hnc' (fun y hy => HQ.out.2.1 y (List.mem_of_mem_drop hy)) (fun w' h => by
          have := (HQ.out.2.2 w' h.right.right).drop (8 * k)
          rw [addr_add] at this
          unfold b8s at this ⊢
          rw [List.map_drop]
          exact this) HS.out).mono ?_
        rintro e w2 ⟨⟨o2, rfl, ho2⟩, h3⟩
        rw [HD.out.2.2.1, HD.out.2.2.2]
        obtain ⟨x, hx⟩ : ∃ x, x = wrap64 (getN ((b.drop (8 * k)).take 8) : Int) := ⟨_, rfl⟩
        rw [← hx]
        have HX : Aside (decN b k = x) := ⟨by rw [hx]; rfl⟩
        have HO2 := Aside.mk ho2
        have H5 := Aside.mk (And.intro (h3.alloc (.cells [Value.int .i64 x].toArray 3)).right (And.intro (Cells.fresh w2 [Value.int .i64 x] 3 (0, 0)) (show [Value.int .i64 x].length = 1 * 1 from rfl)))
        clear hx h3 ho2
        go_wp2_with (at_builtin; refine wpList_append_row slI8 rfl rfl (by rfl) (by rfl) H5.out.1 H5.out.2.1 H5.out.2.2 rfl (by unfold maxLen; omega) (by omega) (fun v5 w5 hw5 => ?_); obtain ⟨A5, c5, rfl, -, -⟩ := hw5.row_slice; have HW5 := Aside.mk hw5; clear hw5)
        have H6 : Aside (Sat E w5 (HP.row 3 1 (.slice A5 (k + 1) c5) (k + 1) (i8s ((decA b).l.take (k + 1))) * (HP.pt w.heap.size (.cells #[.int .i64 0, .int .i64 0, .int .i64 0, .int .i64 0, .int .i64 0, .int .i64 0, .int .i64 0, .int .i64 0, .int .i64 0, .int .i64 0] 29) * q))) := ⟨by
          rw [List.take_add_one, decL_take b k hlt, HX.out]
          unfold i8s
          rw [List.map_append]
          exact HW5.out⟩
        clear HW5 H5
        go_wp2
        go_roundw
        case rel => exact ⟨k + 1, by omega, ⟨o2, by rw [HN.out.1, HN.out.2], fun h => by have := HO2.out (HD.out.2.1 h); omega⟩, H6⟩
        case measure => exact hlt2
      · obtain rfl : k = 10 := by omega
        rw [show 80 - 8 * 10 = 0 from rfl]
        obtain ⟨A4, c4, rfl, hc4, hm4⟩ := HS.out.row_slice
        have hcl := HS.out.row_cells
        obtain ⟨a0, rfl, -⟩ := hcl.at_ 0 (by unfold i8s; rw [List.length_map]; show 0 < 10; omega)
        obtain ⟨gl, ol, rfl⟩ := slice_addr hcl rfl (k := 0) (by unfold i8s; rw [List.length_map]; show 0 < 10; omega)
        have hT : ∀ W, Cells W (some ⟨gl, ol, none⟩) (i8s ((decA b).l.take 10)) → World.cell? W ⟨gl, ol, none⟩ = some (.int .i64 (decN b 0)) ∧ World.cell? W ⟨gl, ol + 1, none⟩ = some (.int .i64 (decN b 1)) ∧ World.cell? W ⟨gl, ol + 2, none⟩ = some (.int .i64 (decN b 2)) ∧ World.cell? W ⟨gl, ol + 3, none⟩ = some (.int .i64 (decN b 3)) ∧ World.cell? W ⟨gl, ol + 4, none⟩ = some (.int .i64 (decN b 4)) ∧ World.cell? W ⟨gl, ol + 5, none⟩ = some (.int .i64 (decN b 5)) ∧ World.cell? W ⟨gl, ol + 6, none⟩ = some (.int .i64 (decN b 6)) ∧ World.cell? W ⟨gl, ol + 7, none⟩ = some (.int .i64 (decN b 7)) ∧ World.cell? W ⟨gl, ol + 8, none⟩ = some (.int .i64 (decN b 8)) ∧ World.cell? W ⟨gl, ol + 9, none⟩ = some (.int .i64 (decN b 9)) := fun W h => by
          refine ⟨?_, ?_, ?_, ?_, ?_, ?_, ?_, ?_, ?_, ?_⟩
          · exact h.some_ 0 _ rfl
          · have := h.some_ 1 _ rfl; rwa [addr_add] at this
          · have := h.some_ 2 _ rfl; rwa [addr_add] at this
          · have := h.some_ 3 _ rfl; rwa [addr_add] at this
          · have := h.some_ 4 _ rfl; rwa [addr_add] at this
          · have := h.some_ 5 _ rfl; rwa [addr_add] at this
          · have := h.some_ 6 _ rfl; rwa [addr_add] at this
          · have := h.some_ 7 _ rfl; rwa [addr_add] at this
          · have := h.some_ 8 _ rfl; rwa [addr_add] at this
          · have := h.some_ 9 _ rfl; rwa [addr_add] at this
        have HT := hT _ HS.out.drew.row_cells
        have HT2 := hT _ (HS.out.drew.alloc (.cells #[.int .i64 0, .int .i64 0, .int .i64 0, .int .i64 0, .int .i64 0, .int .i64 0, .int .i64 0, .int .i64 0, .int .i64 0, .int .i64 0] 29)).right.row_cells
        have H3 := Aside.mk (HS.out.alloc (.cells #[.int .i64 (decN b 0), .int .i64 (decN b 1), .int .i64 (decN b 2), .int .i64 (decN b 3), .int .i64 (decN b 4), .int .i64 (decN b 5), .int .i64 (decN b 6), .int .i64 (decN b 7), .int .i64 (decN b 8), .int .i64 (decN b 9)] 29)).drew
        clear hT hcl
        go_wp2
        refine region_R [31, 32] [31] (fun w => w.cell? ⟨gl, ol, none⟩ = some (.int .i64 (decN b 0)) ∧ w.cell? ⟨gl, ol + 1, none⟩ = some (.int .i64 (decN b 1)) ∧ w.cell? ⟨gl, ol + 2, none⟩ = some (.int .i64 (decN b 2)) ∧ w.cell? ⟨gl, ol + 3, none⟩ = some (.int .i64 (decN b 3)) ∧ w.cell? ⟨gl, ol + 4, none⟩ = some (.int .i64 (decN b 4)) ∧ w.cell? ⟨gl, ol + 5, none⟩ = some (.int .i64 (decN b 5)) ∧ w.cell? ⟨gl, ol + 6, none⟩ = some (.int .i64 (decN b 6)) ∧ w.cell? ⟨gl, ol + 7, none⟩ = some (.int .i64 (decN b 7)) ∧ w.cell? ⟨gl, ol + 8, none⟩ = some (.int .i64 (decN b 8)) ∧ w.cell? ⟨gl, ol + 9, none⟩ = some (.int .i64 (decN b 9))) #[false, false, false, false, false, false, false, false, false, false, false, false, false, false, false, false, false, false, false, false, false, false, false, false, false, false, false, false, false, false, false, false, false] (by kernel_rfl) rfl rfl ?_
        refine wpR_pu 0 #[true, false, false, false, false, false, false, false, false, false, false, false, false, false, false, false, false, false, false, false, false, false, false, false, false, false, false, false, false, false, false, false, false] rfl onlyN_noPanic (by kernel_rfl) (fun K hK => ?_); (go_simp; try go_bits); refine hK _ ?_; clear hK K
        refine wpR_pu 1 #[true, true, false, false, false, false, false, false, false, false, false, false, false, false, false, false, false, false, false, false, false, false, false, false, false, false, false, false, false, false, false, false, false] rfl onlyN_noPanic (by kernel_rfl) (fun K hK => ?_); (go_simp; try go_bits); refine hK _ ?_; clear hK K
        refine wpR_held (i := 2) (v := (.int .i64 (decN b 0))) #[true, true, true, false, false, false, false, false, false, false, false, false, false, false, false, false, false, false, false, false, false, false, false, false, false, false, false, false, false, false, false, false, false] rfl onlyN_noPanic (by kernel_rfl) HT (.inl ⟨rfl, fun w' hT => ?_⟩) ?_
        · obtain ⟨t0, t1, t2, t3, t4, t5, t6, t7, t8, t9⟩ := hT
          go_simp
        simp only [Act.put, List.setIfInBounds_toArray, List.set_cons_zero, List.set_cons_succ]
        refine wpR_pu 3 #[true, true, true, true, false, false, false, false, false, false, false, false, false, false, false, false, false, false, false, false, false, false, false, false, false, false, false, false, false, false, false, false, false] rfl onlyN_noPanic (by kernel_rfl) (fun K hK => ?_); (go_simp; try go_bits); refine hK _ ?_; clear hK K
        refine wpR_pu 4 #[true, true, true, true, true, false, false, false, false, false, false, false, false, false, false, false, false, false, false, false, false, false, false, false, false, false, false, false, false, false, false, false, false] rfl onlyN_noPanic (by kernel_rfl) (fun K hK => ?_); (go_simp; try go_bits); refine hK _ ?_; clear hK K
        refine wpR_held (i := 5) (v := (.int .i64 (decN b 1))) #[true, true, true, true, true, true, false, false, false, false, false, false, false, false, false, false, false, false, false, false, false, false, false, false, false, false, false, false, false, false, false, false, false] rfl onlyN_noPanic (by kernel_rfl) HT (.inl ⟨rfl, fun w' hT => ?_⟩) ?_
        · obtain ⟨t0, t1, t2, t3, t4, t5, t6, t7, t8, t9⟩ := hT
          go_simp
        simp only [Act.put, List.setIfInBounds_toArray, List.set_cons_zero, List.set_cons_succ]
        refine wpR_pu 6 #[true, true, true, true, true, true, true, false, false, false, false, false, false, false, false, false, false, false, false, false, false, false, false, false, false, false, false, false, false, false, false, false, false] rfl onlyN_noPanic (by kernel_rfl) (fun K hK => ?_); (go_simp; try go_bits); refine hK _ ?_; clear hK K
        refine wpR_pu 7 #[true, true, true, true, true, true, true, true, false, false, false, false, false, false, false, false, false, false, false, false, false, false, false, false, false, false, false, false, false, false, false, false, false] rfl onlyN_noPanic (by kernel_rfl) (fun K hK => ?_); (go_simp; try go_bits); refine hK _ ?_; clear hK K
        refine wpR_held (i := 8) (v := (.int .i64 (decN b 2))) #[true, true, true, true, true, true, true, true, true, false, false, false, false, false, false, false, false, false, false, false, false, false, false, false, false, false, false, false, false, false, false, false, false] rfl onlyN_noPanic (by kernel_rfl) HT (.inl ⟨rfl, fun w' hT => ?_⟩) ?_
        · obtain ⟨t0, t1, t2, t3, t4, t5, t6, t7, t8, t9⟩ := hT
          go_simp
        simp only [Act.put, List.setIfInBounds_toArray, List.set_cons_zero, List.set_cons_succ]
        refine wpR_pu 9 #[true, true, true, true, true, true, true, true, true, true, false, false, false, false, false, false, false, false, false, false, false, false, false, false, false, false, false, false, false, false, false, false, false] rfl onlyN_noPanic (by kernel_rfl) (fun K hK => ?_); (go_simp; try go_bits); refine hK _ ?_; clear hK K
        refine wpR_pu 10 #[true, true, true, true, true, true, true, true, true, true, true, false, false, false, false, false, false, false, false, false, false, false, false, false, false, false, false, false, false, false, false, false, false] rfl onlyN_noPanic (by kernel_rfl) (fun K hK => ?_); (go_simp; try go_bits); refine hK _ ?_; clear hK K
        refine wpR_held (i := 11) (v := (.int .i64 (decN b 3))) #[true, true, true, true, true, true, true, true, true, true, true, true, false, false, false, false, false, false, false, false, false, false, false, false, false, false, false, false, false, false, false, false, false] rfl onlyN_noPanic (by kernel_rfl) HT (.inl ⟨rfl, fun w' hT => ?_⟩) ?_
        · obtain ⟨t0, t1, t2, t3, t4, t5, t6, t7, t8, t9⟩ := hT
          go_simp
        simp only [Act.put, List.setIfInBounds_toArray, List.set_cons_zero, List.set_cons_succ]
        refine wpR_pu 12 #[true, true, true, true, true, true, true, true, true, true, true, true, true, false, false, false, false, false, false, false, false, false, false, false, false, false, false, false, false, false, false, false, false] rfl onlyN_noPanic (by kernel_rfl) (fun K hK => ?_); (go_simp; try go_bits); refine hK _ ?_; clear hK K
        refine wpR_pu 13 #[true, true, true, true, true, true, true, true, true, true, true, true, true, true, false, false, false, false, false, false, false, false, false, false, false, false, false, false, false, false, false, false, false] rfl onlyN_noPanic (by kernel_rfl) (fun K hK => ?_); (go_simp; try go_bits); refine hK _ ?_; clear hK K
        refine wpR_held (i := 14) (v := (.int .i64 (decN b 4))) #[true, true, true, true, true, true, true, true, true, true, true, true, true, true, true, false, false, false, false, false, false, false, false, false, false, false, false, false, false, false, false, false, false] rfl onlyN_noPanic (by kernel_rfl) HT (.inl ⟨rfl, fun w' hT => ?_⟩) ?_
        · obtain ⟨t0, t1, t2, t3, t4, t5, t6, t7, t8, t9⟩ := hT
          go_simp
        simp only [Act.put, List.setIfInBounds_toArray, List.set_cons_zero, List.set_cons_succ]
        refine wpR_pu 15 #[true, true, true, true, true, true, true, true, true, true, true, true, true, true, true, true, false, false, false, false, false, false, false, false, false, false, false, false, false, false, false, false, false] rfl onlyN_noPanic (by kernel_rfl) (fun K hK => ?_); (go_simp; try go_bits); refine hK _ ?_; clear hK K
        refine wpR_pu 16 #[true, true, true, true, true, true, true, true, true, true, true, true, true, true, true, true, true, false, false, false, false, false, false, false, false, false, false, false, false, false, false, false, false] rfl onlyN_noPanic (by kernel_rfl) (fun K hK => ?_); (go_simp; try go_bits); refine hK _ ?_; clear hK K
        refine wpR_held (i := 17) (v := (.int .i64 (decN b 5))) #[true, true, true, true, true, true, true, true, true, true, true, true, true, true, true, true, true, true, false, false, false, false, false, false, false, false, false, false, false, false, false, false, false] rfl onlyN_noPanic (by kernel_rfl) HT (.inl ⟨rfl, fun w' hT => ?_⟩) ?_
        · obtain ⟨t0, t1, t2, t3, t4, t5, t6, t7, t8, t9⟩ := hT
          go_simp
        simp only [Act.put, List.setIfInBounds_toArray, List.set_cons_zero, List.set_cons_succ]
        refine wpR_pu 18 #[true, true, true, true, true, true, true, true, true, true, true, true, true, true, true, true, true, true, true, false, false, false, false, false, false, false, false, false, false, false, false, false, false] rfl onlyN_noPanic (by kernel_rfl) (fun K hK => ?_); (go_simp; try go_bits); refine hK _ ?_; clear hK K
        refine wpR_pu 19 #[true, true, true, true, true, true, true, true, true, true, true, true, true, true, true, true, true, true, true, true, false, false, false, false, false, false, false, false, false, false, false, false, false] rfl onlyN_noPanic (by kernel_rfl) (fun K hK => ?_); (go_simp; try go_bits); refine hK _ ?_; clear hK K
        refine wpR_held (i := 20) (v := (.int .i64 (decN b 6))) #[true, true, true, true, true, true, true, true, true, true, true, true, true, true, true, true, true, true, true, true, true, false, false, false, false, false, false, false, false, false, false, false, false] rfl onlyN_noPanic (by kernel_rfl) HT (.inl ⟨rfl, fun w' hT => ?_⟩) ?_
        · obtain ⟨t0, t1, t2, t3, t4, t5, t6, t7, t8, t9⟩ := hT
          go_simp
        simp only [Act.put, List.setIfInBounds_toArray, List.set_cons_zero, List.set_cons_succ]
        refine wpR_pu 21 #[true, true, true, true, true, true, true, true, true, true, true, true, true, true, true, true, true, true, true, true, true, true, false, false, false, false, false, false, false, false, false, false, false] rfl onlyN_noPanic (by kernel_rfl) (fun K hK => ?_); (go_simp; try go_bits); refine hK _ ?_; clear hK K
        refine wpR_pu 22 #[true, true, true, true, true, true, true, true, true, true, true, true, true, true, true, true, true, true, true, true, true, true, true, false, false, false, false, false, false, false, false, false, false] rfl onlyN_noPanic (by kernel_rfl) (fun K hK => ?_); (go_simp; try go_bits); refine hK _ ?_; clear hK K
        refine wpR_held (i := 23) (v := (.int .i64 (decN b 7))) #[true, true, true, true, true, true, true, true, true, true, true, true, true, true, true, true, true, true, true, true, true, true, true, true, false, false, false, false, false, false, false, false, false] rfl onlyN_noPanic (by kernel_rfl) HT (.inl ⟨rfl, fun w' hT => ?_⟩) ?_
        · obtain ⟨t0, t1, t2, t3, t4, t5, t6, t7, t8, t9⟩ := hT
          go_simp
        simp only [Act.put, List.setIfInBounds_toArray, List.set_cons_zero, List.set_cons_succ]
        refine wpR_pu 24 #[true, true, true, true, true, true, true, true, true, true, true, true, true, true, true, true, true, true, true, true, true, true, true, true, true, false, false, false, false, false, false, false, false] rfl onlyN_noPanic (by kernel_rfl) (fun K hK => ?_); (go_simp; try go_bits); refine hK _ ?_; clear hK K
        refine wpR_pu 25 #[true, true, true, true, true, true, true, true, true, true, true, true, true, true, true, true, true, true, true, true, true, true, true, true, true, true, false, false, false, false, false, false, false] rfl onlyN_noPanic (by kernel_rfl) (fun K hK => ?_); (go_simp; try go_bits); refine hK _ ?_; clear hK K
        refine wpR_held (i := 26) (v := (.int .i64 (decN b 8))) #[true, true, true, true, true, true, true, true, true, true, true, true, true, true, true, true, true, true, true, true, true, true, true, true, true, true, true, false, false, false, false, false, false] rfl onlyN_noPanic (by kernel_rfl) HT (.inl ⟨rfl, fun w' hT => ?_⟩) ?_
        · obtain ⟨t0, t1, t2, t3, t4, t5, t6, t7, t8, t9⟩ := hT
          go_simp
        simp only [Act.put, List.setIfInBounds_toArray, List.set_cons_zero, List.set_cons_succ]
        refine wpR_pu 27 #[true, true, true, true, true, true, true, true, true, true, true, true, true, true, true, true, true, true, true, true, true, true, true, true, true, true, true, true, false, false, false, false, false] rfl onlyN_noPanic (by kernel_rfl) (fun K hK => ?_); (go_simp; try go_bits); refine hK _ ?_; clear hK K
        refine wpR_pu 28 #[true, true, true, true, true, true, true, true, true, true, true, true, true, true, true, true, true, true, true, true, true, true, true, true, true, true, true, true, true, false, false, false, false] rfl onlyN_noPanic (by kernel_rfl) (fun K hK => ?_); (go_simp; try go_bits); refine hK _ ?_; clear hK K
        refine wpR_held (i := 29) (v := (.int .i64 (decN b 9))) #[true, true, true, true, true, true, true, true, true, true, true, true, true, true, true, true, true, true, true, true, true, true, true, true, true, true, true, true, true, true, false, false, false] rfl onlyN_noPanic (by kernel_rfl) HT (.inl ⟨rfl, fun w' hT => ?_⟩) ?_
        · obtain ⟨t0, t1, t2, t3, t4, t5, t6, t7, t8, t9⟩ := hT
          go_simp
        simp only [Act.put, List.setIfInBounds_toArray, List.set_cons_zero, List.set_cons_succ]
        refine wpR_pu 30 #[true, true, true, true, true, true, true, true, true, true, true, true, true, true, true, true, true, true, true, true, true, true, true, true, true, true, true, true, true, true, true, false, false] rfl onlyN_noPanic (by kernel_rfl) (fun K hK => ?_); (go_simp; try go_bits); refine hK _ ?_; clear hK K
        refine wpR_keep #[true, true, true, true, true, true, true, true, true, true, true, true, true, true, true, true, true, true, true, true, true, true, true, true, true, true, true, true, true, true, true, true, false] (i := 31) rfl (by kernel_rfl) (fun K hK => ?_)
        go_simp; refine hK _ _ HT2 ?_; clear hK K
        refine wpR_eff #[true, true, true, true, true, true, true, true, true, true, true, true, true, true, true, true, true, true, true, true, true, true, true, true, true, true, true, true, true, true, true, true, true] (i := 32) rfl (by kernel_rfl) (fun K hK => ?_)
        go_simp; refine hK _ _ ?_; clear hK K
        refine wpR_done (by kernel_rfl) ?_ _
        simp only [OnlyN]
        have r0 : (loadVar 29 ⟨wr.heap.size, 0, none⟩).run Tryz.prog (wr.alloc (.cells #[.int .i64 (decN b 0), .int .i64 (decN b 1), .int .i64 (decN b 2), .int .i64 (decN b 3), .int .i64 (decN b 4), .int .i64 (decN b 5), .int .i64 (decN b 6), .int .i64 (decN b 7), .int .i64 (decN b 8), .int .i64 (decN b 9)] 29)).drew = .ok (.agg (i8s (decA b).l).toArray) (wr.alloc (.cells #[.int .i64 (decN b 0), .int .i64 (decN b 1), .int .i64 (decN b 2), .int .i64 (decN b 3), .int .i64 (decN b 4), .int .i64 (decN b 5), .int .i64 (decN b 6), .int .i64 (decN b 7), .int .i64 (decN b 8), .int .i64 (decN b 9)] 29)).drew := run_loadAgg agAnch (cs := i8s (decA b).l) rfl (Sat.ptCells (off := 0) H3.out rfl)
        clear HT HT2 HS H1
        go_wp2_with (refine wpList_load_run rfl rfl rfl r0 ?_)
        refine (refcan_ok E _ (decA b) _ H3.out).mono ?_
        rintro e w2 ⟨rfl, h4⟩
        have H4 : Aside (Sat E w2 (HP.pt wr.heap.size (.cells #[.int .i64 (decN b 0), .int .i64 (decN b 1), .int .i64 (decN b 2), .int .i64 (decN b 3), .int .i64 (decN b 4), .int .i64 (decN b 5), .int .i64 (decN b 6), .int .i64 (decN b 7), .int .i64 (decN b 8), .int .i64 (decN b 9)] 29) * (HP.pt w.heap.size (.cells #[.int .i64 0, .int .i64 0, .int .i64 0, .int .i64 0, .int .i64 0, .int .i64 0, .int .i64 0, .int .i64 0, .int .i64 0, .int .i64 0] 29) * q))) := ⟨h4.drop2⟩
        clear h4 H3 HQ r0
        obtain ⟨cb, hcb⟩ : ∃ cb, cb = canA (decA b) := ⟨_, rfl⟩
        rw [← hcb] at HC ⊢
        clear hcb
        cases cb with
        | false =>
          rw [if_neg (by decide)] at HC
          have r2 : (storeVar 29 ⟨w.heap.size, 0, none⟩ (.agg (i8s zeroA.l).toArray)).run Tryz.prog w2 = .ok () (w2.setRow w.heap.size (i8s zeroA.l).toArray) := run_storeAgg agAnch (g := w.heap.size) (off := 0) (cs := i8s zeroA.l) H4.out.s2.get rfl (by show 0 + 10 ≤ 10; omega) rfl
          have h5 := H4.out.s2.splice (i8s zeroA.l)
          have H5 := Aside.mk h5
          clear h5 H4
          generalize World.setRow w2 _ _ = w5 at *
          go_wp2_with (refine wpList_store_run rfl rfl rfl rfl rfl r2 ?_)
          go_wp2
          refine bodyPost_ret (results_cellTmp rfl rfl (run_loadAgg agAnch (cs := i8s zeroA.l) rfl (Sat.ptCells (off := 0) H5.out rfl))) rfl ?_
          rw [HC.out]
          exact ⟨rfl, H5.out.right.right⟩
        | true =>
          rw [if_pos rfl] at HC
          have r1 : (loadVar 29 ⟨wr.heap.size, 0, none⟩).run Tryz.prog w2 = .ok (.agg (i8s (decA b).l).toArray) w2 := run_loadAgg agAnch (cs := i8s (decA b).l) rfl (Sat.ptCells (off := 0) H4.out rfl)
          have r2 : (storeVar 29 ⟨w.heap.size, 0, none⟩ (.agg (i8s (decA b).l).toArray)).run Tryz.prog w2 = .ok () (w2.setRow w.heap.size (i8s (decA b).l).toArray) := run_storeAgg agAnch (g := w.heap.size) (off := 0) (cs := i8s (decA b).l) H4.out.s2.get rfl (by show 0 + 10 ≤ 10; omega) rfl
          have h5 := H4.out.s2.splice (i8s (decA b).l)
          have H5 := Aside.mk h5
          clear h5 H4
          generalize World.setRow w2 _ _ = w5 at *
          go_wp2_with (first | (refine wpList_load_run rfl rfl rfl r1 ?_) | (refine wpList_store_run rfl rfl rfl rfl rfl r2 ?_))
          go_wp2
          refine bodyPost_ret (results_cellTmp rfl rfl (run_loadAgg agAnch (cs := i8s (decA b).l) rfl (Sat.ptCells (off := 0) H5.out rfl))) rfl ?_
          rw [HC.out]
          exact ⟨rfl, H5.out.right.right⟩
  · have HP := Aside.mk (decP_long (b := b) (by omega))
    have H1 := Aside.mk h1
    have h80b : ((n : Int) == 80) = false := by rw [beq_eq_false_iff_ne]; omega
    have h80c : ¬ (n : Int) = 80 := by omega
    clear hw h1 hq hb hln
    go_enter Tryz.func78, Tryz.ntmps78
    go_wp2
    refine bodyPost_ret (results_cellTmp rfl rfl (run_loadAgg agAnch (cs := i8s zeroA.l) rfl (Sat.ptCells (off := 0) H1.out rfl))) rfl ?_
    rw [HP.out]
    exact ⟨rfl, H1.out.right⟩
end Go.Proofs.YtmjnnbnbdcadbaaGreatDoor
/- pair.Drop, pair.Need. -/
namespace Go.Proofs.YtmjnnbnbdcadbaaGreatDoor
open Go.RowKit HP
set_option linter.unusedSimpArgs false
set_option linter.unusedVariables false

def dropL (A : Dk) : List ByteArray → Int × Dk
  | [] => (0, A)
  | f :: r => if (A.at f).length = 0 then dropL A r else if (A.remove f).1 = 0 then dropL (A.remove f).2 r else A.remove f
def dropP (A : Dk) (name : ByteArray) : Int × Dk := dropL A (halvesL name)
set_option maxHeartbeats 2000000 in
set_option maxRecDepth 100000 in
theorem pair_drop (E : Env) (q : HP) (d : Nat) (A : Dk) (name : ByteArray) (w : World) (hname : name.size + 2 ≤ maxLen) (hw : Sat E w (HP.disk d A * q)) :
    Calls Tryz.prog 22 #[.pointer (some ⟨d, 0, none⟩), .string name] w fun e w' => e = .returned (.int .i64 (dropP A name).1) ∧ Sat E w' (HP.disk d (dropP A name).2 * q) := by
  have hfa : (name ++ dotA).size ≤ maxLen := by rw [dotA_size]; exact hname
  have hfb : (name ++ dotB).size ≤ maxLen := by rw [dotB_size]; exact hname
  have HF : Aside (halvesL name = [name ++ dotA, name ++ dotB]) := ⟨rfl⟩
  have HW0 := Aside.mk hw
  clear hw
  go_enter Tryz.func22, Tryz.ntmps22
  go_wp2_with fail
  refine (pair_none E q d A _ HW0.out).mono ?_
  rintro e w0 ⟨rfl, h0⟩
  have H0 := Aside.mk h0
  clear h0
  go_wp2_with fail
  refine (pair_halves E _ name _ hname H0.out).mono ?_
  rintro e w1 ⟨rfl, h1⟩
  obtain ⟨fa, hfae⟩ : ∃ fa, fa = name ++ dotA := ⟨_, rfl⟩
  obtain ⟨fb, hfbe⟩ : ∃ fb, fb = name ++ dotB := ⟨_, rfl⟩
  rw [← hfae] at hfa HF ⊢
  rw [← hfbe] at hfb HF ⊢
  clear hfae hfbe
  have H1 := Aside.mk h1
  clear h1
  have i0 : ∀ w, (Instr.index 120 (.agg #[.string fa, .string fb]) (.int .i64 0)).run Tryz.prog w = .ok (.string fa) w := fun w => by kernel_rfl
  have i1 : ∀ w, (Instr.index 120 (.agg #[.string fa, .string fb]) (.int .i64 1)).run Tryz.prog w = .ok (.string fb) w := fun w => by kernel_rfl
  go_wp2
  go_loopw [12] (fun v12 wr => ∃ (h : Nat) (B : Dk), h ≤ 2 ∧ v12 = .int .i64 h ∧ Aside (dropL B ((halvesL name).drop h) = dropP A name) ∧ Aside (Sat E wr (HP.disk d B * q))) (fun i _ => 2 - (intOf i).toNat)
  case atStart => exact ⟨0, A, by omega, rfl, ⟨rfl⟩, H1⟩
  case round =>
    obtain ⟨h, B, hh, rfl, HA, HS⟩ := hrel
    by_cases hlt : h < 2
    · obtain ⟨f, hf, hff, hix⟩ : ∃ f : ByteArray, f.size ≤ maxLen ∧ (halvesL name).drop h = f :: (halvesL name).drop (h + 1) ∧ ∀ w, (Instr.index 120 (.agg #[.string fa, .string fb]) (.int .i64 (h : Int))).run Tryz.prog w = .ok (.string f) w := by
        rw [HF.out]
        rcases Nat.lt_or_ge h 1 with h0 | h0
        · obtain rfl : h = 0 := by omega
          exact ⟨fa, hfa, rfl, i0⟩
        · obtain rfl : h = 1 := by omega
          exact ⟨fb, hfb, rfl, i1⟩
      have hlt2 : (h : Int) < 2 := by omega
      have HD : Aside (dropL B (f :: (halvesL name).drop (h + 1)) = if (B.at f).length = 0 then dropL B ((halvesL name).drop (h + 1)) else if (B.remove f).1 = 0 then dropL (B.remove f).2 ((halvesL name).drop (h + 1)) else B.remove f) := ⟨rfl⟩
      rw [hff, HD.out] at HA
      clear hff HD
      clear i0 i1
      go_wp2_with fail
      refine (disk_extents E q d B f _ hf HS.out).mono ?_
      rintro e w2 ⟨rfl, rfl⟩
      by_cases hz : (B.at f).length = 0
      · rw [if_pos hz] at HA
        rw [hz]
        clear hz
        go_wp2
        go_roundw
        case rel => exact ⟨h + 1, B, by omega, by push_cast; rfl, HA, HS⟩
        case measure => simp [intOf]; omega
      · rw [if_neg hz] at HA
        obtain ⟨m, hm⟩ : ∃ m, m = (B.at f).length := ⟨_, rfl⟩
        rw [← hm] at hz ⊢
        clear hm
        have hz2 : ((m : Int) == 0) = false := by rw [beq_eq_false_iff_ne]; omega
        have hz3 : ¬ (m : Int) = 0 := by omega
        go_wp2_with fail
        refine (disk_remove E q d B f _ hf HS.out).mono ?_
        rintro e w3 ⟨rfl, h3⟩
        have H3 := Aside.mk h3
        clear h3
        by_cases h0 : (B.remove f).1 = 0
        · rw [if_pos h0] at HA
          rw [h0]
          generalize (B.remove f).2 = B2 at *
          clear h0 hz hz2 hz3
          go_wp2
          go_roundw
          case rel => exact ⟨h + 1, B2, by omega, by push_cast; rfl, HA, H3⟩
          case measure => simp [intOf]; omega
        · rw [if_neg h0] at HA
          obtain ⟨ec, hec⟩ : ∃ ec, ec = (B.remove f).1 := ⟨_, rfl⟩
          rw [← hec] at h0 ⊢
          have HE := Aside.mk hec
          have HX := Aside.mk HA.out.symm
          clear hec HA hz hz2 hz3
          go_wp2
          go_ret
          rw [HX.out, HE.out]
          exact ⟨rfl, H3.out⟩
    · have hh2 : h = 2 := by omega
      subst hh2
      rw [HF.out] at HA
      have HX : Aside (dropP A name = (0, B)) := ⟨by rw [← HA.out]; rfl⟩
      clear HA i0 i1
      go_wp2
      go_ret
      rw [HX.out]
      exact ⟨rfl, HS.out⟩
def needI (n : Int) : Int := if n ≤ 0 then 2 else 2 * ((n - 1) / 106 + 1)
end Go.Proofs.YtmjnnbnbdcadbaaGreatDoor
