/- Texts of one claim, one behind the other: AnchP, AnchV, AnchK, Ref1, Ref2, AnchR, Ref3, AnchYW, Laid, Tied. -/
import Derived.Test.YtnllmkpbnccllaaDoorAy5
import Derived.Laws.StructEq
import Derived.Laws.Bits64
import Derived.LaidMore
import Derived.Stop.Joined
/- anchor, the plain part: what is coded is read; an anchor saved on a new disk is there. -/
namespace Go.Proofs.YtnllmkpbnccllaaDoor
open Go.RowKit HP
set_option linter.unusedSimpArgs false
set_option linter.unusedVariables false

theorem encI_piece : ∀ {l : List Int} {k : Nat} {x : Int}, l[k]? = some x → ((encI l).drop (8 * k)).take 8 = putI (n64 x) 8
  | [], k, x, h => by simp at h
  | y :: t, 0, x, h => by
    simp only [List.getElem?_cons_zero, Option.some.injEq] at h
    subst h
    show ((putI (n64 y) 8 ++ encI t).drop 0).take 8 = _
    rw [List.drop_zero, List.take_left' (putI_length _ _)]
  | y :: t, k + 1, x, h => by
    have ih := encI_piece (l := t) (k := k) (x := x) (by simpa using h)
    show ((putI (n64 y) 8 ++ encI t).drop (8 * (k + 1))).take 8 = _
    rw [show 8 * (k + 1) = 8 + 8 * k by omega, ← List.drop_drop, List.drop_left' (putI_length _ _), ih]
theorem decN_encI {l : List Int} {k : Nat} {x : Int} (h : l[k]? = some x) (hx : wf64 x) : decN (encI l) k = x := by
  unfold decN
  rw [encI_piece h, getN_putI 8 _ (n64_lt x)]
  unfold wrap64 n64
  unfold wf64 at hx
  omega
structure Anch.Ok (a : Anch) : Prop where
  seq : wf64 a.seq
  gen : wf64 a.gen
  lsn : wf64 a.lsn
  seg : wf64 a.seg
  ext : wf64 a.ext
  flo : wf64 a.flo
  new : wf64 a.new
  keep : wf64 a.keep
  next : wf64 a.next
  cur : wf64 a.cur
theorem decA_encI {a : Anch} (h : a.Ok) : decA (encI a.l) = a := by
  unfold decA
  rw [decN_encI (l := a.l) (k := 0) rfl h.seq, decN_encI (l := a.l) (k := 1) rfl h.gen, decN_encI (l := a.l) (k := 2) rfl h.lsn, decN_encI (l := a.l) (k := 3) rfl h.seg, decN_encI (l := a.l) (k := 4) rfl h.ext,
    decN_encI (l := a.l) (k := 5) rfl h.flo, decN_encI (l := a.l) (k := 6) rfl h.new, decN_encI (l := a.l) (k := 7) rfl h.keep, decN_encI (l := a.l) (k := 8) rfl h.next, decN_encI (l := a.l) (k := 9) rfl h.cur]
theorem decP_encI {a : Anch} (h : a.Ok) (hc : canA a = true) : decP (encI a.l) = (a, 0) := by
  unfold decP
  rw [decA_encI h, if_pos ⟨by rw [encI_length]; rfl, hc⟩]
theorem twoAnch : TwoNames (nameA ++ dotA) (nameA ++ dotB) := ⟨by kernel_rfl, by kernel_rfl, by decide, by kernel_rfl, by kernel_rfl⟩
instance (i : Int) : Decidable (wf64 i) := by unfold wf64; infer_instance
theorem fresh_up_ok : freshA.up.Ok := ⟨by decide, by decide, by decide, by decide, by decide, by decide, by decide, by decide, by decide, by decide⟩
theorem fresh_can : canA freshA.up = true := by decide
structure SavedEnd (B : Dk) : Prop where
  save : saveP (Dk.new 2) freshA = ((freshA.up, 0), B)
  load : loadA B = (freshA.up, 0)
  bytes : ∀ f ∈ halvesL nameA, ∀ c, B.cel f 0 = some c → Bytes c.read
theorem saved_end : ∃ B, SavedEnd B := by
  have hl : (encI freshA.up.l).length = 80 := by rw [encI_length]; rfl
  have f1 : FrameOk ((0 : Nat) : Int) ((1 : Nat) : Int) (encI freshA.up.l).length := ⟨by omega, by omega, by omega, by omega, by rw [hl]; omega⟩
  have p1 : putP (Dk.new 2) nameA 0 1 (encI freshA.up.l) = _ := putP_two (A := Dk.new 2) (x := nameA) f1
  have la : ∀ f, (extI f 0 1 (encI freshA.up.l)).length = 128 := fun f => extI_length (by rw [hl]; omega)
  rw [show ((0 : Nat) : Int) = 0 from rfl, put_first2 twoAnch (la _) (la _)] at p1
  have g1 := get_two (x := nameA) twoAnch.ne (room := 2) (fuse := -1) (ca := stl (extI (nameA ++ dotA) 0 1 (encI freshA.up.l))) (cb := stl (extI (nameA ++ dotB) 0 1 (encI freshA.up.l))) (ga := 1) (gb := 1) (by omega) (by omega) (by rw [hl]; omega) (by rw [hl]; omega) rfl rfl
  rw [if_pos (by omega)] at g1
  refine ⟨two 2 (-1) (nameA ++ dotA) (nameA ++ dotB) (stl (extI (nameA ++ dotA) 0 1 (encI freshA.up.l))) (stl (extI (nameA ++ dotB) 0 1 (encI freshA.up.l))), ⟨?_, ?_, ?_⟩⟩
  · unfold saveP
    rw [if_pos ⟨by decide, fresh_can⟩, show freshA.up.seq = 1 from rfl, p1]
    rfl
  · unfold loadA
    rw [g1]
    dsimp only
    rw [decP_encI fresh_up_ok fresh_can, if_pos ⟨by omega, rfl, rfl⟩]
  · have hb : ∀ f, Bytes (extI f 0 1 (encI freshA.up.l)) := fun f => extI_bytes (by rw [hl]; omega) (encI_bytes _)
    intro f hf c hc
    rcases List.mem_cons.1 hf with rfl | hf
    · rw [cel_a] at hc
      cases hc
      exact hb _
    · rcases List.mem_cons.1 hf with rfl | hf
      · rw [cel_b twoAnch.ne] at hc
        cases hc
        exact hb _
      · cases hf
end Go.Proofs.YtnllmkpbnccllaaDoor
/- anchor.Save. -/
namespace Go.Proofs.YtnllmkpbnccllaaDoor
open Go.RowKit HP
set_option linter.unusedSimpArgs false
set_option linter.unusedVariables false

set_option maxHeartbeats 4000000 in
set_option maxRecDepth 100000 in
theorem anchor_save (E : Env) (q : HP) (d : Nat) (A : Dk) (a : Anch) (w : World) (hs64 : wf64 a.seq) (hq : ∀ w, Sat E w q → Quarter w) (hw : Sat E w (HP.disk d A * q)) :
    Calls Tryd.prog 76 #[.pointer (some ⟨d, 0, none⟩), .agg #[.int .i64 a.seq, .int .i64 a.gen, .int .i64 a.lsn, .int .i64 a.seg, .int .i64 a.ext, .int .i64 a.flo, .int .i64 a.new, .int .i64 a.keep, .int .i64 a.next, .int .i64 a.cur]] w fun e w' => e = .returned (.tuple #[(saveP A a).1.1.val, .int .i64 (saveP A a).1.2]) ∧ Sat E w' (HP.disk d (saveP A a).2 * q) := by
  have h1 := (hw.alloc (.cells #[.int .i64 a.seq, .int .i64 a.gen, .int .i64 a.lsn, .int .i64 a.seg, .int .i64 a.ext, .int .i64 a.flo, .int .i64 a.new, .int .i64 a.keep, .int .i64 a.next, .int .i64 a.cur] 71)).alloc (.cells #[.int .i64 0, .int .i64 0, .int .i64 0, .int .i64 0, .int .i64 0, .int .i64 0, .int .i64 0, .int .i64 0, .int .i64 0, .int .i64 0] 71)
  have hz : (w.alloc (.cells #[.int .i64 a.seq, .int .i64 a.gen, .int .i64 a.lsn, .int .i64 a.seg, .int .i64 a.ext, .int .i64 a.flo, .int .i64 a.new, .int .i64 a.keep, .int .i64 a.next, .int .i64 a.cur] 71)).heap.size = w.heap.size + 1 := by simp
  rw [hz] at h1
  have H1 : Aside (Sat E ((w.alloc (.cells #[.int .i64 a.seq, .int .i64 a.gen, .int .i64 a.lsn, .int .i64 a.seg, .int .i64 a.ext, .int .i64 a.flo, .int .i64 a.new, .int .i64 a.keep, .int .i64 a.next, .int .i64 a.cur] 71)).alloc (.cells #[.int .i64 0, .int .i64 0, .int .i64 0, .int .i64 0, .int .i64 0, .int .i64 0, .int .i64 0, .int .i64 0, .int .i64 0, .int .i64 0] 71)) (HP.disk d A * (HP.pt w.heap.size (.cells #[.int .i64 a.seq, .int .i64 a.gen, .int .i64 a.lsn, .int .i64 a.seg, .int .i64 a.ext, .int .i64 a.flo, .int .i64 a.new, .int .i64 a.keep, .int .i64 a.next, .int .i64 a.cur] 71) * (HP.pt (w.heap.size + 1) (.cells #[.int .i64 0, .int .i64 0, .int .i64 0, .int .i64 0, .int .i64 0, .int .i64 0, .int .i64 0, .int .i64 0, .int .i64 0, .int .i64 0] 71) * q)))) := ⟨h1.perm (by ac_rfl)⟩
  have HQ := Aside.mk hq
  have hx : nameA.size + 2 ≤ maxLen := by show 8 ≤ maxLen; unfold maxLen; omega
  have HX := Aside.mk hx
  have H64 := Aside.mk hs64
  have HS : Aside (saveP A a = if btw 0 [a.seq] = true ∧ canA a.up = true then
    (if (putP A nameA 0 a.up.seq (encI a.up.l)).1 = 0 then (a.up, 0) else (zeroA, (putP A nameA 0 a.up.seq (encI a.up.l)).1), (putP A nameA 0 a.up.seq (encI a.up.l)).2)
  else ((zeroA, 1), A)) := ⟨rfl⟩
  clear hq hw h1 hz hx hs64
  go_enter Tryd.func76, Tryd.ntmps76
  go_wp2_with fail
  refine (disk_asked E _ d A _ H1.out).mono ?_
  rintro e w1 ⟨rfl, h2⟩
  have k0 : w1.cell? ⟨w.heap.size, 0, none⟩ = some (.int .i64 a.seq) := h2.right.cell 0
  have H2 := Aside.mk (h2.alloc (.cells #[.int .i64 a.seq] 3))
  clear h2 H1
  go_wp2_with fail
  refine (between_ok E _ 0 w1.heap.size [a.seq] 1 1 _ rfl (by omega) (fun w h => Sat.ptCells (off := 0) (l := i8s [a.seq]) h rfl) H2.out).mono ?_
  rintro e w2 ⟨rfl, h3⟩
  have H3 := Aside.mk h3.right
  clear h3 H2 k0
  obtain ⟨cb, hcb⟩ : ∃ cb, cb = btw 0 [a.seq] := ⟨_, rfl⟩
  rw [← hcb] at HS ⊢
  have HCB := Aside.mk hcb
  clear hcb
  cases cb with
  | false =>
    rw [if_neg (by simp)] at HS
    have r2 : (storeVar 71 ⟨w.heap.size + 1, 0, none⟩ (.agg (i8s zeroA.l).toArray)).run Tryd.prog w2 = .ok () (w2.setRow (w.heap.size + 1) (i8s zeroA.l).toArray) := run_storeAgg agAnch (g := w.heap.size + 1) (off := 0) (cs := i8s zeroA.l) H3.out.s3.get rfl (by show 0 + 10 ≤ 10; omega) rfl
    have h5 := H3.out.s3.splice (i8s zeroA.l)
    have H5 := Aside.mk h5
    clear h5 H3
    generalize World.setRow w2 _ _ = w5 at *
    go_wp2_with (refine wpList_store_run rfl rfl rfl rfl rfl r2 ?_)
    go_wp2
    refine bodyPost_ret (results_cellTmp rfl rfl (run_loadAgg agAnch (cs := i8s zeroA.l) rfl (Sat.ptCells (off := 0) H5.out rfl))) rfl ?_
    rw [HS.out]
    exact ⟨rfl, H5.out.right.perm (by ac_rfl : _ = HP.pt w.heap.size (.cells #[.int .i64 a.seq, .int .i64 a.gen, .int .i64 a.lsn, .int .i64 a.seg, .int .i64 a.ext, .int .i64 a.flo, .int .i64 a.new, .int .i64 a.keep, .int .i64 a.next, .int .i64 a.cur] 71) * (HP.disk d A * q)) |>.right⟩
  | true =>
    have hrg : 0 ≤ a.seq ∧ a.seq ≤ 4611686018427387904 := by
      have := HCB.out.symm
      simpa [btw, nOk] using this
    obtain ⟨s0, s1⟩ := hrg
    have k0 : w2.cell? ⟨w.heap.size, 0, none⟩ = some (.int .i64 a.seq) := H3.out.s2.cell 0
    have kf : w2.frozen? ⟨w.heap.size, 0, none⟩ = false := H3.out.s2.thaw 0
    have h4 : Sat E (w2.setCell ⟨w.heap.size, 0, none⟩ (.int .i64 (a.seq + 1))) (HP.pt w.heap.size (.cells #[.int .i64 (a.seq + 1), .int .i64 a.gen, .int .i64 a.lsn, .int .i64 a.seg, .int .i64 a.ext, .int .i64 a.flo, .int .i64 a.new, .int .i64 a.keep, .int .i64 a.next, .int .i64 a.cur] 71) * (HP.disk d A * (HP.pt (w.heap.size + 1) (.cells #[.int .i64 0, .int .i64 0, .int .i64 0, .int .i64 0, .int .i64 0, .int .i64 0, .int .i64 0, .int .i64 0, .int .i64 0, .int .i64 0] 71) * q))) := H3.out.s2.set (i := 0) (.int .i64 (a.seq + 1))
    have H4 := Aside.mk h4
    have r1 : (loadVar 71 ⟨w.heap.size, 0, none⟩).run Tryd.prog (w2.setCell ⟨w.heap.size, 0, none⟩ (.int .i64 (a.seq + 1))) = .ok (.agg (i8s a.up.l).toArray) (w2.setCell ⟨w.heap.size, 0, none⟩ (.int .i64 (a.seq + 1))) := run_loadAgg agAnch (cs := i8s a.up.l) rfl (Sat.ptCells (off := 0) h4 rfl)
    clear h4 H3
    go_wp2_with (refine wpList_load_run rfl rfl rfl r1 ?_)
    refine (encode_ok E _ a.up _ H4.out).mono ?_
    intro e w3 h5
    clear H4 r1 k0 kf
    unfold encEnd at h5
    by_cases hc : canA a.up = true
    · rw [if_pos hc] at h5
      rw [if_pos ⟨trivial, hc⟩] at HS
      clear hc
      obtain ⟨v, rfl, h5⟩ := h5
      obtain ⟨Av, cv, rfl, hcv, hcm⟩ := h5.row_slice
      have k1 : w3.cell? ⟨w.heap.size, 0, none⟩ = some (.int .i64 (a.seq + 1)) := h5.right.cell 0
      have h6 : Sat E w3 (HP.disk d A * (HP.row 5 1 (.slice Av 80 cv) 80 (b8s (encI a.up.l)) * (HP.pt w.heap.size (.cells #[.int .i64 (a.seq + 1), .int .i64 a.gen, .int .i64 a.lsn, .int .i64 a.seg, .int .i64 a.ext, .int .i64 a.flo, .int .i64 a.new, .int .i64 a.keep, .int .i64 a.next, .int .i64 a.cur] 71) * (HP.pt (w.heap.size + 1) (.cells #[.int .i64 0, .int .i64 0, .int .i64 0, .int .i64 0, .int .i64 0, .int .i64 0, .int .i64 0, .int .i64 0, .int .i64 0, .int .i64 0] 71) * q)))) := h5.perm (by ac_rfl)
      have HE := Aside.mk (And.intro (show (encI a.up.l).length = 80 by rw [encI_length]; rfl) (encI_bytes a.up.l))
      have HQ2 : Aside (∀ w', Sat E w' (HP.row 5 1 (.slice Av 80 cv) 80 (b8s (encI a.up.l)) * (HP.pt w.heap.size (.cells #[.int .i64 (a.seq + 1), .int .i64 a.gen, .int .i64 a.lsn, .int .i64 a.seg, .int .i64 a.ext, .int .i64 a.flo, .int .i64 a.new, .int .i64 a.keep, .int .i64 a.next, .int .i64 a.cur] 71) * (HP.pt (w.heap.size + 1) (.cells #[.int .i64 0, .int .i64 0, .int .i64 0, .int .i64 0, .int .i64 0, .int .i64 0, .int .i64 0, .int .i64 0, .int .i64 0, .int .i64 0] 71) * q))) → Quarter w' ∧ Cells w' Av (b8s (encI a.up.l))) := ⟨fun w' h => ⟨HQ.out w' h.right.right.right, h.row_cells⟩⟩
      have H6 := Aside.mk h6
      clear h5 h6
      go_wp2_with fail
      refine (pair_put E _ d A nameA 0 (a.seq + 1) Av (encI a.up.l) 80 cv _ HX.out HE.out.1 hcv HE.out.2 HQ2.out H6.out).mono ?_
      rintro e w4 ⟨rfl, h7⟩
      rw [show a.up.seq = a.seq + 1 from rfl] at HS
      obtain ⟨⟨c, B⟩, hcB⟩ : ∃ r, r = putP A nameA 0 (a.seq + 1) (encI a.up.l) := ⟨_, rfl⟩
      rw [← hcB] at h7 HS ⊢
      have h8 : Sat E w4 (HP.pt (w.heap.size + 1) (.cells #[.int .i64 0, .int .i64 0, .int .i64 0, .int .i64 0, .int .i64 0, .int .i64 0, .int .i64 0, .int .i64 0, .int .i64 0, .int .i64 0] 71) * (HP.pt w.heap.size (.cells #[.int .i64 (a.seq + 1), .int .i64 a.gen, .int .i64 a.lsn, .int .i64 a.seg, .int .i64 a.ext, .int .i64 a.flo, .int .i64 a.new, .int .i64 a.keep, .int .i64 a.next, .int .i64 a.cur] 71) * (HP.disk d B * q))) := (h7.perm (by ac_rfl : _ = HP.row 5 1 (.slice Av 80 cv) 80 (b8s (encI a.up.l)) * (HP.pt (w.heap.size + 1) (.cells #[.int .i64 0, .int .i64 0, .int .i64 0, .int .i64 0, .int .i64 0, .int .i64 0, .int .i64 0, .int .i64 0, .int .i64 0, .int .i64 0] 71) * (HP.pt w.heap.size (.cells #[.int .i64 (a.seq + 1), .int .i64 a.gen, .int .i64 a.lsn, .int .i64 a.seg, .int .i64 a.ext, .int .i64 a.flo, .int .i64 a.new, .int .i64 a.keep, .int .i64 a.next, .int .i64 a.cur] 71) * (HP.disk d B * q))))).right
      have H8 := Aside.mk h8
      clear h7 h8 hcB H6 HQ2 HE k1
      by_cases hc0 : c = 0
      · subst hc0
        have HS2 : Aside (saveP A a = ((a.up, 0), B)) := ⟨by rw [HS.out]; rfl⟩
        have r3 : (loadVar 71 ⟨w.heap.size, 0, none⟩).run Tryd.prog w4 = .ok (.agg (i8s a.up.l).toArray) w4 := run_loadAgg agAnch (cs := i8s a.up.l) rfl (Sat.ptCells (off := 0) H8.out.right rfl)
        clear HS
        have r2 : (storeVar 71 ⟨w.heap.size + 1, 0, none⟩ (.agg (i8s a.up.l).toArray)).run Tryd.prog w4 = .ok () (w4.setRow (w.heap.size + 1) (i8s a.up.l).toArray) := run_storeAgg agAnch (g := w.heap.size + 1) (off := 0) (cs := i8s a.up.l) H8.out.get rfl (by show 0 + 10 ≤ 10; omega) rfl
        have h9 := H8.out.splice (i8s a.up.l)
        have H9 := Aside.mk h9
        clear h9 H8
        generalize World.setRow w4 _ _ = w9 at *
        go_wp2_with (first | (refine wpList_load_run rfl rfl rfl r3 ?_) | (refine wpList_store_run rfl rfl rfl rfl rfl r2 ?_))
        go_wp2
        refine bodyPost_ret (results_cellTmp rfl rfl (run_loadAgg agAnch (cs := i8s a.up.l) rfl (Sat.ptCells (off := 0) H9.out rfl))) rfl ?_
        rw [HS2.out]
        exact ⟨rfl, H9.out.right.right⟩
      · have hcb : (c == 0) = false := by rw [beq_eq_false_iff_ne]; exact hc0
        have HS2 : Aside (saveP A a = ((zeroA, c), B)) := ⟨by rw [HS.out, if_neg hc0]⟩
        clear HS
        have r2 : (storeVar 71 ⟨w.heap.size + 1, 0, none⟩ (.agg (i8s zeroA.l).toArray)).run Tryd.prog w4 = .ok () (w4.setRow (w.heap.size + 1) (i8s zeroA.l).toArray) := run_storeAgg agAnch (g := w.heap.size + 1) (off := 0) (cs := i8s zeroA.l) H8.out.get rfl (by show 0 + 10 ≤ 10; omega) rfl
        have h9 := H8.out.splice (i8s zeroA.l)
        have H9 := Aside.mk h9
        clear h9 H8
        generalize World.setRow w4 _ _ = w9 at *
        go_wp2_with ((refine wpList_store_run rfl rfl rfl rfl rfl r2 ?_))
        go_wp2
        refine bodyPost_ret (results_cellTmp rfl rfl (run_loadAgg agAnch (cs := i8s zeroA.l) rfl (Sat.ptCells (off := 0) H9.out rfl))) rfl ?_
        rw [HS2.out]
        exact ⟨rfl, H9.out.right.right⟩
    · rw [if_neg hc] at h5
      have HS2 : Aside (saveP A a = ((zeroA, 1), A)) := ⟨by rw [HS.out, if_neg (fun h => hc h.2)]⟩
      clear hc HS
      obtain ⟨rfl, h5⟩ := h5
      have H8 := Aside.mk h5.s3
      clear h5
      have r2 : (storeVar 71 ⟨w.heap.size + 1, 0, none⟩ (.agg (i8s zeroA.l).toArray)).run Tryd.prog w3 = .ok () (w3.setRow (w.heap.size + 1) (i8s zeroA.l).toArray) := run_storeAgg agAnch (g := w.heap.size + 1) (off := 0) (cs := i8s zeroA.l) H8.out.get rfl (by show 0 + 10 ≤ 10; omega) rfl
      have h9 := H8.out.splice (i8s zeroA.l)
      have H9 := Aside.mk h9
      clear h9 H8
      generalize World.setRow w3 _ _ = w9 at *
      go_wp2_with ((refine wpList_store_run rfl rfl rfl rfl rfl r2 ?_))
      go_wp2
      refine bodyPost_ret (results_cellTmp rfl rfl (run_loadAgg agAnch (cs := i8s zeroA.l) rfl (Sat.ptCells (off := 0) H9.out rfl))) rfl ?_
      rw [HS2.out]
      exact ⟨rfl, H9.out.right.right⟩
end Go.Proofs.YtnllmkpbnccllaaDoor
/- awake of layer 17. -/
namespace Go.Proofs.YtnllmkpbnccllaaDoor
open Go.RowKit HP
set_option linter.unusedSimpArgs false
set_option linter.unusedVariables false

set_option maxHeartbeats 2000000 in
set_option maxRecDepth 100000 in
theorem awake17_ok (E : Env) (q : HP) (w : World) (hq : ∀ w, Sat E w q → Quarter w) (hw : Sat E w q) :
    Calls Tryd.prog 39 #[] w fun e w' => e = .returned (.bool true) ∧ Sat E w' q := by
  obtain ⟨B, hB⟩ := saved_end
  have HB := Aside.mk hB
  have HQ := Aside.mk (And.intro hq hw)
  clear hB hq hw
  go_enter Tryd.func39, Tryd.ntmps39
  go_wp2_with fail
  refine (disk_new_ok E q 2 _ ⟨by omega, by omega⟩ HQ.out.2).mono ?_
  rintro e w1 ⟨d, rfl, h1⟩
  have H1 := Aside.mk h1
  clear h1
  go_wp2_with fail
  refine (fresh_ok E _ _ H1.out).mono ?_
  rintro e w2 ⟨rfl, h2⟩
  have H2 := Aside.mk h2
  clear h2 H1
  rw [show freshA.val = .agg #[.int .i64 0, .int .i64 1, .int .i64 0, .int .i64 1, .int .i64 0, .int .i64 (-9223372036854775808), .int .i64 (-9223372036854775808), .int .i64 0, .int .i64 1, .int .i64 0] from rfl]
  go_wp2_with fail
  refine (anchor_save E q d (Dk.new 2) freshA _ (by decide) HQ.out.1 H2.out).mono ?_
  rintro e w3 ⟨rfl, h3⟩
  rw [HB.out.save] at h3 ⊢
  dsimp only at h3 ⊢
  rw [show freshA.up.val = .agg #[.int .i64 1, .int .i64 1, .int .i64 0, .int .i64 1, .int .i64 0, .int .i64 (-9223372036854775808), .int .i64 (-9223372036854775808), .int .i64 0, .int .i64 1, .int .i64 0] from rfl]
  have h4 := h3.alloc (.cells #[.int .i64 1, .int .i64 1, .int .i64 0, .int .i64 1, .int .i64 0, .int .i64 (-9223372036854775808), .int .i64 (-9223372036854775808), .int .i64 0, .int .i64 1, .int .i64 0] 71)
  have H4 : Aside (Sat E (w3.alloc (.cells #[.int .i64 1, .int .i64 1, .int .i64 0, .int .i64 1, .int .i64 0, .int .i64 (-9223372036854775808), .int .i64 (-9223372036854775808), .int .i64 0, .int .i64 1, .int .i64 0] 71)) (HP.disk d B * (HP.pt w3.heap.size (.cells #[.int .i64 1, .int .i64 1, .int .i64 0, .int .i64 1, .int .i64 0, .int .i64 (-9223372036854775808), .int .i64 (-9223372036854775808), .int .i64 0, .int .i64 1, .int .i64 0] 71) * q))) := ⟨h4.perm (by ac_rfl)⟩
  clear h3 h4 H2
  go_wp2_with fail
  refine (anchor_load E _ d B _ HB.out.bytes (fun w h => HQ.out.1 w h.right) H4.out).mono ?_
  rintro e w5 ⟨rfl, h5⟩
  rw [HB.out.load]
  dsimp only
  rw [show freshA.up.val = .agg #[.int .i64 1, .int .i64 1, .int .i64 0, .int .i64 1, .int .i64 0, .int .i64 (-9223372036854775808), .int .i64 (-9223372036854775808), .int .i64 0, .int .i64 1, .int .i64 0] from rfl]
  have h6 := (h5.right.alloc (.cells #[.int .i64 1, .int .i64 1, .int .i64 0, .int .i64 1, .int .i64 0, .int .i64 (-9223372036854775808), .int .i64 (-9223372036854775808), .int .i64 0, .int .i64 1, .int .i64 0] 71)).right
  have k0 := h6.cell 0
  have k1 := h6.cell 1
  have k2 := h6.cell 2
  have k3 := h6.cell 3
  have k4 := h6.cell 4
  have k5 := h6.cell 5
  have k6 := h6.cell 6
  have k7 := h6.cell 7
  have k8 := h6.cell 8
  have k9 := h6.cell 9
  simp only [List.getElem?_toArray, List.getElem?_cons_zero, List.getElem?_cons_succ] at k0 k1 k2 k3 k4 k5 k6 k7 k8 k9
  have H7 := Aside.mk h6
  clear h5 h6 H4
  go_wp2
  go_ret
  exact ⟨rfl, H7.out.right⟩
end Go.Proofs.YtnllmkpbnccllaaDoor
/- dryrotref01.Put, Get; dryrotref10.Big, Int. -/
namespace Go.Proofs.YtnllmkpbnccllaaDoor
open Go.RowKit HP
set_option linter.unusedSimpArgs false
set_option linter.unusedVariables false

set_option maxHeartbeats 1000000 in
set_option maxRecDepth 100000 in
theorem ref_put (E : Env) (q : HP) (n wd : Nat) (w : World) (hwd : wd ≤ 8) (hn : n < 18446744073709551616) (hw : Sat E w q) :
    Calls Tryd.prog 101 #[.int .u64 n, .int .i64 wd] w fun e w' => ∃ g, e = .returned (.slice (some ⟨g, 0, none⟩) wd wd) ∧ Sat E w' (HP.row 5 1 (.slice (some ⟨g, 0, none⟩) wd wd) wd (b8s (putI n wd)) * q) := by
  have hz : (if (0 : Int) > (wd : Int) then (0 : Int) else wd) = wd := by split <;> omega
  have hm : (if (8 : Int) < (wd : Int) then (8 : Int) else wd) = wd := by split <;> omega
  have HW := Aside.mk hw
  clear hw
  go_enter Tryd.func101, Tryd.ntmps101
  go_wp2_with (first
    | (refine wpList_make_row (n := wd) slB8 rfl rfl rfl rfl rfl HW.out (by unfold maxLen; omega) (by omega) (fun g w2 hw2 => ?_); have HW2 := Aside.mk hw2; clear hw2))
  go_loopw [0, 7] (fun v0 v7 wr => ∃ k : Nat, k ≤ wd ∧ (∃ i : Int, v7 = .int .i64 i ∧ i = (wd : Int) - 1 - k) ∧ (∃ m : Nat, v0 = .int .u64 m ∧ m < 18446744073709551616 ∧ Aside (m = n / 256 ^ k)) ∧ Aside (Sat E wr (HP.row 5 1 (.slice (some ⟨g, 0, none⟩) wd wd) wd (b8s (List.replicate (wd - k) 0 ++ (putI n wd).drop (wd - k))) * q))) (fun _ i _ => (intOf i + 1).toNat)
  case atStart => exact ⟨0, Nat.zero_le _, ⟨_, rfl, by omega⟩, ⟨n, rfl, hn, ⟨by simp⟩⟩, ⟨HW2.out.perm (by rw [Nat.sub_zero, List.drop_of_length_le (by rw [putI_length]; exact Nat.le_refl _), List.append_nil]; unfold b8s; rw [List.map_replicate])⟩⟩
  case round =>
    obtain ⟨k, hk, ⟨i, rfl, hi⟩, ⟨m, rfl, hm64, HM⟩, HS⟩ := hrel
    by_cases hlt : k < wd
    · obtain ⟨t, ht⟩ : ∃ t : Nat, i = (t : Int) := ⟨wd - 1 - k, by omega⟩
      subst ht
      have ht2 : t = wd - 1 - k := by omega
      have htl : t < (b8s (List.replicate (wd - k) 0 ++ (putI n wd).drop (wd - k))).length := by rw [b8s_length, List.length_append, List.length_replicate, List.length_drop, putI_length]; omega
      have f1 := HS.out.row_thaw t htl
      rw [Nat.zero_add] at f1
      have c1 := HS.out.row_cell t _ (List.getElem?_eq_getElem htl)
      rw [Nat.zero_add] at c1
      generalize (b8s (List.replicate (wd - k) 0 ++ (putI n wd).drop (wd - k)))[t] = old at c1
      have hr2 : (m : Int) % 256 = putD n k := by unfold putD; rw [← HM.out]; omega
      have hr1 : (m : Int).tmod 256 = putD n k := by rw [Int.tmod_eq_emod_of_nonneg (by omega)]; exact hr2
      have hpd := putD_byte n k
      obtain ⟨m2, hm2⟩ : ∃ m2 : Nat, m2 = m / 256 := ⟨_, rfl⟩
      have hd2 : (m : Int) / 256 = (m2 : Int) := by omega
      have hd1 : (m : Int).tdiv 256 = (m2 : Int) := by rw [Int.tdiv_eq_ediv_of_nonneg (by omega)]; exact hd2
      have HM2 : Aside (m2 = n / 256 ^ (k + 1)) := ⟨by rw [hm2, HM.out, Nat.div_div_eq_div_mul, Nat.pow_succ]⟩
      have hm264 : m2 < 18446744073709551616 := by omega
      have h1 := HS.out.row_set t htl (.int .u8 (putD n k))
      rw [ht2, put_set n wd k hlt, ← ht2, Nat.zero_add] at h1
      have H1 := Aside.mk h1
      have HI : Aside ((t : Int) - 1 = (wd : Int) - 1 - ((k + 1 : Nat) : Int)) := ⟨by push_cast; omega⟩
      have ht3 : (t : Int) < wd := by omega
      have ht4 : (0 : Int) ≤ t := by omega
      clear h1 htl ht2 hi
      generalize putD n k = pd at *
      clear hm2
      go_wp2
      exact ⟨⟨k + 1, by omega, ⟨_, rfl, HI.out⟩, ⟨m2, rfl, hm264, HM2⟩, ⟨H1.out⟩⟩, by simp only [intOf]; omega⟩
    · have hk' : k = wd := by omega
      subst hk'
      have H1 : Aside (Sat E wr (HP.row 5 1 (.slice (some ⟨g, 0, none⟩) k k) k (b8s (putI n k)) * q)) := ⟨by have := HS.out; rw [Nat.sub_self] at this; exact this⟩
      have hi2 : i = -1 := by omega
      subst hi2
      go_wp2
      go_ret
      exact ⟨g, rfl, H1.out⟩
set_option maxHeartbeats 1000000 in
set_option maxRecDepth 100000 in
theorem ref_get (A : Option Addr) (l : List Int) (n c : Nat) (w : World) (hln : l.length = n) (h0 : 0 < n) (h8 : n ≤ 8) (hb : Bytes l) (hc : Cells w A (b8s l)) :
    Calls Tryd.prog 93 #[.slice A n c] w fun e w' => e = .returned (.tuple #[.int .u64 (getN l), .bool true]) ∧ w' = w := by
  have HL := Aside.mk hln
  clear hln
  have h0' : ¬ (n : Int) < 1 := by omega
  have h8' : ¬ (8 : Int) < (n : Int) := by omega
  go_enter Tryd.func93, Tryd.ntmps93
  go_wp2
  go_loopw [4, 17] (fun v4 v17 wr => ∃ k : Nat, k ≤ n ∧ v17 = .int .i64 k ∧ (∃ r : Nat, v4 = .int .u64 r ∧ Aside (r = getN (l.take k) ∧ r < 256 ^ k)) ∧ wr = w) (fun _ i _ => n - (intOf i).toNat)
  case atStart => exact ⟨0, Nat.zero_le _, rfl, ⟨0, rfl, ⟨rfl, by decide⟩⟩, rfl⟩
  case round =>
    obtain ⟨k, hk, rfl, ⟨r, rfl, HR⟩, rfl⟩ := hrel
    by_cases hlt : k < n
    · have hltl : k < l.length := by rw [HL.out]; exact hlt
      have hlt2 : (k : Int) < n := by omega
      obtain ⟨a, rfl, hcx⟩ := hc.at_ k (by simpa [b8s] using hltl)
      have hxb := hb _ (List.getElem_mem hltl)
      have HN : Aside (l.take (k + 1) = l.take k ++ [l[k]]) := ⟨List.take_succ_eq_append_getElem hltl⟩
      simp only [b8s, List.getElem_map] at hcx
      obtain ⟨m, hm⟩ := Int.eq_ofNat_of_zero_le hxb.1
      rw [hm] at hcx hxb HN
      have hm8 : m < 256 := by omega
      have hr7 : r < 72057594037927936 := Nat.lt_of_lt_of_le HR.out.2 (Nat.le_trans (Nat.pow_le_pow_right (by decide) (show k ≤ 7 by omega)) (by decide))
      have HZ : Aside (r * 256 + m = getN (l.take (k + 1)) ∧ r * 256 + m < 256 ^ (k + 1)) := ⟨by
        rw [HN.out, getN_append_one, ← HR.out.1, Int.toNat_natCast, Nat.pow_succ]
        have := HR.out.2
        omega⟩
      obtain ⟨y, hy⟩ : ∃ y : Nat, y = r * 256 := ⟨_, rfl⟩
      obtain ⟨z, hz⟩ : ∃ z : Nat, z = y + m := ⟨_, rfl⟩
      rw [← hy, ← hz] at HZ
      have x1 : (r : Int) * 256 = (y : Int) := by omega
      have x3 : (y : Int) + (m : Int) = (z : Int) := by omega
      have w1 : IntKind.u64.wrap (y : Int) = (y : Int) := by rw [IntKind.wrap_u64]; omega
      have w2 : IntKind.u64.wrap (z : Int) = (z : Int) := by rw [IntKind.wrap_u64]; omega
      clear hm hxb hltl hy hz HN hr7
      go_wp2
      exact ⟨⟨k + 1, by omega, by push_cast; rfl, ⟨z, rfl, HZ⟩, trivial⟩, by simp only [intOf]; omega⟩
    · have hk' : k = n := by omega
      subst hk'
      have HE : Aside (getN l = r) := ⟨by rw [HR.out.1, ← HL.out, List.take_length]⟩
      go_wp2
      go_ret2
      rw [HE.out]
      exact ⟨rfl, rfl⟩
end Go.Proofs.YtnllmkpbnccllaaDoor
/- dryrotref10.Big, Int. -/
namespace Go.Proofs.YtnllmkpbnccllaaDoor
open Go.RowKit HP
set_option linter.unusedSimpArgs false
set_option linter.unusedVariables false

set_option maxHeartbeats 1000000 in
set_option maxRecDepth 100000 in
theorem big_ok (E : Env) (q : HP) (n : Int) (w : World) (hw : Sat E w q) :
    Calls Tryd.prog 80 #[.int .i64 n] w fun e w' => ∃ g, e = .returned (.slice (some ⟨g, 0, none⟩) 8 8) ∧ Sat E w' (HP.row 5 1 (.slice (some ⟨g, 0, none⟩) 8 8) 8 (b8s (putI (n64 n) 8)) * q) := by
  have hwr := n64_wrap n
  have HN := Aside.mk (n64_lt n)
  have HW := Aside.mk hw
  obtain ⟨m, hm⟩ : ∃ m, m = n64 n := ⟨_, rfl⟩
  rw [← hm] at hwr HN ⊢
  clear hm hw
  go_enter Tryd.func80, Tryd.ntmps80
  go_wp2_with fail
  refine (ref_put E _ m 8 _ (by omega) HN.out HW.out).mono ?_
  rintro e w4 ⟨g, rfl, h4⟩
  go_wp2
  go_ret
  exact ⟨g, rfl, h4⟩
set_option maxHeartbeats 1000000 in
set_option maxRecDepth 100000 in
theorem refint_ok (E : Env) (q : HP) (g o : Nat) (b : List Int) (n c : Nat) (w : World) (hln : b.length = n) (h8 : 8 ≤ n) (hnc : n ≤ c) (hb : Bytes b) (hq : ∀ w, Sat E w q → Cells w (some ⟨g, o, none⟩) (b8s b)) (hw : Sat E w q) :
    Calls Tryd.prog 81 #[.slice (some ⟨g, o, none⟩) n c, .int .i64 8] w fun e w' => (∃ o', e = .returned (.tuple #[.int .i64 (wrap64 (getN (b.take 8) : Int)), .slice (some ⟨g, o', none⟩) (n - 8) (c - 8), .bool true]) ∧ (8 < n → o' = o + 8)) ∧ Sat E w' q := by
  have c2 : Cells w (some ⟨g, o, none⟩) (b8s (b.take 8)) := by
    have := (hq w hw).take 8
    unfold b8s at this ⊢
    rw [List.map_take]
    exact this
  have l2 : (b.take 8).length = 8 := by rw [List.length_take]; omega
  have b2 : Bytes (b.take 8) := fun y hy => hb y (List.mem_of_mem_take hy)
  have H2 := Aside.mk (And.intro c2 (And.intro l2 (And.intro b2 hw)))
  have h8' : ¬ (n : Int) < 8 := by omega
  have h8c : (8 : Int) ≤ n := by omega
  have h8d : (8 : Int) ≤ c := by omega
  clear c2 l2 b2 hq hw hb hln
  go_enter Tryd.func81, Tryd.ntmps81
  go_wp2_with fail
  refine (ref_get (some ⟨g, o, none⟩) (b.take 8) 8 _ w H2.out.2.1 (by omega) (by omega) H2.out.2.2.1 H2.out.1).mono ?_
  rintro e w1 ⟨rfl, hw1⟩
  subst w1
  go_wp2
  refine region_R [] [] (fun _ => True) #[false, false, false, false, false, false, false, false] (by kernel_rfl) rfl rfl ?_
  refine wpR_rd 0 #[true, false, false, false, false, false, false, false] rfl onlyN_noPanic (by kernel_rfl) (fun K hK => ?_); (go_simp; try go_bits); refine hK _ ?_; clear hK K
  refine wpR_rd 1 #[true, true, false, false, false, false, false, false] rfl onlyN_noPanic (by kernel_rfl) (fun K hK => ?_); (go_simp; try go_bits); refine hK _ ?_; clear hK K
  refine wpR_rd 2 #[true, true, true, false, false, false, false, false] rfl onlyN_noPanic (by kernel_rfl) (fun K hK => ?_); (go_simp; try go_bits); refine hK _ ?_; clear hK K
  refine wpR_rd 3 #[true, true, true, true, false, false, false, false] rfl onlyN_noPanic (by kernel_rfl) (fun K hK => ?_); (go_simp; try go_bits); refine hK _ ?_; clear hK K
  refine wpR_rd 4 #[true, true, true, true, true, false, false, false] rfl onlyN_noPanic (by kernel_rfl) (fun K hK => ?_); (go_simp; try go_bits); refine hK _ ?_; clear hK K
  refine wpR_rd 5 #[true, true, true, true, true, true, false, false] rfl onlyN_noPanic (by kernel_rfl) (fun K hK => ?_); (go_simp; try go_bits); refine hK _ ?_; clear hK K
  refine wpR_rd 6 #[true, true, true, true, true, true, true, false] rfl onlyN_noPanic (by kernel_rfl) (fun K hK => ?_); (go_simp; try go_bits); refine hK _ ?_; clear hK K
  refine wpR_rd 7 #[true, true, true, true, true, true, true, true] rfl onlyN_noPanic (by kernel_rfl) (fun K hK => ?_); (go_simp; try go_bits); refine hK _ ?_; clear hK K
  refine wpR_done (by kernel_rfl) ?_ _
  simp only [OnlyN]
  go_wp2
  all_goals (go_ret3; exact ⟨⟨_, rfl, by omega⟩, H2.out.2.2.2.drew⟩)
end Go.Proofs.YtnllmkpbnccllaaDoor
/- dryrotref17.Can. -/
namespace Go.Proofs.YtnllmkpbnccllaaDoor
open Go.RowKit HP
set_option linter.unusedSimpArgs false
set_option linter.unusedVariables false

set_option maxHeartbeats 4000000 in
set_option maxRecDepth 100000 in
theorem refcan_ok (E : Env) (q : HP) (a : Anch) (w : World) (hw : Sat E w q) :
    Calls Tryd.prog 38 #[.agg #[.int .i64 a.seq, .int .i64 a.gen, .int .i64 a.lsn, .int .i64 a.seg, .int .i64 a.ext, .int .i64 a.flo, .int .i64 a.new, .int .i64 a.keep, .int .i64 a.next, .int .i64 a.cur]] w fun e w' => e = .returned (.bool (canA a)) ∧ Sat E w' q := by
  have h1 := (hw.alloc (.cells #[.int .i64 a.seq, .int .i64 a.gen, .int .i64 a.lsn, .int .i64 a.seg, .int .i64 a.ext, .int .i64 a.flo, .int .i64 a.new, .int .i64 a.keep, .int .i64 a.next, .int .i64 a.cur] 71))
  have h2 := h1.alloc (.cells (i8s [a.seq, a.gen, a.seg, a.next]).toArray 3)
  have hz : (w.alloc (.cells #[.int .i64 a.seq, .int .i64 a.gen, .int .i64 a.lsn, .int .i64 a.seg, .int .i64 a.ext, .int .i64 a.flo, .int .i64 a.new, .int .i64 a.keep, .int .i64 a.next, .int .i64 a.cur] 71)).heap.size = w.heap.size + 1 := by simp
  rw [hz] at h2
  have H2 := Aside.mk h2
  have HC : Aside (canA a = (btw 1 [a.seq, a.gen, a.seg, a.next] && btw 0 [a.lsn, a.ext, a.keep, a.cur])) := ⟨rfl⟩
  clear hw h1 h2 hz
  go_enter Tryd.func38, Tryd.ntmps38
  go_wp2
  go_loopw [17] (fun v17 wr => ∃ k : Nat, k ≤ 4 ∧ v17 = .int .i64 k ∧ Aside (btw 1 ([a.seq, a.gen, a.seg, a.next].take k) = true) ∧ Aside (Sat E wr (HP.pt (w.heap.size + 1) (.cells (i8s [a.seq, a.gen, a.seg, a.next]).toArray 3) * (HP.pt w.heap.size (.cells #[.int .i64 a.seq, .int .i64 a.gen, .int .i64 a.lsn, .int .i64 a.seg, .int .i64 a.ext, .int .i64 a.flo, .int .i64 a.new, .int .i64 a.keep, .int .i64 a.next, .int .i64 a.cur] 71) * q)))) (fun i _ => 4 - (intOf i).toNat)
  case atStart => exact ⟨0, by omega, rfl, ⟨rfl⟩, H2⟩
  case round =>
    obtain ⟨k, hk, rfl, HB, HS⟩ := hrel
    by_cases hlt : k < 4
    · have hlt2 : (k : Int) < 4 := by omega
      obtain ⟨x, hx⟩ : ∃ x, [a.seq, a.gen, a.seg, a.next][k]? = some x := ⟨_, List.getElem?_eq_getElem (show k < 4 from hlt)⟩
      have gx : wr.cell? ⟨(w.heap.size + 1), k, none⟩ = some (.int .i64 x) := by
        have := (Sat.ptCells (off := 0) (l := i8s [a.seq, a.gen, a.seg, a.next]) HS.out rfl).some_ k (.int .i64 x) (by unfold i8s; rw [List.getElem?_map, hx]; rfl)
        rw [addr_add, Nat.zero_add] at this
        exact this
      have HX := Aside.mk hx
      clear hx
      by_cases h1 : x < 1
      · have HN : Aside (btw 1 [a.seq, a.gen, a.seg, a.next] = false) := ⟨btw_bad HX.out (by unfold nOk; rw [decide_eq_false (by omega)]; rfl)⟩
        go_wp2
        go_ret
        rw [HC.out, HN.out]
        exact ⟨rfl, HS.out.right.right⟩
      · by_cases h2 : 4611686018427387904 < x
        · have HN : Aside (btw 1 [a.seq, a.gen, a.seg, a.next] = false) := ⟨btw_bad HX.out (by unfold nOk; rw [decide_eq_true (by omega), decide_eq_false (by omega)]; rfl)⟩
          go_wp2
          go_ret
          rw [HC.out, HN.out]
          exact ⟨rfl, HS.out.right.right⟩
        · have HN : Aside (btw 1 ([a.seq, a.gen, a.seg, a.next].take (k + 1)) = true) := ⟨by rw [btw_take HX.out, HB.out]; unfold nOk; rw [decide_eq_true (by omega), decide_eq_true (by omega)]; rfl⟩
          go_wp2
          go_roundw
          case rel => exact ⟨k + 1, by omega, by push_cast; rfl, HN, HS⟩
          case measure => simp [intOf]; omega
    · obtain rfl : k = 4 := by omega
      have HN : Aside (btw 1 [a.seq, a.gen, a.seg, a.next] = true) := ⟨HB.out⟩
      have HN1 : Aside (btw 1 [a.seq, a.gen, a.seg, a.next] = true) := HN
      clear HN HB
      have h2 := HS.out.right
      have k0 := h2.cell 2
      have k1 := h2.cell 4
      have k2 := h2.cell 7
      have k3 := h2.cell 9
      simp only [List.getElem?_toArray, List.getElem?_cons_zero, List.getElem?_cons_succ] at k0 k1 k2 k3
      have H3 := Aside.mk (h2.alloc (.cells (i8s [a.lsn, a.ext, a.keep, a.cur]).toArray 3))
      clear h2
      obtain ⟨b2, hb2⟩ : ∃ b, b = wr.heap.size := ⟨_, rfl⟩
      rw [← hb2] at H3
      go_wp2
      rw [← hb2]
      clear hb2 k0 k1 k2 k3
      go_loopw [38] (fun v38 wr => ∃ k : Nat, k ≤ 4 ∧ v38 = .int .i64 k ∧ Aside (btw 0 ([a.lsn, a.ext, a.keep, a.cur].take k) = true) ∧ Aside (Sat E wr (HP.pt b2 (.cells (i8s [a.lsn, a.ext, a.keep, a.cur]).toArray 3) * (HP.pt w.heap.size (.cells #[.int .i64 a.seq, .int .i64 a.gen, .int .i64 a.lsn, .int .i64 a.seg, .int .i64 a.ext, .int .i64 a.flo, .int .i64 a.new, .int .i64 a.keep, .int .i64 a.next, .int .i64 a.cur] 71) * q)))) (fun i _ => 4 - (intOf i).toNat)
      case atStart => exact ⟨0, by omega, rfl, ⟨rfl⟩, H3⟩
      case round =>
        obtain ⟨k, hk, rfl, HB, HS⟩ := hrel
        by_cases hlt : k < 4
        · have hlt2 : (k : Int) < 4 := by omega
          obtain ⟨x, hx⟩ : ∃ x, [a.lsn, a.ext, a.keep, a.cur][k]? = some x := ⟨_, List.getElem?_eq_getElem (show k < 4 from hlt)⟩
          have gx : wr.cell? ⟨b2, k, none⟩ = some (.int .i64 x) := by
            have := (Sat.ptCells (off := 0) (l := i8s [a.lsn, a.ext, a.keep, a.cur]) HS.out rfl).some_ k (.int .i64 x) (by unfold i8s; rw [List.getElem?_map, hx]; rfl)
            rw [addr_add, Nat.zero_add] at this
            exact this
          have HX := Aside.mk hx
          clear hx
          by_cases h1 : x < 0
          · have HN : Aside (btw 0 [a.lsn, a.ext, a.keep, a.cur] = false) := ⟨btw_bad HX.out (by unfold nOk; rw [decide_eq_false (by omega)]; rfl)⟩
            go_wp2
            go_ret
            rw [HC.out, HN.out]
            exact ⟨by rw [HN1.out]; rfl, HS.out.right.right⟩
          · by_cases h2 : 4611686018427387904 < x
            · have HN : Aside (btw 0 [a.lsn, a.ext, a.keep, a.cur] = false) := ⟨btw_bad HX.out (by unfold nOk; rw [decide_eq_true (by omega), decide_eq_false (by omega)]; rfl)⟩
              go_wp2
              go_ret
              rw [HC.out, HN.out]
              exact ⟨by rw [HN1.out]; rfl, HS.out.right.right⟩
            · have HN : Aside (btw 0 ([a.lsn, a.ext, a.keep, a.cur].take (k + 1)) = true) := ⟨by rw [btw_take HX.out, HB.out]; unfold nOk; rw [decide_eq_true (by omega), decide_eq_true (by omega)]; rfl⟩
              go_wp2
              go_roundw
              case rel => exact ⟨k + 1, by omega, by push_cast; rfl, HN, HS⟩
              case measure => simp [intOf]; omega
        · obtain rfl : k = 4 := by omega
          have HN : Aside (btw 0 [a.lsn, a.ext, a.keep, a.cur] = true) := ⟨HB.out⟩
          go_wp2
          go_ret
          rw [HC.out, HN.out, HN1.out]
          exact ⟨rfl, HS.out.right.right⟩
end Go.Proofs.YtnllmkpbnccllaaDoor
/- dryrotref17.Encode, Decode. -/
namespace Go.Proofs.YtnllmkpbnccllaaDoor
open Go.RowKit HP
set_option linter.unusedSimpArgs false
set_option linter.unusedVariables false

set_option maxHeartbeats 2000000 in
set_option maxRecDepth 100000 in
theorem refenc_ok (E : Env) (q : HP) (a : Anch) (w : World) (hw : Sat E w q) :
    Calls Tryd.prog 41 #[.agg #[.int .i64 a.seq, .int .i64 a.gen, .int .i64 a.lsn, .int .i64 a.seg, .int .i64 a.ext, .int .i64 a.flo, .int .i64 a.new, .int .i64 a.keep, .int .i64 a.next, .int .i64 a.cur]] w (encEnd E q a) := by
  have H1 := Aside.mk (hw.alloc (.cells #[.int .i64 a.seq, .int .i64 a.gen, .int .i64 a.lsn, .int .i64 a.seg, .int .i64 a.ext, .int .i64 a.flo, .int .i64 a.new, .int .i64 a.keep, .int .i64 a.next, .int .i64 a.cur] 71))
  clear hw
  go_enter Tryd.func41, Tryd.ntmps41
  go_wp2_with fail
  refine (refcan_ok E _ a _ H1.out).mono ?_
  rintro e w1 ⟨rfl, h2⟩
  have H2 := Aside.mk h2
  clear h2 H1
  obtain ⟨cb, hcb⟩ : ∃ cb, cb = canA a := ⟨_, rfl⟩
  rw [← hcb]
  have HC := Aside.mk hcb
  clear hcb
  cases cb with
  | false =>
    go_wp2
    go_ret2
    exact encEnd_no HC.out.symm rfl H2.out.right
  | true =>
    have k0 := H2.out.cell 0
    have k1 := H2.out.cell 1
    have k2 := H2.out.cell 2
    have k3 := H2.out.cell 3
    have k4 := H2.out.cell 4
    have k5 := H2.out.cell 5
    have k6 := H2.out.cell 6
    have k7 := H2.out.cell 7
    have k8 := H2.out.cell 8
    have k9 := H2.out.cell 9
    simp only [List.getElem?_toArray, List.getElem?_cons_zero, List.getElem?_cons_succ] at k0 k1 k2 k3 k4 k5 k6 k7 k8 k9
    have H3 := Aside.mk ((H2.out.right.alloc (.cells (i8s a.l).toArray 3)).row_nil 5 1 none)
    obtain ⟨bl, hbl⟩ : ∃ x, x = w1.heap.size := ⟨_, rfl⟩
    rw [← hbl] at H3
    go_wp2
    rw [← hbl]
    clear hbl
    go_loopw [4, 32] (fun v4 v32 wr => ∃ k : Nat, k ≤ 10 ∧ v32 = .int .i64 k ∧ Aside (Sat E wr (HP.row 5 1 v4 (8 * k) (b8s (encI (a.l.take k))) * (HP.pt bl (.cells (i8s a.l).toArray 3) * q)))) (fun _ i _ => 10 - (intOf i).toNat)
    case atStart => exact ⟨0, by omega, rfl, H3⟩
    case round =>
      obtain ⟨k, hk, rfl, HS⟩ := hrel
      clear k0 k1 k2 k3 k4 k5 k6 k7 k8 k9 H3 H2
      by_cases hlt : k < 10
      · obtain ⟨x, hx⟩ : ∃ x, a.l[k]? = some x := ⟨_, List.getElem?_eq_getElem (show k < 10 from hlt)⟩
        have gx : wr.cell? ⟨bl, k, none⟩ = some (.int .i64 x) := by
          have := (Sat.ptCells (off := 0) (l := i8s a.l) HS.out.right rfl).some_ k (.int .i64 x) (by unfold i8s; rw [List.getElem?_map, hx]; rfl)
          rw [addr_add, Nat.zero_add] at this
          exact this
        have HX := Aside.mk (encI_take hx)
        have hlt2 : (k : Int) < 10 := by omega
        clear hx
        go_wp2_with fail
        refine (big_ok E _ x _ HS.out).mono ?_
        rintro e w4 ⟨g, rfl, h4⟩
        have h5 := h4.s2
        obtain ⟨ol, hol⟩ : ∃ ol, ol = 8 * k := ⟨_, rfl⟩
        rw [← hol] at h5
        have ho : ol ≤ 80 := by omega
        have H5 := Aside.mk (And.intro h5 (And.intro h4.row_cells (show (b8s (putI (n64 x) 8)).length = 8 * 1 by rw [b8s_length, putI_length])))
        have HO := Aside.mk hol
        clear h4 h5 hol gx
        go_wp2_with (at_builtin; refine wpList_append_row slB8 rfl rfl (by rfl) (by rfl) H5.out.1 H5.out.2.1 H5.out.2.2 (b8s_one _) (by unfold maxLen; omega) (by omega) (fun v5 w5 hw5 => ?_); obtain ⟨A5, c5, rfl, -, -⟩ := hw5.row_slice; have HW5 := Aside.mk hw5; clear hw5)
        have H6 : Aside (Sat E w5 (HP.row 5 1 (.slice A5 (ol + 8) c5) (8 * (k + 1)) (b8s (encI (a.l.take (k + 1)))) * (HP.pt bl (.cells (i8s a.l).toArray 3) * q))) := ⟨by
          rw [HX.out, b8s_append, show 8 * (k + 1) = ol + 8 by have := HO.out; omega]
          exact HW5.out.drop2⟩
        clear HW5 H5
        go_wp2
        go_roundw
        case rel => exact ⟨k + 1, by omega, by push_cast; rfl, H6⟩
        case measure => simp [intOf]; omega
      · obtain rfl : k = 10 := by omega
        have H7 : Aside (Sat E wr (HP.row 5 1 u4 80 (b8s (encI a.l)) * q)) := ⟨HS.out.drop2⟩
        clear HS
        go_wp2
        go_ret2
        exact encEnd_yes HC.out.symm rfl H7.out
theorem decL_take (b : List Int) : ∀ k : Nat, k < 10 → (decA b).l[k]? = some (decN b k)
  | 0, _ => rfl
  | 1, _ => rfl
  | 2, _ => rfl
  | 3, _ => rfl
  | 4, _ => rfl
  | 5, _ => rfl
  | 6, _ => rfl
  | 7, _ => rfl
  | 8, _ => rfl
  | 9, _ => rfl
  | k + 10, h => by omega
theorem slI8 : SlTy Tryd.prog 52 3 (.int .i64 0) 1 8 := ⟨Tryd.underlying52, by kernel_rfl, rfl, by decide⟩
set_option maxHeartbeats 4000000 in
set_option maxRecDepth 100000 in
theorem refdec_ok (E : Env) (q : HP) (A : Option Addr) (b : List Int) (n c : Nat) (w : World) (hln : b.length = n) (hnc : n ≤ c) (hcm : c ≤ maxLen) (hb : Bytes b) (hq : ∀ w, Sat E w q → Cells w A (b8s b)) (hw : Sat E w q) :
    Calls Tryd.prog 42 #[.slice A n c] w fun e w' => e = .returned (.tuple #[(decP b).1.val, .int .i64 (decP b).2]) ∧ Sat E w' q := by
  have h1 := hw.alloc (.cells #[.int .i64 0, .int .i64 0, .int .i64 0, .int .i64 0, .int .i64 0, .int .i64 0, .int .i64 0, .int .i64 0, .int .i64 0, .int .i64 0] 71)
  by_cases h80 : n = 80
  · subst h80
    have HC : Aside (decP b = if canA (decA b) = true then (decA b, 0) else (zeroA, 5)) := ⟨by
      unfold decP
      by_cases hc : canA (decA b) = true
      · rw [if_pos ⟨hln, hc⟩, if_pos hc]
      · rw [if_neg (fun h => hc h.2), if_neg hc]⟩
    have hcw := hq _ h1.right
    obtain ⟨a0, rfl, -⟩ := hcw.at_ 0 (by rw [b8s_length, hln]; decide)
    obtain ⟨g, o, rfl⟩ := slice_addr hcw rfl (k := 0) (by rw [b8s_length, hln]; decide)
    have HQ := Aside.mk (And.intro hln (And.intro hb hq))
    have H1 := Aside.mk (h1.row_nil 3 1 none)
    clear hw h1 hq hb hln hcw
    go_enter Tryd.func42, Tryd.ntmps42
    go_wp2
    go_loopw [0, 4] (fun v0 v4 wr => ∃ k : Nat, k ≤ 10 ∧ (∃ o', v0 = .slice (some ⟨g, o', none⟩) (80 - 8 * k) (c - 8 * k) ∧ (k < 10 → o' = o + 8 * k)) ∧ Aside (Sat E wr (HP.row 3 1 v4 k (i8s ((decA b).l.take k)) * (HP.pt w.heap.size (.cells #[.int .i64 0, .int .i64 0, .int .i64 0, .int .i64 0, .int .i64 0, .int .i64 0, .int .i64 0, .int .i64 0, .int .i64 0, .int .i64 0] 71) * q)))) (fun v _ _ => (match v with | .slice _ n _ => n | _ => 0))
    case atStart => exact ⟨0, by omega, ⟨o, rfl, fun _ => rfl⟩, H1⟩
    case round =>
      obtain ⟨k, hk, ⟨o', rfl, ho⟩, HS⟩ := hrel
      by_cases hlt : k < 10
      · obtain rfl := ho hlt
        obtain ⟨n', hn'⟩ : ∃ n', n' = 80 - 8 * k := ⟨_, rfl⟩
        obtain ⟨c', hc'⟩ : ∃ c', c' = c - 8 * k := ⟨_, rfl⟩
        obtain ⟨n2, hn2⟩ : ∃ n2, n2 = 80 - 8 * (k + 1) := ⟨_, rfl⟩
        obtain ⟨c2, hc2⟩ : ∃ c2, c2 = c - 8 * (k + 1) := ⟨_, rfl⟩
        have HN : Aside (n2 = 80 - 8 * (k + 1) ∧ c2 = c - 8 * (k + 1)) := ⟨hn2, hc2⟩
        have hn8 : 8 ≤ n' := by omega
        have hnc' : n' ≤ c' := by omega
        have e1 : n' - 8 = n2 := by omega
        have e2 : c' - 8 = c2 := by omega
        have hlt2 : n2 < n' := by omega
        have hn0 : (0 : Int) < n' := by omega
        have h10 : 8 < n' → k + 1 < 10 := by omega
        have h11 : k + 1 < 10 → 8 < n' := by omega
        rw [← hn', ← hc']
        have HD := Aside.mk (And.intro (show (b.drop (8 * k)).length = n' by rw [List.length_drop, HQ.out.1]; omega) (And.intro h11 (And.intro e1 e2)))
        clear hn' hc' hn2 hc2 h10 h11 e1 e2 ho
        go_wp2_with fail
        refine (refint_ok E _ g (o + 8 * k) (b.drop (8 * k)) n' c' _ HD.out.1 hn8 hnc' (fun y hy => HQ.out.2.1 y (List.mem_of_mem_drop hy)) (fun w' h => by
          have := (HQ.out.2.2 w' h.right.right).drop (8 * k)
          rw [addr_add] at this
          unfold b8s at this ⊢
          rw [List.map_drop]
          exact this) HS.out).mono ?_
        rintro e w2 ⟨⟨o2, rfl, ho2⟩, h3⟩
        rw [HD.out.2.2.1, HD.out.2.2.2]
        obtain ⟨x, hx⟩ : ∃ x, x = wrap64 (getN ((b.drop (8 * k)).take 8) : Int) := ⟨_, rfl⟩
        rw [← hx]
        have HX : Aside (decN b k = x) := ⟨by rw [hx]; rfl⟩
        have HO2 := Aside.mk ho2
        have H5 := Aside.mk (And.intro (h3.alloc (.cells [Value.int .i64 x].toArray 3)).right (And.intro (Cells.fresh w2 [Value.int .i64 x] 3 (0, 0)) (show [Value.int .i64 x].length = 1 * 1 from rfl)))
        clear hx h3 ho2
        go_wp2_with (at_builtin; refine wpList_append_row slI8 rfl rfl (by rfl) (by rfl) H5.out.1 H5.out.2.1 H5.out.2.2 rfl (by unfold maxLen; omega) (by omega) (fun v5 w5 hw5 => ?_); obtain ⟨A5, c5, rfl, -, -⟩ := hw5.row_slice; have HW5 := Aside.mk hw5; clear hw5)
        have H6 : Aside (Sat E w5 (HP.row 3 1 (.slice A5 (k + 1) c5) (k + 1) (i8s ((decA b).l.take (k + 1))) * (HP.pt w.heap.size (.cells #[.int .i64 0, .int .i64 0, .int .i64 0, .int .i64 0, .int .i64 0, .int .i64 0, .int .i64 0, .int .i64 0, .int .i64 0, .int .i64 0] 71) * q))) := ⟨by
          rw [List.take_add_one, decL_take b k hlt, HX.out]
          unfold i8s
          rw [List.map_append]
          exact HW5.out⟩
        clear HW5 H5
        go_wp2
        go_roundw
        case rel => exact ⟨k + 1, by omega, ⟨o2, by rw [HN.out.1, HN.out.2], fun h => by have := HO2.out (HD.out.2.1 h); omega⟩, H6⟩
        case measure => exact hlt2
      · obtain rfl : k = 10 := by omega
        rw [show 80 - 8 * 10 = 0 from rfl]
        obtain ⟨A4, c4, rfl, hc4, hm4⟩ := HS.out.row_slice
        have hcl := HS.out.row_cells
        obtain ⟨a0, rfl, -⟩ := hcl.at_ 0 (by unfold i8s; rw [List.length_map]; show 0 < 10; omega)
        obtain ⟨gl, ol, rfl⟩ := slice_addr hcl rfl (k := 0) (by unfold i8s; rw [List.length_map]; show 0 < 10; omega)
        have hT : ∀ W, Cells W (some ⟨gl, ol, none⟩) (i8s ((decA b).l.take 10)) → World.cell? W ⟨gl, ol, none⟩ = some (.int .i64 (decN b 0)) ∧ World.cell? W ⟨gl, ol + 1, none⟩ = some (.int .i64 (decN b 1)) ∧ World.cell? W ⟨gl, ol + 2, none⟩ = some (.int .i64 (decN b 2)) ∧ World.cell? W ⟨gl, ol + 3, none⟩ = some (.int .i64 (decN b 3)) ∧ World.cell? W ⟨gl, ol + 4, none⟩ = some (.int .i64 (decN b 4)) ∧ World.cell? W ⟨gl, ol + 5, none⟩ = some (.int .i64 (decN b 5)) ∧ World.cell? W ⟨gl, ol + 6, none⟩ = some (.int .i64 (decN b 6)) ∧ World.cell? W ⟨gl, ol + 7, none⟩ = some (.int .i64 (decN b 7)) ∧ World.cell? W ⟨gl, ol + 8, none⟩ = some (.int .i64 (decN b 8)) ∧ World.cell? W ⟨gl, ol + 9, none⟩ = some (.int .i64 (decN b 9)) := fun W h => by
          refine ⟨?_, ?_, ?_, ?_, ?_, ?_, ?_, ?_, ?_, ?_⟩
          · exact h.some_ 0 _ rfl
          · have := h.some_ 1 _ rfl; rwa [addr_add] at this
          · have := h.some_ 2 _ rfl; rwa [addr_add] at this
          · have := h.some_ 3 _ rfl; rwa [addr_add] at this
          · have := h.some_ 4 _ rfl; rwa [addr_add] at this
          · have := h.some_ 5 _ rfl; rwa [addr_add] at this
          · have := h.some_ 6 _ rfl; rwa [addr_add] at this
          · have := h.some_ 7 _ rfl; rwa [addr_add] at this
          · have := h.some_ 8 _ rfl; rwa [addr_add] at this
          · have := h.some_ 9 _ rfl; rwa [addr_add] at this
        have HT := hT _ HS.out.drew.row_cells
        have HT2 := hT _ (HS.out.drew.alloc (.cells #[.int .i64 0, .int .i64 0, .int .i64 0, .int .i64 0, .int .i64 0, .int .i64 0, .int .i64 0, .int .i64 0, .int .i64 0, .int .i64 0] 71)).right.row_cells
        have H3 := Aside.mk (HS.out.alloc (.cells #[.int .i64 (decN b 0), .int .i64 (decN b 1), .int .i64 (decN b 2), .int .i64 (decN b 3), .int .i64 (decN b 4), .int .i64 (decN b 5), .int .i64 (decN b 6), .int .i64 (decN b 7), .int .i64 (decN b 8), .int .i64 (decN b 9)] 71)).drew
        clear hT hcl
        go_wp2
        refine region_R [31, 32] [31] (fun w => w.cell? ⟨gl, ol, none⟩ = some (.int .i64 (decN b 0)) ∧ w.cell? ⟨gl, ol + 1, none⟩ = some (.int .i64 (decN b 1)) ∧ w.cell? ⟨gl, ol + 2, none⟩ = some (.int .i64 (decN b 2)) ∧ w.cell? ⟨gl, ol + 3, none⟩ = some (.int .i64 (decN b 3)) ∧ w.cell? ⟨gl, ol + 4, none⟩ = some (.int .i64 (decN b 4)) ∧ w.cell? ⟨gl, ol + 5, none⟩ = some (.int .i64 (decN b 5)) ∧ w.cell? ⟨gl, ol + 6, none⟩ = some (.int .i64 (decN b 6)) ∧ w.cell? ⟨gl, ol + 7, none⟩ = some (.int .i64 (decN b 7)) ∧ w.cell? ⟨gl, ol + 8, none⟩ = some (.int .i64 (decN b 8)) ∧ w.cell? ⟨gl, ol + 9, none⟩ = some (.int .i64 (decN b 9))) #[false, false, false, false, false, false, false, false, false, false, false, false, false, false, false, false, false, false, false, false, false, false, false, false, false, false, false, false, false, false, false, false, false] (by kernel_rfl) rfl rfl ?_
        refine wpR_pu 0 #[true, false, false, false, false, false, false, false, false, false, false, false, false, false, false, false, false, false, false, false, false, false, false, false, false, false, false, false, false, false, false, false, false] rfl onlyN_noPanic (by kernel_rfl) (fun K hK => ?_); (go_simp; try go_bits); refine hK _ ?_; clear hK K
        refine wpR_pu 1 #[true, true, false, false, false, false, false, false, false, false, false, false, false, false, false, false, false, false, false, false, false, false, false, false, false, false, false, false, false, false, false, false, false] rfl onlyN_noPanic (by kernel_rfl) (fun K hK => ?_); (go_simp; try go_bits); refine hK _ ?_; clear hK K
        refine wpR_held (i := 2) (v := (.int .i64 (decN b 0))) #[true, true, true, false, false, false, false, false, false, false, false, false, false, false, false, false, false, false, false, false, false, false, false, false, false, false, false, false, false, false, false, false, false] rfl onlyN_noPanic (by kernel_rfl) HT (.inl ⟨rfl, fun w' hT => ?_⟩) ?_
        · obtain ⟨t0, t1, t2, t3, t4, t5, t6, t7, t8, t9⟩ := hT
          go_simp
        simp only [Act.put, List.setIfInBounds_toArray, List.set_cons_zero, List.set_cons_succ]
        refine wpR_pu 3 #[true, true, true, true, false, false, false, false, false, false, false, false, false, false, false, false, false, false, false, false, false, false, false, false, false, false, false, false, false, false, false, false, false] rfl onlyN_noPanic (by kernel_rfl) (fun K hK => ?_); (go_simp; try go_bits); refine hK _ ?_; clear hK K
        refine wpR_pu 4 #[true, true, true, true, true, false, false, false, false, false, false, false, false, false, false, false, false, false, false, false, false, false, false, false, false, false, false, false, false, false, false, false, false] rfl onlyN_noPanic (by kernel_rfl) (fun K hK => ?_); (go_simp; try go_bits); refine hK _ ?_; clear hK K
        refine wpR_held (i := 5) (v := (.int .i64 (decN b 1))) #[true, true, true, true, true, true, false, false, false, false, false, false, false, false, false, false, false, false, false, false, false, false, false, false, false, false, false, false, false, false, false, false, false] rfl onlyN_noPanic (by kernel_rfl) HT (.inl ⟨rfl, fun w' hT => ?_⟩) ?_
        · obtain ⟨t0, t1, t2, t3, t4, t5, t6, t7, t8, t9⟩ := hT
          go_simp
        simp only [Act.put, List.setIfInBounds_toArray, List.set_cons_zero, List.set_cons_succ]
        refine wpR_pu 6 #[true, true, true, true, true, true, true, false, false, false, false, false, false, false, false, false, false, false, false, false, false, false, false, false, false, false, false, false, false, false, false, false, false] rfl onlyN_noPanic (by kernel_rfl) (fun K hK => ?_); (go_simp; try go_bits); refine hK _ ?_; clear hK K
        refine wpR_pu 7 #[true, true, true, true, true, true, true, true, false, false, false, false, false, false, false, false, false, false, false, false, false, false, false, false, false, false, false, false, false, false, false, false, false] rfl onlyN_noPanic (by kernel_rfl) (fun K hK => ?_); (go_simp; try go_bits); refine hK _ ?_; clear hK K
        refine wpR_held (i := 8) (v := (.int .i64 (decN b 2))) #[true, true, true, true, true, true, true, true, true, false, false, false, false, false, false, false, false, false, false, false, false, false, false, false, false, false, false, false, false, false, false, false, false] rfl onlyN_noPanic (by kernel_rfl) HT (.inl ⟨rfl, fun w' hT => ?_⟩) ?_
        · obtain ⟨t0, t1, t2, t3, t4, t5, t6, t7, t8, t9⟩ := hT
          go_simp
        simp only [Act.put, List.setIfInBounds_toArray, List.set_cons_zero, List.set_cons_succ]
        refine wpR_pu 9 #[true, true, true, true, true, true, true, true, true, true, false, false, false, false, false, false, false, false, false, false, false, false, false, false, false, false, false, false, false, false, false, false, false] rfl onlyN_noPanic (by kernel_rfl) (fun K hK => ?_); (go_simp; try go_bits); refine hK _ ?_; clear hK K
        refine wpR_pu 10 #[true, true, true, true, true, true, true, true, true, true, true, false, false, false, false, false, false, false, false, false, false, false, false, false, false, false, false, false, false, false, false, false, false] rfl onlyN_noPanic (by kernel_rfl) (fun K hK => ?_); (go_simp; try go_bits); refine hK _ ?_; clear hK K
        refine wpR_held (i := 11) (v := (.int .i64 (decN b 3))) #[true, true, true, true, true, true, true, true, true, true, true, true, false, false, false, false, false, false, false, false, false, false, false, false, false, false, false, false, false, false, false, false, false] rfl onlyN_noPanic (by kernel_rfl) HT (.inl ⟨rfl, fun w' hT => ?_⟩) ?_
        · obtain ⟨t0, t1, t2, t3, t4, t5, t6, t7, t8, t9⟩ := hT
          go_simp
        simp only [Act.put, List.setIfInBounds_toArray, List.set_cons_zero, List.set_cons_succ]
        refine wpR_pu 12 #[true, true, true, true, true, true, true, true, true, true, true, true, true, false, false, false, false, false, false, false, false, false, false, false, false, false, false, false, false, false, false, false, false] rfl onlyN_noPanic (by kernel_rfl) (fun K hK => ?_); (go_simp; try go_bits); refine hK _ ?_; clear hK K
        refine wpR_pu 13 #[true, true, true, true, true, true, true, true, true, true, true, true, true, true, false, false, false, false, false, false, false, false, false, false, false, false, false, false, false, false, false, false, false] rfl onlyN_noPanic (by kernel_rfl) (fun K hK => ?_); (go_simp; try go_bits); refine hK _ ?_; clear hK K
        refine wpR_held (i := 14) (v := (.int .i64 (decN b 4))) #[true, true, true, true, true, true, true, true, true, true, true, true, true, true, true, false, false, false, false, false, false, false, false, false, false, false, false, false, false, false, false, false, false] rfl onlyN_noPanic (by kernel_rfl) HT (.inl ⟨rfl, fun w' hT => ?_⟩) ?_
        · obtain ⟨t0, t1, t2, t3, t4, t5, t6, t7, t8, t9⟩ := hT
          go_simp
        simp only [Act.put, List.setIfInBounds_toArray, List.set_cons_zero, List.set_cons_succ]
        refine wpR_pu 15 #[true, true, true, true, true, true, true, true, true, true, true, true, true, true, true, true, false, false, false, false, false, false, false, false, false, false, false, false, false, false, false, false, false] rfl onlyN_noPanic (by kernel_rfl) (fun K hK => ?_); (go_simp; try go_bits); refine hK _ ?_; clear hK K
        refine wpR_pu 16 #[true, true, true, true, true, true, true, true, true, true, true, true, true, true, true, true, true, false, false, false, false, false, false, false, false, false, false, false, false, false, false, false, false] rfl onlyN_noPanic (by kernel_rfl) (fun K hK => ?_); (go_simp; try go_bits); refine hK _ ?_; clear hK K
        refine wpR_held (i := 17) (v := (.int .i64 (decN b 5))) #[true, true, true, true, true, true, true, true, true, true, true, true, true, true, true, true, true, true, false, false, false, false, false, false, false, false, false, false, false, false, false, false, false] rfl onlyN_noPanic (by kernel_rfl) HT (.inl ⟨rfl, fun w' hT => ?_⟩) ?_
        · obtain ⟨t0, t1, t2, t3, t4, t5, t6, t7, t8, t9⟩ := hT
          go_simp
        simp only [Act.put, List.setIfInBounds_toArray, List.set_cons_zero, List.set_cons_succ]
        refine wpR_pu 18 #[true, true, true, true, true, true, true, true, true, true, true, true, true, true, true, true, true, true, true, false, false, false, false, false, false, false, false, false, false, false, false, false, false] rfl onlyN_noPanic (by kernel_rfl) (fun K hK => ?_); (go_simp; try go_bits); refine hK _ ?_; clear hK K
        refine wpR_pu 19 #[true, true, true, true, true, true, true, true, true, true, true, true, true, true, true, true, true, true, true, true, false, false, false, false, false, false, false, false, false, false, false, false, false] rfl onlyN_noPanic (by kernel_rfl) (fun K hK => ?_); (go_simp; try go_bits); refine hK _ ?_; clear hK K
        refine wpR_held (i := 20) (v := (.int .i64 (decN b 6))) #[true, true, true, true, true, true, true, true, true, true, true, true, true, true, true, true, true, true, true, true, true, false, false, false, false, false, false, false, false, false, false, false, false] rfl onlyN_noPanic (by kernel_rfl) HT (.inl ⟨rfl, fun w' hT => ?_⟩) ?_
        · obtain ⟨t0, t1, t2, t3, t4, t5, t6, t7, t8, t9⟩ := hT
          go_simp
        simp only [Act.put, List.setIfInBounds_toArray, List.set_cons_zero, List.set_cons_succ]
        refine wpR_pu 21 #[true, true, true, true, true, true, true, true, true, true, true, true, true, true, true, true, true, true, true, true, true, true, false, false, false, false, false, false, false, false, false, false, false] rfl onlyN_noPanic (by kernel_rfl) (fun K hK => ?_); (go_simp; try go_bits); refine hK _ ?_; clear hK K
        refine wpR_pu 22 #[true, true, true, true, true, true, true, true, true, true, true, true, true, true, true, true, true, true, true, true, true, true, true, false, false, false, false, false, false, false, false, false, false] rfl onlyN_noPanic (by kernel_rfl) (fun K hK => ?_); (go_simp; try go_bits); refine hK _ ?_; clear hK K
        refine wpR_held (i := 23) (v := (.int .i64 (decN b 7))) #[true, true, true, true, true, true, true, true, true, true, true, true, true, true, true, true, true, true, true, true, true, true, true, true, false, false, false, false, false, false, false, false, false] rfl onlyN_noPanic (by kernel_rfl) HT (.inl ⟨rfl, fun w' hT => ?_⟩) ?_
        · obtain ⟨t0, t1, t2, t3, t4, t5, t6, t7, t8, t9⟩ := hT
          go_simp
        simp only [Act.put, List.setIfInBounds_toArray, List.set_cons_zero, List.set_cons_succ]
        refine wpR_pu 24 #[true, true, true, true, true, true, true, true, true, true, true, true, true, true, true, true, true, true, true, true, true, true, true, true, true, false, false, false, false, false, false, false, false] rfl onlyN_noPanic (by kernel_rfl) (fun K hK => ?_); (go_simp; try go_bits); refine hK _ ?_; clear hK K
        refine wpR_pu 25 #[true, true, true, true, true, true, true, true, true, true, true, true, true, true, true, true, true, true, true, true, true, true, true, true, true, true, false, false, false, false, false, false, false] rfl onlyN_noPanic (by kernel_rfl) (fun K hK => ?_); (go_simp; try go_bits); refine hK _ ?_; clear hK K
        refine wpR_held (i := 26) (v := (.int .i64 (decN b 8))) #[true, true, true, true, true, true, true, true, true, true, true, true, true, true, true, true, true, true, true, true, true, true, true, true, true, true, true, false, false, false, false, false, false] rfl onlyN_noPanic (by kernel_rfl) HT (.inl ⟨rfl, fun w' hT => ?_⟩) ?_
        · obtain ⟨t0, t1, t2, t3, t4, t5, t6, t7, t8, t9⟩ := hT
          go_simp
        simp only [Act.put, List.setIfInBounds_toArray, List.set_cons_zero, List.set_cons_succ]
        refine wpR_pu 27 #[true, true, true, true, true, true, true, true, true, true, true, true, true, true, true, true, true, true, true, true, true, true, true, true, true, true, true, true, false, false, false, false, false] rfl onlyN_noPanic (by kernel_rfl) (fun K hK => ?_); (go_simp; try go_bits); refine hK _ ?_; clear hK K
        refine wpR_pu 28 #[true, true, true, true, true, true, true, true, true, true, true, true, true, true, true, true, true, true, true, true, true, true, true, true, true, true, true, true, true, false, false, false, false] rfl onlyN_noPanic (by kernel_rfl) (fun K hK => ?_); (go_simp; try go_bits); refine hK _ ?_; clear hK K
        refine wpR_held (i := 29) (v := (.int .i64 (decN b 9))) #[true, true, true, true, true, true, true, true, true, true, true, true, true, true, true, true, true, true, true, true, true, true, true, true, true, true, true, true, true, true, false, false, false] rfl onlyN_noPanic (by kernel_rfl) HT (.inl ⟨rfl, fun w' hT => ?_⟩) ?_
        · obtain ⟨t0, t1, t2, t3, t4, t5, t6, t7, t8, t9⟩ := hT
          go_simp
        simp only [Act.put, List.setIfInBounds_toArray, List.set_cons_zero, List.set_cons_succ]
        refine wpR_pu 30 #[true, true, true, true, true, true, true, true, true, true, true, true, true, true, true, true, true, true, true, true, true, true, true, true, true, true, true, true, true, true, true, false, false] rfl onlyN_noPanic (by kernel_rfl) (fun K hK => ?_); (go_simp; try go_bits); refine hK _ ?_; clear hK K
        refine wpR_keep #[true, true, true, true, true, true, true, true, true, true, true, true, true, true, true, true, true, true, true, true, true, true, true, true, true, true, true, true, true, true, true, true, false] (i := 31) rfl (by kernel_rfl) (fun K hK => ?_)
        go_simp; refine hK _ _ HT2 ?_; clear hK K
        refine wpR_eff #[true, true, true, true, true, true, true, true, true, true, true, true, true, true, true, true, true, true, true, true, true, true, true, true, true, true, true, true, true, true, true, true, true] (i := 32) rfl (by kernel_rfl) (fun K hK => ?_)
        go_simp; refine hK _ _ ?_; clear hK K
        refine wpR_done (by kernel_rfl) ?_ _
        simp only [OnlyN]
        have r0 : (loadVar 71 ⟨wr.heap.size, 0, none⟩).run Tryd.prog (wr.alloc (.cells #[.int .i64 (decN b 0), .int .i64 (decN b 1), .int .i64 (decN b 2), .int .i64 (decN b 3), .int .i64 (decN b 4), .int .i64 (decN b 5), .int .i64 (decN b 6), .int .i64 (decN b 7), .int .i64 (decN b 8), .int .i64 (decN b 9)] 71)).drew = .ok (.agg (i8s (decA b).l).toArray) (wr.alloc (.cells #[.int .i64 (decN b 0), .int .i64 (decN b 1), .int .i64 (decN b 2), .int .i64 (decN b 3), .int .i64 (decN b 4), .int .i64 (decN b 5), .int .i64 (decN b 6), .int .i64 (decN b 7), .int .i64 (decN b 8), .int .i64 (decN b 9)] 71)).drew := run_loadAgg agAnch (cs := i8s (decA b).l) rfl (Sat.ptCells (off := 0) H3.out rfl)
        clear HT HT2 HS H1
        go_wp2_with (refine wpList_load_run rfl rfl rfl r0 ?_)
        refine (refcan_ok E _ (decA b) _ H3.out).mono ?_
        rintro e w2 ⟨rfl, h4⟩
        have H4 : Aside (Sat E w2 (HP.pt wr.heap.size (.cells #[.int .i64 (decN b 0), .int .i64 (decN b 1), .int .i64 (decN b 2), .int .i64 (decN b 3), .int .i64 (decN b 4), .int .i64 (decN b 5), .int .i64 (decN b 6), .int .i64 (decN b 7), .int .i64 (decN b 8), .int .i64 (decN b 9)] 71) * (HP.pt w.heap.size (.cells #[.int .i64 0, .int .i64 0, .int .i64 0, .int .i64 0, .int .i64 0, .int .i64 0, .int .i64 0, .int .i64 0, .int .i64 0, .int .i64 0] 71) * q))) := ⟨h4.drop2⟩
        clear h4 H3 HQ r0
        obtain ⟨cb, hcb⟩ : ∃ cb, cb = canA (decA b) := ⟨_, rfl⟩
        rw [← hcb] at HC ⊢
        clear hcb
        cases cb with
        | false =>
          rw [if_neg (by decide)] at HC
          have r2 : (storeVar 71 ⟨w.heap.size, 0, none⟩ (.agg (i8s zeroA.l).toArray)).run Tryd.prog w2 = .ok () (w2.setRow w.heap.size (i8s zeroA.l).toArray) := run_storeAgg agAnch (g := w.heap.size) (off := 0) (cs := i8s zeroA.l) H4.out.s2.get rfl (by show 0 + 10 ≤ 10; omega) rfl
          have h5 := H4.out.s2.splice (i8s zeroA.l)
          have H5 := Aside.mk h5
          clear h5 H4
          generalize World.setRow w2 _ _ = w5 at *
          go_wp2_with (refine wpList_store_run rfl rfl rfl rfl rfl r2 ?_)
          go_wp2
          refine bodyPost_ret (results_cellTmp rfl rfl (run_loadAgg agAnch (cs := i8s zeroA.l) rfl (Sat.ptCells (off := 0) H5.out rfl))) rfl ?_
          rw [HC.out]
          exact ⟨rfl, H5.out.right.right⟩
        | true =>
          rw [if_pos rfl] at HC
          have r1 : (loadVar 71 ⟨wr.heap.size, 0, none⟩).run Tryd.prog w2 = .ok (.agg (i8s (decA b).l).toArray) w2 := run_loadAgg agAnch (cs := i8s (decA b).l) rfl (Sat.ptCells (off := 0) H4.out rfl)
          have r2 : (storeVar 71 ⟨w.heap.size, 0, none⟩ (.agg (i8s (decA b).l).toArray)).run Tryd.prog w2 = .ok () (w2.setRow w.heap.size (i8s (decA b).l).toArray) := run_storeAgg agAnch (g := w.heap.size) (off := 0) (cs := i8s (decA b).l) H4.out.s2.get rfl (by show 0 + 10 ≤ 10; omega) rfl
          have h5 := H4.out.s2.splice (i8s (decA b).l)
          have H5 := Aside.mk h5
          clear h5 H4
          generalize World.setRow w2 _ _ = w5 at *
          go_wp2_with (first | (refine wpList_load_run rfl rfl rfl r1 ?_) | (refine wpList_store_run rfl rfl rfl rfl rfl r2 ?_))
          go_wp2
          refine bodyPost_ret (results_cellTmp rfl rfl (run_loadAgg agAnch (cs := i8s (decA b).l) rfl (Sat.ptCells (off := 0) H5.out rfl))) rfl ?_
          rw [HC.out]
          exact ⟨rfl, H5.out.right.right⟩
  · have HP := Aside.mk (decP_long (b := b) (by omega))
    have H1 := Aside.mk h1
    have h80b : ((n : Int) == 80) = false := by rw [beq_eq_false_iff_ne]; omega
    have h80c : ¬ (n : Int) = 80 := by omega
    clear hw h1 hq hb hln
    go_enter Tryd.func42, Tryd.ntmps42
    go_wp2
    refine bodyPost_ret (results_cellTmp rfl rfl (run_loadAgg agAnch (cs := i8s zeroA.l) rfl (Sat.ptCells (off := 0) H1.out rfl))) rfl ?_
    rw [HP.out]
    exact ⟨rfl, H1.out.right⟩
end Go.Proofs.YtnllmkpbnccllaaDoor
/- AnchorBytes: the walk. -/
namespace Go.Proofs.YtnllmkpbnccllaaDoor
open Go.RowKit HP
set_option linter.unusedSimpArgs false
set_option linter.unusedVariables false

def encL (a : Anch) : List Int := if canA a = true then encI a.l else []
def encC (a : Anch) : Int := if canA a = true then 0 else 1
theorem encL_bytes (a : Anch) : Bytes (encL a) := by
  unfold encL
  split
  · exact encI_bytes _
  · exact fun x hx => by cases hx
theorem encEnd_any {E : Env} {q : HP} {a : Anch} {e : Ending} {w' : World} (h : encEnd E q a e w') : ∃ X cx R, e = .returned (.tuple #[.slice X (encL a).length cx, .int .i64 (encC a)]) ∧ (encL a).length ≤ cx ∧ Sat E w' (R * q) ∧ ∀ w'' q', Sat E w'' (R * q') → Cells w'' X (b8s (encL a)) := by
  unfold encEnd at h
  unfold encL encC
  by_cases hc : canA a = true
  · rw [if_pos hc] at h
    rw [if_pos hc, if_pos hc]
    obtain ⟨v, rfl, h⟩ := h
    obtain ⟨X, cx, rfl, hcx, -⟩ := h.row_slice
    have hl : (encI a.l).length = 80 := by rw [encI_length]; rfl
    rw [hl]
    exact ⟨X, cx, _, rfl, hcx, h, fun w'' q' h => h.row_cells⟩
  · rw [if_neg hc] at h
    rw [if_neg hc, if_neg hc]
    obtain ⟨rfl, h⟩ := h
    exact ⟨none, 0, HP.emp, rfl, Nat.le_refl _, h.emp_intro, fun w'' q' h => Cells.nil _ _⟩
set_option maxHeartbeats 4000000 in
set_option maxRecDepth 100000 in
theorem anchorBytes_ok (E : Env) (q : HP) (a : Anch) (A0 : Option Addr) (l0 : List Int) (n0 c0 : Nat) (w : World) (ha : a.Ok) (e0 : l0.length = n0) (k0 : n0 ≤ c0) (m0 : c0 ≤ maxLen) (b0 : Bytes l0)
    (hq : ∀ w, Sat E w q → Quarter w) (hqc : ∀ w, Sat E w q → Cells w A0 (b8s l0)) (hw : Sat E w q) :
    Calls Tryd.prog 9 #[.agg #[.int .i64 a.seq, .int .i64 a.gen, .int .i64 a.lsn, .int .i64 a.seg, .int .i64 a.ext, .int .i64 a.flo, .int .i64 a.new, .int .i64 a.keep, .int .i64 a.next, .int .i64 a.cur], .slice A0 n0 c0] w fun e w' => e = .returned (.bool true) ∧ Sat E w' q := by
  have H1 := Aside.mk (hw.alloc (.cells #[.int .i64 a.seq, .int .i64 a.gen, .int .i64 a.lsn, .int .i64 a.seg, .int .i64 a.ext, .int .i64 a.flo, .int .i64 a.new, .int .i64 a.keep, .int .i64 a.next, .int .i64 a.cur] 71))
  have HQ := Aside.mk (And.intro hq (And.intro hqc (And.intro b0 e0)))
  have HO := Aside.mk ha
  clear hw hq hqc ha b0 e0
  go_enter Tryd.func9, Tryd.ntmps9
  go_wp2_with fail
  refine (encode_ok E _ a _ H1.out).mono ?_
  intro e w1 h2
  obtain ⟨X, cx, R1, rfl, hcx, h3, hX⟩ := encEnd_any h2
  have HX := Aside.mk hX
  have H3 : Aside (Sat E w1 (HP.pt w.heap.size (.cells #[.int .i64 a.seq, .int .i64 a.gen, .int .i64 a.lsn, .int .i64 a.seg, .int .i64 a.ext, .int .i64 a.flo, .int .i64 a.new, .int .i64 a.keep, .int .i64 a.next, .int .i64 a.cur] 71) * (R1 * q))) := ⟨h3.perm (by ac_rfl)⟩
  have r1 : (loadVar 71 ⟨w.heap.size, 0, none⟩).run Tryd.prog w1 = .ok (.agg (i8s a.l).toArray) w1 := run_loadAgg agAnch (cs := i8s a.l) rfl (Sat.ptCells (off := 0) H3.out rfl)
  clear h2 h3 H1 hX
  go_wp2_with (refine wpList_load_run rfl rfl rfl r1 ?_)
  refine (refenc_ok E _ a _ H3.out).mono ?_
  intro e w2 h4
  obtain ⟨Y, cy, R2, rfl, hcy, h5, hY⟩ := encEnd_any h4
  have HY := Aside.mk hY
  have H5 := Aside.mk h5
  clear h4 h5 H3 hY r1
  obtain ⟨⟨p, c⟩, hp⟩ : ∃ r, r = decP l0 := ⟨_, rfl⟩
  have HPd := Aside.mk hp.symm
  clear hp
  go_wp2_with fail
  refine (decode_ok E _ A0 l0 n0 c0 _ HQ.out.2.2.2 k0 m0 HQ.out.2.2.1 (fun w h => HQ.out.2.1 w h.right.right.right) H5.out).mono ?_
  rintro e w3 ⟨rfl, h6⟩
  rw [HPd.out]
  dsimp only
  rw [show p.val = .agg #[.int .i64 p.seq, .int .i64 p.gen, .int .i64 p.lsn, .int .i64 p.seg, .int .i64 p.ext, .int .i64 p.flo, .int .i64 p.new, .int .i64 p.keep, .int .i64 p.next, .int .i64 p.cur] from rfl]
  have H6 := Aside.mk (h6.alloc (.cells #[.int .i64 p.seq, .int .i64 p.gen, .int .i64 p.lsn, .int .i64 p.seg, .int .i64 p.ext, .int .i64 p.flo, .int .i64 p.new, .int .i64 p.keep, .int .i64 p.next, .int .i64 p.cur] 71))
  clear h6 H5
  go_wp2_with fail
  refine (refdec_ok E _ A0 l0 n0 c0 _ HQ.out.2.2.2 k0 m0 HQ.out.2.2.1 (fun w h => HQ.out.2.1 w h.right.right.right.right) H6.out).mono ?_
  rintro e w4 ⟨rfl, h7⟩
  rw [HPd.out]
  dsimp only
  rw [show p.val = .agg #[.int .i64 p.seq, .int .i64 p.gen, .int .i64 p.lsn, .int .i64 p.seg, .int .i64 p.ext, .int .i64 p.flo, .int .i64 p.new, .int .i64 p.keep, .int .i64 p.next, .int .i64 p.cur] from rfl]
  obtain ⟨b9, hb9⟩ : ∃ x, x = w3.heap.size := ⟨_, rfl⟩
  obtain ⟨b11, hb11⟩ : ∃ x, x = w4.heap.size := ⟨_, rfl⟩
  have h8 := h7.alloc (.cells #[.int .i64 p.seq, .int .i64 p.gen, .int .i64 p.lsn, .int .i64 p.seg, .int .i64 p.ext, .int .i64 p.flo, .int .i64 p.new, .int .i64 p.keep, .int .i64 p.next, .int .i64 p.cur] 71)
  rw [← hb11, ← hb9] at h8
  have HW : Aside (Sat E (w4.alloc (.cells #[.int .i64 p.seq, .int .i64 p.gen, .int .i64 p.lsn, .int .i64 p.seg, .int .i64 p.ext, .int .i64 p.flo, .int .i64 p.new, .int .i64 p.keep, .int .i64 p.next, .int .i64 p.cur] 71)).drew (R2 * (R1 * (HP.pt b9 (.cells #[.int .i64 p.seq, .int .i64 p.gen, .int .i64 p.lsn, .int .i64 p.seg, .int .i64 p.ext, .int .i64 p.flo, .int .i64 p.new, .int .i64 p.keep, .int .i64 p.next, .int .i64 p.cur] 71) * (HP.pt b11 (.cells #[.int .i64 p.seq, .int .i64 p.gen, .int .i64 p.lsn, .int .i64 p.seg, .int .i64 p.ext, .int .i64 p.flo, .int .i64 p.new, .int .i64 p.keep, .int .i64 p.next, .int .i64 p.cur] 71) * (HP.pt w.heap.size (.cells #[.int .i64 a.seq, .int .i64 a.gen, .int .i64 a.lsn, .int .i64 a.seg, .int .i64 a.ext, .int .i64 a.flo, .int .i64 a.new, .int .i64 a.keep, .int .i64 a.next, .int .i64 a.cur] 71) * q)))))) := ⟨(h8.perm (by ac_rfl)).drew⟩
  clear h7 h8 H6
  go_wp2
  rw [← hb9, ← hb11]
  clear hb9 hb11
  have L9 : (loadVar 71 ⟨b9, 0, none⟩).run Tryd.prog (w4.alloc (.cells #[.int .i64 p.seq, .int .i64 p.gen, .int .i64 p.lsn, .int .i64 p.seg, .int .i64 p.ext, .int .i64 p.flo, .int .i64 p.new, .int .i64 p.keep, .int .i64 p.next, .int .i64 p.cur] 71)).drew = .ok (.agg #[.int .i64 p.seq, .int .i64 p.gen, .int .i64 p.lsn, .int .i64 p.seg, .int .i64 p.ext, .int .i64 p.flo, .int .i64 p.new, .int .i64 p.keep, .int .i64 p.next, .int .i64 p.cur]) (w4.alloc (.cells #[.int .i64 p.seq, .int .i64 p.gen, .int .i64 p.lsn, .int .i64 p.seg, .int .i64 p.ext, .int .i64 p.flo, .int .i64 p.new, .int .i64 p.keep, .int .i64 p.next, .int .i64 p.cur] 71)).drew := run_loadAgg agAnch (cs := i8s p.l) rfl (Sat.ptCells (off := 0) HW.out.right.right rfl)
  have L10 : (loadVar 71 ⟨b11, 0, none⟩).run Tryd.prog (w4.alloc (.cells #[.int .i64 p.seq, .int .i64 p.gen, .int .i64 p.lsn, .int .i64 p.seg, .int .i64 p.ext, .int .i64 p.flo, .int .i64 p.new, .int .i64 p.keep, .int .i64 p.next, .int .i64 p.cur] 71)).drew = .ok (.agg #[.int .i64 p.seq, .int .i64 p.gen, .int .i64 p.lsn, .int .i64 p.seg, .int .i64 p.ext, .int .i64 p.flo, .int .i64 p.new, .int .i64 p.keep, .int .i64 p.next, .int .i64 p.cur]) (w4.alloc (.cells #[.int .i64 p.seq, .int .i64 p.gen, .int .i64 p.lsn, .int .i64 p.seg, .int .i64 p.ext, .int .i64 p.flo, .int .i64 p.new, .int .i64 p.keep, .int .i64 p.next, .int .i64 p.cur] 71)).drew := run_loadAgg agAnch (cs := i8s p.l) rfl (Sat.ptCells (off := 0) HW.out.right.right.right rfl)
  have L19 : (loadVar 71 ⟨w.heap.size, 0, none⟩).run Tryd.prog (w4.alloc (.cells #[.int .i64 p.seq, .int .i64 p.gen, .int .i64 p.lsn, .int .i64 p.seg, .int .i64 p.ext, .int .i64 p.flo, .int .i64 p.new, .int .i64 p.keep, .int .i64 p.next, .int .i64 p.cur] 71)).drew = .ok (.agg #[.int .i64 a.seq, .int .i64 a.gen, .int .i64 a.lsn, .int .i64 a.seg, .int .i64 a.ext, .int .i64 a.flo, .int .i64 a.new, .int .i64 a.keep, .int .i64 a.next, .int .i64 a.cur]) (w4.alloc (.cells #[.int .i64 p.seq, .int .i64 p.gen, .int .i64 p.lsn, .int .i64 p.seg, .int .i64 p.ext, .int .i64 p.flo, .int .i64 p.new, .int .i64 p.keep, .int .i64 p.next, .int .i64 p.cur] 71)).drew := run_loadAgg agAnch (cs := i8s a.l) rfl (Sat.ptCells (off := 0) HW.out.right.right.right.right rfl)
  refine region_R [2, 20, 22, 26] [20] (fun W => Sat E W (R2 * (R1 * (HP.pt b9 (.cells #[.int .i64 p.seq, .int .i64 p.gen, .int .i64 p.lsn, .int .i64 p.seg, .int .i64 p.ext, .int .i64 p.flo, .int .i64 p.new, .int .i64 p.keep, .int .i64 p.next, .int .i64 p.cur] 71) * (HP.pt b11 (.cells #[.int .i64 p.seq, .int .i64 p.gen, .int .i64 p.lsn, .int .i64 p.seg, .int .i64 p.ext, .int .i64 p.flo, .int .i64 p.new, .int .i64 p.keep, .int .i64 p.next, .int .i64 p.cur] 71) * (HP.pt w.heap.size (.cells #[.int .i64 a.seq, .int .i64 a.gen, .int .i64 a.lsn, .int .i64 a.seg, .int .i64 a.ext, .int .i64 a.flo, .int .i64 a.new, .int .i64 a.keep, .int .i64 a.next, .int .i64 a.cur] 71) * q)))))) #[false, false, false, false, false, false, false, false, false, false, false, false, false, false, false, false, false, false, false, false, false, false, false, false, false, false, false, false, false] (by kernel_rfl) rfl rfl ?_
  generalize (w4.alloc (.cells #[.int .i64 p.seq, .int .i64 p.gen, .int .i64 p.lsn, .int .i64 p.seg, .int .i64 p.ext, .int .i64 p.flo, .int .i64 p.new, .int .i64 p.keep, .int .i64 p.next, .int .i64 p.cur] 71)).drew = wd at *
  refine wpR_rd 0 #[true, false, false, false, false, false, false, false, false, false, false, false, false, false, false, false, false, false, false, false, false, false, false, false, false, false, false, false, false] rfl onlyN_noPanic (by kernel_rfl) (fun K hK => ?_); (go_simp; try go_bits); refine hK _ ?_; clear hK K
  refine wpR_rd 1 #[true, true, false, false, false, false, false, false, false, false, false, false, false, false, false, false, false, false, false, false, false, false, false, false, false, false, false, false, false] rfl onlyN_noPanic (by kernel_rfl) (fun K hK => ?_); (go_simp; try go_bits); refine hK _ ?_; clear hK K
  refine wpR_eff #[true, true, true, false, false, false, false, false, false, false, false, false, false, false, false, false, false, false, false, false, false, false, false, false, false, false, false, false, false] (i := 2) rfl (by kernel_rfl) (fun K hK => ?_)
  go_simp
  refine (bytesEq_ok X Y (encL a) (encL a) (encL a).length (encL a).length cx cy _ rfl rfl (HX.out _ _ HW.out.right) (HY.out _ _ HW.out) (encL_bytes a) (encL_bytes a)).mono ?_
  rintro e w5 ⟨rfl, hw5⟩; subst w5; rw [decide_eq_true rfl]; refine hK _ _ ?_; clear hK K
  refine wpR_rd 3 #[true, true, true, true, false, false, false, false, false, false, false, false, false, false, false, false, false, false, false, false, false, false, false, false, false, false, false, false, false] rfl onlyN_noPanic (by kernel_rfl) (fun K hK => ?_); (go_simp; try go_bits); refine hK _ ?_; clear hK K
  refine wpR_rd 4 #[true, true, true, true, true, false, false, false, false, false, false, false, false, false, false, false, false, false, false, false, false, false, false, false, false, false, false, false, false] rfl onlyN_noPanic (by kernel_rfl) (fun K hK => ?_); (go_simp; try go_bits); refine hK _ ?_; clear hK K
  refine wpR_rd 5 #[true, true, true, true, true, true, false, false, false, false, false, false, false, false, false, false, false, false, false, false, false, false, false, false, false, false, false, false, false] rfl onlyN_noPanic (by kernel_rfl) (fun K hK => ?_); (go_simp; try go_bits); refine hK _ ?_; clear hK K
  refine wpR_rd 6 #[true, true, true, true, true, true, true, false, false, false, false, false, false, false, false, false, false, false, false, false, false, false, false, false, false, false, false, false, false] rfl onlyN_noPanic (by kernel_rfl) (fun K hK => ?_); (go_simp; try go_bits); refine hK _ ?_; clear hK K
  refine wpR_rd 7 #[true, true, true, true, true, true, true, true, false, false, false, false, false, false, false, false, false, false, false, false, false, false, false, false, false, false, false, false, false] rfl onlyN_noPanic (by kernel_rfl) (fun K hK => ?_); (go_simp; try go_bits); refine hK _ ?_; clear hK K
  refine wpR_rd 8 #[true, true, true, true, true, true, true, true, true, false, false, false, false, false, false, false, false, false, false, false, false, false, false, false, false, false, false, false, false] rfl onlyN_noPanic (by kernel_rfl) (fun K hK => ?_); (go_simp; try go_bits); refine hK _ ?_; clear hK K
  refine wpR_read (i := 9) #[true, true, true, true, true, true, true, true, true, true, false, false, false, false, false, false, false, false, false, false, false, false, false, false, false, false, false, false, false] rfl onlyN_noPanic (by kernel_rfl) (.inl ⟨rfl, exec_load rfl rfl L9⟩) ?_
  simp only [Act.put, List.setIfInBounds_toArray, List.set_cons_zero, List.set_cons_succ]
  refine wpR_read (i := 10) #[true, true, true, true, true, true, true, true, true, true, true, false, false, false, false, false, false, false, false, false, false, false, false, false, false, false, false, false, false] rfl onlyN_noPanic (by kernel_rfl) (.inl ⟨rfl, exec_load rfl rfl L10⟩) ?_
  simp only [Act.put, List.setIfInBounds_toArray, List.set_cons_zero, List.set_cons_succ]
  refine wpR_rd 11 #[true, true, true, true, true, true, true, true, true, true, true, true, false, false, false, false, false, false, false, false, false, false, false, false, false, false, false, false, false] rfl onlyN_noPanic (by kernel_rfl) (fun K hK => ?_); (go_simp; try go_bits); refine hK _ ?_; clear hK K
  refine wpR_rd 12 #[true, true, true, true, true, true, true, true, true, true, true, true, true, false, false, false, false, false, false, false, false, false, false, false, false, false, false, false, false] rfl onlyN_noPanic (by kernel_rfl) (fun K hK => ?_); (go_simp; try go_bits); refine hK _ ?_; clear hK K
  refine wpR_rd 13 #[true, true, true, true, true, true, true, true, true, true, true, true, true, true, false, false, false, false, false, false, false, false, false, false, false, false, false, false, false] rfl onlyN_noPanic (by kernel_rfl) (fun K hK => ?_); (go_simp; try go_bits); refine hK _ ?_; clear hK K
  refine wpR_rd 14 #[true, true, true, true, true, true, true, true, true, true, true, true, true, true, true, false, false, false, false, false, false, false, false, false, false, false, false, false, false] rfl onlyN_noPanic (by kernel_rfl) (fun K hK => ?_); (go_simp; try go_bits); refine hK _ ?_; clear hK K
  refine wpR_rd 15 #[true, true, true, true, true, true, true, true, true, true, true, true, true, true, true, true, false, false, false, false, false, false, false, false, false, false, false, false, false] rfl onlyN_noPanic (by kernel_rfl) (fun K hK => ?_); (go_simp; try go_bits); refine hK _ ?_; clear hK K
  refine wpR_rd 16 #[true, true, true, true, true, true, true, true, true, true, true, true, true, true, true, true, true, false, false, false, false, false, false, false, false, false, false, false, false] rfl onlyN_noPanic (by kernel_rfl) (fun K hK => ?_); (go_simp; try go_bits); refine hK _ ?_; clear hK K
  refine wpR_rd 17 #[true, true, true, true, true, true, true, true, true, true, true, true, true, true, true, true, true, true, false, false, false, false, false, false, false, false, false, false, false] rfl onlyN_noPanic (by kernel_rfl) (fun K hK => ?_); (go_simp; try go_bits); refine hK _ ?_; clear hK K
  refine wpR_rd 18 #[true, true, true, true, true, true, true, true, true, true, true, true, true, true, true, true, true, true, true, false, false, false, false, false, false, false, false, false, false] rfl onlyN_noPanic (by kernel_rfl) (fun K hK => ?_); (go_simp; try go_bits); refine hK _ ?_; clear hK K
  refine wpR_read (i := 19) #[true, true, true, true, true, true, true, true, true, true, true, true, true, true, true, true, true, true, true, true, false, false, false, false, false, false, false, false, false] rfl onlyN_noPanic (by kernel_rfl) (.inl ⟨rfl, exec_load rfl rfl L19⟩) ?_
  simp only [Act.put, List.setIfInBounds_toArray, List.set_cons_zero, List.set_cons_succ]
  refine wpR_held (i := 21) (v := (.agg #[.int .i64 a.seq, .int .i64 a.gen, .int .i64 a.lsn, .int .i64 a.seg, .int .i64 a.ext, .int .i64 a.flo, .int .i64 a.new, .int .i64 a.keep, .int .i64 a.next, .int .i64 a.cur])) #[true, true, true, true, true, true, true, true, true, true, true, true, true, true, true, true, true, true, true, true, false, true, false, false, false, false, false, false, false] rfl onlyN_noPanic (by kernel_rfl) HW.out (.inl ⟨rfl, fun w' hT => exec_load rfl rfl (run_loadAgg agAnch (cs := i8s a.l) rfl (Sat.ptCells (off := 0) (hT.right.right.right.right) rfl))⟩) ?_
  simp only [Act.put, List.setIfInBounds_toArray, List.set_cons_zero, List.set_cons_succ]
  refine wpR_keep #[true, true, true, true, true, true, true, true, true, true, true, true, true, true, true, true, true, true, true, true, true, true, false, false, false, false, false, false, false] (i := 20) rfl (by kernel_rfl) (fun K hK => ?_)
  go_simp
  refine (can_ok E _ a _ HW.out).mono ?_
  rintro e w6 ⟨rfl, h6⟩; refine hK _ _ h6 ?_; clear hK K
  have H6 := Aside.mk h6; clear h6
  refine wpR_eff #[true, true, true, true, true, true, true, true, true, true, true, true, true, true, true, true, true, true, true, true, true, true, true, false, false, false, false, false, false] (i := 22) rfl (by kernel_rfl) (fun K hK => ?_)
  go_simp
  refine (refcan_ok E _ a _ H6.out).mono ?_
  rintro e w7 ⟨rfl, h7⟩; refine hK _ _ ?_; clear hK K
  have H7 := Aside.mk h7.right.right.right.right.right; clear h7 H6
  refine wpR_rd 23 #[true, true, true, true, true, true, true, true, true, true, true, true, true, true, true, true, true, true, true, true, true, true, true, true, false, false, false, false, false] rfl onlyN_noPanic (by kernel_rfl) (fun K hK => ?_); (go_simp; try go_bits); refine hK _ ?_; clear hK K
  refine wpR_rd 24 #[true, true, true, true, true, true, true, true, true, true, true, true, true, true, true, true, true, true, true, true, true, true, true, true, true, false, false, false, false] rfl onlyN_noPanic (by kernel_rfl) (fun K hK => ?_); (go_simp; try go_bits); refine hK _ ?_; clear hK K
  refine wpR_rd 25 #[true, true, true, true, true, true, true, true, true, true, true, true, true, true, true, true, true, true, true, true, true, true, true, true, true, true, false, false, false] rfl onlyN_noPanic (by kernel_rfl) (fun K hK => ?_); (go_simp; try go_bits); refine hK _ ?_; clear hK K
  refine wpR_eff #[true, true, true, true, true, true, true, true, true, true, true, true, true, true, true, true, true, true, true, true, true, true, true, true, true, true, true, false, false] (i := 26) rfl (by kernel_rfl) (fun K hK => ?_)
  go_simp
  refine (awake17_ok E q _ HQ.out.1 H7.out).mono ?_
  rintro e w8 ⟨rfl, h8⟩; refine hK _ _ ?_; clear hK K
  have H8 := Aside.mk h8; clear h8
  refine wpR_rd 27 #[true, true, true, true, true, true, true, true, true, true, true, true, true, true, true, true, true, true, true, true, true, true, true, true, true, true, true, true, false] rfl onlyN_noPanic (by kernel_rfl) (fun K hK => ?_); (go_simp; try go_bits); refine hK _ ?_; clear hK K
  refine wpR_rd 28 #[true, true, true, true, true, true, true, true, true, true, true, true, true, true, true, true, true, true, true, true, true, true, true, true, true, true, true, true, true] rfl onlyN_noPanic (by kernel_rfl) (fun K hK => ?_); (go_simp; try go_bits); refine hK _ ?_; clear hK K
  refine wpR_done (by kernel_rfl) ?_ _
  simp only [OnlyN]
  go_wp2
  go_ret
  exact ⟨rfl, H8.out⟩
end Go.Proofs.YtnllmkpbnccllaaDoor
/- The listed table: what the condition gives a walk; the door's own heap meets it. -/
namespace Go.Proofs.YtnllmkpbnccllaaDoor
open Go.ChangeShapes Go.WideShapes Go.ChangeAt Go.WideMaps Go.WideElems Go.RowKit HP
set_option linter.unusedVariables false

def laidAll : List (String × DataW Unit) := [("dryrot/crc.quarter", Rows.laid_dryrot_crc_quarter)]
theorem gQuarter : Tryd.prog.globalNamed "dryrot/crc.quarter" = some 0 := by kernel_rfl
theorem tQuarter : (Tryd.prog.globals[0]?).map (·.type) = some 198 := by kernel_rfl
theorem door_met (os : Os) (args : Array Value) : laidMetH Tryd.prog laidAll ((World.doorLaid Tryd.prog 400 os).forCall (fun _ _ => 0) ⟨#[], args, []⟩).memory :=
  laidMetH_of_parts3 (fuel := 8) (laidMet_of_run' 8 (by kernel_rfl) (by kernel_rfl)) (by kernel_rfl) (by kernel_rfl)
theorem quarter_of_laid {W : World} (h : laidMetH Tryd.prog laidAll W) : Quarter W := by
  rw [MakeChecks.laidMetH_plain _ _ _ (by kernel_rfl)] at h
  obtain ⟨ps, ⟨g0, t0, cs0, f0, p0, q0, hg0, ht0, hv0, hd0, _, _⟩, _, _⟩ := h
  obtain rfl := Option.some.inj (gQuarter.symm.trans hg0)
  obtain rfl := Option.some.inj (tQuarter.symm.trans ht0)
  obtain ⟨xs, m1, rfl, hx1, hlen, hn3, hel⟩ := DataW.trod_array Tryd.underlying198 hd0
  have c3 : Tryd.prog.cellsOf 155 = 1 := by kernel_rfl
  simp only [Prod.mk.injEq, DataW.agg.injEq, Rows.laid_dryrot_crc_quarter] at hx1
  intro i hi
  have hi' := hel i hi
  rw [c3, Nat.mul_one] at hi'
  have hxl : i < xs.length := by omega
  rw [List.getElem?_eq_getElem hxl] at hi'
  obtain ⟨k, e1, e2, _⟩ := DataW.trod_int Tryd.underlying155 hi'
  have e3 : (xs.map (·.1))[i]? = some (DataW.lit (.int .u32 k)) := by
    rw [List.getElem?_map, List.getElem?_eq_getElem hxl]
    simp [e2]
  rw [← hx1.1] at e3
  have hk : k = quarterN i := by
    match i, hi with
    | 0, _ => simpa [quarterN] using e3.symm
    | 1, _ => simpa [quarterN] using e3.symm
    | 2, _ => simpa [quarterN] using e3.symm
    | 3, _ => simpa [quarterN] using e3.symm
  have e4 := World.var?_cell hg0 hv0 i
  have e5 : cs0.toList[i]? = some (.int .u32 k) := by
    have := congrArg (fun l => l[0]?) e1
    simpa [List.getElem?_take] using this
  rw [Array.getElem?_toList, hk] at e5
  rw [← e5, ← e4]
end Go.Proofs.YtnllmkpbnccllaaDoor
/- What the laws' cards share. -/
namespace Go.Proofs.YtnllmkpbnccllaaDoor
open Go.ChangeShapes Go.WideShapes Go.ChangeAt Go.RowKit HP
set_option linter.unusedVariables false

theorem old_carry {E : Env} {W w : World} (h : Sat E w (HP.old W)) : ∀ k, k < W.heap.size → w.heap[k]? = W.heap[k]? := fun k hk => Sat.old_block (p := HP.emp) (by rw [HP.mul_emp]; exact h) k hk
theorem quarter_old {E : Env} {W w : World} (hQ : Quarter W) (h : Sat E w (HP.old W)) : Quarter w := fun i hi => by
  rw [World.cell?_of_block (w := W) (old_carry h _ (World.block_lt_of_cell? W _ (hQ i hi)))]
  exact hQ i hi
theorem trodAll_five {H : Type} {enc : TypeId × Value → H} {P : Program} {w : World} {base : Nat} {spare : Nat → Bool} {held : Bool} {t t' t'' t3 t4 : TypeId} {args : Array Value} {ds : List (DataW H)} {ps : List MemPlace} (h : DataW.TrodAll enc P w base spare held [t, t', t'', t3, t4] args.toList ds ps) :
    ∃ v v' v'' v3 v4 d d' d'' d3 d4 p p' p'' p3 p4, args = #[v, v', v'', v3, v4] ∧ ds = [d, d', d'', d3, d4] ∧ ps = p ++ p' ++ p'' ++ p3 ++ p4 ∧ DataW.Trod enc P w base spare held t v d p ∧ DataW.Trod enc P w base spare held t' v' d' p' ∧ DataW.Trod enc P w base spare held t'' v'' d'' p'' ∧ DataW.Trod enc P w base spare held t3 v3 d3 p3 ∧ DataW.Trod enc P w base spare held t4 v4 d4 p4 := by
  obtain ⟨v, vs, d, ds', p, q, hargs, rfl, rfl, hd, hrest⟩ := trodAll_cons h
  obtain ⟨v', vs', d', ds'', p', q', rfl, rfl, rfl, hd', hrest'⟩ := trodAll_cons hrest
  obtain ⟨v'', vs'', d'', ds''', p'', q'', rfl, rfl, rfl, hd'', hrest''⟩ := trodAll_cons hrest'
  obtain ⟨v3, vs3, d3, ds3, p3, q3, rfl, rfl, rfl, hd3, hrest3⟩ := trodAll_cons hrest''
  obtain ⟨v4, vs4, d4, ds4, p4, q4, rfl, rfl, rfl, hd4, hrest4⟩ := trodAll_cons hrest3
  obtain ⟨rfl, rfl, rfl⟩ := trodAll_nil hrest4
  exact ⟨v, v', v'', v3, v4, d, d', d'', d3, d4, p, p', p'', p3, p4, by cases args; simp_all, rfl, by simp, hd, hd', hd'', hd3, hd4⟩
theorem rdB_at : (rdSl (rdInt .u8)).At Tryd.prog 22 := rdSl_at (n := 1) Tryd.underlying22 (by kernel_rfl) (rdInt_at Tryd.underlying5)
end Go.Proofs.YtnllmkpbnccllaaDoor
