/- Texts of one claim, one behind the other: AnchP, AnchV, AnchK, Laid, Tied. -/
import Derived.Test.YtnllmkpbnccllaaDoorAn5
import Derived.Laws.StructEq
import Derived.LaidMore
import Derived.Stop.Joined
/- anchor, the plain part: what is coded is read; an anchor saved on a new disk is there. -/
namespace Go.Proofs.YtnllmkpbnccllaaDoor
open Go.RowKit HP
set_option linter.unusedSimpArgs false
set_option linter.unusedVariables false

theorem encI_piece : ∀ {l : List Int} {k : Nat} {x : Int}, l[k]? = some x → ((encI l).drop (8 * k)).take 8 = putI (n64 x) 8
  | [], k, x, h => by simp at h
  | y :: t, 0, x, h => by
    simp only [List.getElem?_cons_zero, Option.some.injEq] at h
    subst h
    show ((putI (n64 y) 8 ++ encI t).drop 0).take 8 = _
    rw [List.drop_zero, List.take_left' (putI_length _ _)]
  | y :: t, k + 1, x, h => by
    have ih := encI_piece (l := t) (k := k) (x := x) (by simpa using h)
    show ((putI (n64 y) 8 ++ encI t).drop (8 * (k + 1))).take 8 = _
    rw [show 8 * (k + 1) = 8 + 8 * k by omega, ← List.drop_drop, List.drop_left' (putI_length _ _), ih]
theorem decN_encI {l : List Int} {k : Nat} {x : Int} (h : l[k]? = some x) (hx : wf64 x) : decN (encI l) k = x := by
  unfold decN
  rw [encI_piece h, getN_putI 8 _ (n64_lt x)]
  unfold wrap64 n64
  unfold wf64 at hx
  omega
structure Anch.Ok (a : Anch) : Prop where
  seq : wf64 a.seq
  gen : wf64 a.gen
  lsn : wf64 a.lsn
  seg : wf64 a.seg
  ext : wf64 a.ext
  flo : wf64 a.flo
  new : wf64 a.new
  keep : wf64 a.keep
  next : wf64 a.next
  cur : wf64 a.cur
theorem decA_encI {a : Anch} (h : a.Ok) : decA (encI a.l) = a := by
  unfold decA
  rw [decN_encI (l := a.l) (k := 0) rfl h.seq, decN_encI (l := a.l) (k := 1) rfl h.gen, decN_encI (l := a.l) (k := 2) rfl h.lsn, decN_encI (l := a.l) (k := 3) rfl h.seg, decN_encI (l := a.l) (k := 4) rfl h.ext,
    decN_encI (l := a.l) (k := 5) rfl h.flo, decN_encI (l := a.l) (k := 6) rfl h.new, decN_encI (l := a.l) (k := 7) rfl h.keep, decN_encI (l := a.l) (k := 8) rfl h.next, decN_encI (l := a.l) (k := 9) rfl h.cur]
theorem decP_encI {a : Anch} (h : a.Ok) (hc : canA a = true) : decP (encI a.l) = (a, 0) := by
  unfold decP
  rw [decA_encI h, if_pos ⟨by rw [encI_length]; rfl, hc⟩]
theorem twoAnch : TwoNames (nameA ++ dotA) (nameA ++ dotB) := ⟨by kernel_rfl, by kernel_rfl, by decide, by kernel_rfl, by kernel_rfl⟩
instance (i : Int) : Decidable (wf64 i) := by unfold wf64; infer_instance
theorem fresh_up_ok : freshA.up.Ok := ⟨by decide, by decide, by decide, by decide, by decide, by decide, by decide, by decide, by decide, by decide⟩
theorem fresh_can : canA freshA.up = true := by decide
structure SavedEnd (B : Dk) : Prop where
  save : saveP (Dk.new 2) freshA = ((freshA.up, 0), B)
  load : loadA B = (freshA.up, 0)
  bytes : ∀ f ∈ halvesL nameA, ∀ c, B.cel f 0 = some c → Bytes c.read
theorem saved_end : ∃ B, SavedEnd B := by
  have hl : (encI freshA.up.l).length = 80 := by rw [encI_length]; rfl
  have f1 : FrameOk ((0 : Nat) : Int) ((1 : Nat) : Int) (encI freshA.up.l).length := ⟨by omega, by omega, by omega, by omega, by rw [hl]; omega⟩
  have p1 : putP (Dk.new 2) nameA 0 1 (encI freshA.up.l) = _ := putP_two (A := Dk.new 2) (x := nameA) f1
  have la : ∀ f, (extI f 0 1 (encI freshA.up.l)).length = 128 := fun f => extI_length (by rw [hl]; omega)
  rw [show ((0 : Nat) : Int) = 0 from rfl, put_first2 twoAnch (la _) (la _)] at p1
  have g1 := get_two (x := nameA) twoAnch.ne (room := 2) (fuse := -1) (ca := stl (extI (nameA ++ dotA) 0 1 (encI freshA.up.l))) (cb := stl (extI (nameA ++ dotB) 0 1 (encI freshA.up.l))) (ga := 1) (gb := 1) (by omega) (by omega) (by rw [hl]; omega) (by rw [hl]; omega) rfl rfl
  rw [if_pos (by omega)] at g1
  refine ⟨two 2 (-1) (nameA ++ dotA) (nameA ++ dotB) (stl (extI (nameA ++ dotA) 0 1 (encI freshA.up.l))) (stl (extI (nameA ++ dotB) 0 1 (encI freshA.up.l))), ⟨?_, ?_, ?_⟩⟩
  · unfold saveP
    rw [if_pos ⟨by decide, fresh_can⟩, show freshA.up.seq = 1 from rfl, p1]
    rfl
  · unfold loadA
    rw [g1]
    dsimp only
    rw [decP_encI fresh_up_ok fresh_can, if_pos ⟨by omega, rfl, rfl⟩]
  · have hb : ∀ f, Bytes (extI f 0 1 (encI freshA.up.l)) := fun f => extI_bytes (by rw [hl]; omega) (encI_bytes _)
    intro f hf c hc
    rcases List.mem_cons.1 hf with rfl | hf
    · rw [cel_a] at hc
      cases hc
      exact hb _
    · rcases List.mem_cons.1 hf with rfl | hf
      · rw [cel_b twoAnch.ne] at hc
        cases hc
        exact hb _
      · cases hf
end Go.Proofs.YtnllmkpbnccllaaDoor
/- anchor.Save. -/
namespace Go.Proofs.YtnllmkpbnccllaaDoor
open Go.RowKit HP
set_option linter.unusedSimpArgs false
set_option linter.unusedVariables false

set_option maxHeartbeats 4000000 in
set_option maxRecDepth 100000 in
theorem anchor_save (E : Env) (q : HP) (d : Nat) (A : Dk) (a : Anch) (w : World) (hs64 : wf64 a.seq) (hq : ∀ w, Sat E w q → Quarter w) (hw : Sat E w (HP.disk d A * q)) :
    Calls Tryd.prog 76 #[.pointer (some ⟨d, 0, none⟩), .agg #[.int .i64 a.seq, .int .i64 a.gen, .int .i64 a.lsn, .int .i64 a.seg, .int .i64 a.ext, .int .i64 a.flo, .int .i64 a.new, .int .i64 a.keep, .int .i64 a.next, .int .i64 a.cur]] w fun e w' => e = .returned (.tuple #[(saveP A a).1.1.val, .int .i64 (saveP A a).1.2]) ∧ Sat E w' (HP.disk d (saveP A a).2 * q) := by
  have h1 := (hw.alloc (.cells #[.int .i64 a.seq, .int .i64 a.gen, .int .i64 a.lsn, .int .i64 a.seg, .int .i64 a.ext, .int .i64 a.flo, .int .i64 a.new, .int .i64 a.keep, .int .i64 a.next, .int .i64 a.cur] 71)).alloc (.cells #[.int .i64 0, .int .i64 0, .int .i64 0, .int .i64 0, .int .i64 0, .int .i64 0, .int .i64 0, .int .i64 0, .int .i64 0, .int .i64 0] 71)
  have hz : (w.alloc (.cells #[.int .i64 a.seq, .int .i64 a.gen, .int .i64 a.lsn, .int .i64 a.seg, .int .i64 a.ext, .int .i64 a.flo, .int .i64 a.new, .int .i64 a.keep, .int .i64 a.next, .int .i64 a.cur] 71)).heap.size = w.heap.size + 1 := by simp
  rw [hz] at h1
  have H1 : Aside (Sat E ((w.alloc (.cells #[.int .i64 a.seq, .int .i64 a.gen, .int .i64 a.lsn, .int .i64 a.seg, .int .i64 a.ext, .int .i64 a.flo, .int .i64 a.new, .int .i64 a.keep, .int .i64 a.next, .int .i64 a.cur] 71)).alloc (.cells #[.int .i64 0, .int .i64 0, .int .i64 0, .int .i64 0, .int .i64 0, .int .i64 0, .int .i64 0, .int .i64 0, .int .i64 0, .int .i64 0] 71)) (HP.disk d A * (HP.pt w.heap.size (.cells #[.int .i64 a.seq, .int .i64 a.gen, .int .i64 a.lsn, .int .i64 a.seg, .int .i64 a.ext, .int .i64 a.flo, .int .i64 a.new, .int .i64 a.keep, .int .i64 a.next, .int .i64 a.cur] 71) * (HP.pt (w.heap.size + 1) (.cells #[.int .i64 0, .int .i64 0, .int .i64 0, .int .i64 0, .int .i64 0, .int .i64 0, .int .i64 0, .int .i64 0, .int .i64 0, .int .i64 0] 71) * q)))) := ⟨h1.perm (by ac_rfl)⟩
  have HQ := Aside.mk hq
  have hx : nameA.size + 2 ≤ maxLen := by show 8 ≤ maxLen; unfold maxLen; omega
  have HX := Aside.mk hx
  have H64 := Aside.mk hs64
  have HS : Aside (saveP A a = if btw 0 [a.seq] = true ∧ canA a.up = true then
    (if (putP A nameA 0 a.up.seq (encI a.up.l)).1 = 0 then (a.up, 0) else (zeroA, (putP A nameA 0 a.up.seq (encI a.up.l)).1), (putP A nameA 0 a.up.seq (encI a.up.l)).2)
  else ((zeroA, 1), A)) := ⟨rfl⟩
  clear hq hw h1 hz hx hs64
  go_enter Tryd.func76, Tryd.ntmps76
  go_wp2_with fail
  refine (disk_asked E _ d A _ H1.out).mono ?_
  rintro e w1 ⟨rfl, h2⟩
  have k0 : w1.cell? ⟨w.heap.size, 0, none⟩ = some (.int .i64 a.seq) := h2.right.cell 0
  have H2 := Aside.mk (h2.alloc (.cells #[.int .i64 a.seq] 3))
  clear h2 H1
  go_wp2_with fail
  refine (between_ok E _ 0 w1.heap.size [a.seq] 1 1 _ rfl (by omega) (fun w h => Sat.ptCells (off := 0) (l := i8s [a.seq]) h rfl) H2.out).mono ?_
  rintro e w2 ⟨rfl, h3⟩
  have H3 := Aside.mk h3.right
  clear h3 H2 k0
  obtain ⟨cb, hcb⟩ : ∃ cb, cb = btw 0 [a.seq] := ⟨_, rfl⟩
  rw [← hcb] at HS ⊢
  have HCB := Aside.mk hcb
  clear hcb
  cases cb with
  | false =>
    rw [if_neg (by simp)] at HS
    have r2 : (storeVar 71 ⟨w.heap.size + 1, 0, none⟩ (.agg (i8s zeroA.l).toArray)).run Tryd.prog w2 = .ok () (w2.setRow (w.heap.size + 1) (i8s zeroA.l).toArray) := run_storeAgg agAnch (g := w.heap.size + 1) (off := 0) (cs := i8s zeroA.l) H3.out.s3.get rfl (by show 0 + 10 ≤ 10; omega) rfl
    have h5 := H3.out.s3.splice (i8s zeroA.l)
    have H5 := Aside.mk h5
    clear h5 H3
    generalize World.setRow w2 _ _ = w5 at *
    go_wp2_with (refine wpList_store_run rfl rfl rfl rfl rfl r2 ?_)
    go_wp2
    refine bodyPost_ret (results_cellTmp rfl rfl (run_loadAgg agAnch (cs := i8s zeroA.l) rfl (Sat.ptCells (off := 0) H5.out rfl))) rfl ?_
    rw [HS.out]
    exact ⟨rfl, H5.out.right.perm (by ac_rfl : _ = HP.pt w.heap.size (.cells #[.int .i64 a.seq, .int .i64 a.gen, .int .i64 a.lsn, .int .i64 a.seg, .int .i64 a.ext, .int .i64 a.flo, .int .i64 a.new, .int .i64 a.keep, .int .i64 a.next, .int .i64 a.cur] 71) * (HP.disk d A * q)) |>.right⟩
  | true =>
    have hrg : 0 ≤ a.seq ∧ a.seq ≤ 4611686018427387904 := by
      have := HCB.out.symm
      simpa [btw, nOk] using this
    obtain ⟨s0, s1⟩ := hrg
    have k0 : w2.cell? ⟨w.heap.size, 0, none⟩ = some (.int .i64 a.seq) := H3.out.s2.cell 0
    have kf : w2.frozen? ⟨w.heap.size, 0, none⟩ = false := H3.out.s2.thaw 0
    have h4 : Sat E (w2.setCell ⟨w.heap.size, 0, none⟩ (.int .i64 (a.seq + 1))) (HP.pt w.heap.size (.cells #[.int .i64 (a.seq + 1), .int .i64 a.gen, .int .i64 a.lsn, .int .i64 a.seg, .int .i64 a.ext, .int .i64 a.flo, .int .i64 a.new, .int .i64 a.keep, .int .i64 a.next, .int .i64 a.cur] 71) * (HP.disk d A * (HP.pt (w.heap.size + 1) (.cells #[.int .i64 0, .int .i64 0, .int .i64 0, .int .i64 0, .int .i64 0, .int .i64 0, .int .i64 0, .int .i64 0, .int .i64 0, .int .i64 0] 71) * q))) := H3.out.s2.set (i := 0) (.int .i64 (a.seq + 1))
    have H4 := Aside.mk h4
    have r1 : (loadVar 71 ⟨w.heap.size, 0, none⟩).run Tryd.prog (w2.setCell ⟨w.heap.size, 0, none⟩ (.int .i64 (a.seq + 1))) = .ok (.agg (i8s a.up.l).toArray) (w2.setCell ⟨w.heap.size, 0, none⟩ (.int .i64 (a.seq + 1))) := run_loadAgg agAnch (cs := i8s a.up.l) rfl (Sat.ptCells (off := 0) h4 rfl)
    clear h4 H3
    go_wp2_with (refine wpList_load_run rfl rfl rfl r1 ?_)
    refine (encode_ok E _ a.up _ H4.out).mono ?_
    intro e w3 h5
    clear H4 r1 k0 kf
    unfold encEnd at h5
    by_cases hc : canA a.up = true
    · rw [if_pos hc] at h5
      rw [if_pos ⟨trivial, hc⟩] at HS
      clear hc
      obtain ⟨v, rfl, h5⟩ := h5
      obtain ⟨Av, cv, rfl, hcv, hcm⟩ := h5.row_slice
      have k1 : w3.cell? ⟨w.heap.size, 0, none⟩ = some (.int .i64 (a.seq + 1)) := h5.right.cell 0
      have h6 : Sat E w3 (HP.disk d A * (HP.row 5 1 (.slice Av 80 cv) 80 (b8s (encI a.up.l)) * (HP.pt w.heap.size (.cells #[.int .i64 (a.seq + 1), .int .i64 a.gen, .int .i64 a.lsn, .int .i64 a.seg, .int .i64 a.ext, .int .i64 a.flo, .int .i64 a.new, .int .i64 a.keep, .int .i64 a.next, .int .i64 a.cur] 71) * (HP.pt (w.heap.size + 1) (.cells #[.int .i64 0, .int .i64 0, .int .i64 0, .int .i64 0, .int .i64 0, .int .i64 0, .int .i64 0, .int .i64 0, .int .i64 0, .int .i64 0] 71) * q)))) := h5.perm (by ac_rfl)
      have HE := Aside.mk (And.intro (show (encI a.up.l).length = 80 by rw [encI_length]; rfl) (encI_bytes a.up.l))
      have HQ2 : Aside (∀ w', Sat E w' (HP.row 5 1 (.slice Av 80 cv) 80 (b8s (encI a.up.l)) * (HP.pt w.heap.size (.cells #[.int .i64 (a.seq + 1), .int .i64 a.gen, .int .i64 a.lsn, .int .i64 a.seg, .int .i64 a.ext, .int .i64 a.flo, .int .i64 a.new, .int .i64 a.keep, .int .i64 a.next, .int .i64 a.cur] 71) * (HP.pt (w.heap.size + 1) (.cells #[.int .i64 0, .int .i64 0, .int .i64 0, .int .i64 0, .int .i64 0, .int .i64 0, .int .i64 0, .int .i64 0, .int .i64 0, .int .i64 0] 71) * q))) → Quarter w' ∧ Cells w' Av (b8s (encI a.up.l))) := ⟨fun w' h => ⟨HQ.out w' h.right.right.right, h.row_cells⟩⟩
      have H6 := Aside.mk h6
      clear h5 h6
      go_wp2_with fail
      refine (pair_put E _ d A nameA 0 (a.seq + 1) Av (encI a.up.l) 80 cv _ HX.out HE.out.1 hcv HE.out.2 HQ2.out H6.out).mono ?_
      rintro e w4 ⟨rfl, h7⟩
      rw [show a.up.seq = a.seq + 1 from rfl] at HS
      obtain ⟨⟨c, B⟩, hcB⟩ : ∃ r, r = putP A nameA 0 (a.seq + 1) (encI a.up.l) := ⟨_, rfl⟩
      rw [← hcB] at h7 HS ⊢
      have h8 : Sat E w4 (HP.pt (w.heap.size + 1) (.cells #[.int .i64 0, .int .i64 0, .int .i64 0, .int .i64 0, .int .i64 0, .int .i64 0, .int .i64 0, .int .i64 0, .int .i64 0, .int .i64 0] 71) * (HP.pt w.heap.size (.cells #[.int .i64 (a.seq + 1), .int .i64 a.gen, .int .i64 a.lsn, .int .i64 a.seg, .int .i64 a.ext, .int .i64 a.flo, .int .i64 a.new, .int .i64 a.keep, .int .i64 a.next, .int .i64 a.cur] 71) * (HP.disk d B * q))) := (h7.perm (by ac_rfl : _ = HP.row 5 1 (.slice Av 80 cv) 80 (b8s (encI a.up.l)) * (HP.pt (w.heap.size + 1) (.cells #[.int .i64 0, .int .i64 0, .int .i64 0, .int .i64 0, .int .i64 0, .int .i64 0, .int .i64 0, .int .i64 0, .int .i64 0, .int .i64 0] 71) * (HP.pt w.heap.size (.cells #[.int .i64 (a.seq + 1), .int .i64 a.gen, .int .i64 a.lsn, .int .i64 a.seg, .int .i64 a.ext, .int .i64 a.flo, .int .i64 a.new, .int .i64 a.keep, .int .i64 a.next, .int .i64 a.cur] 71) * (HP.disk d B * q))))).right
      have H8 := Aside.mk h8
      clear h7 h8 hcB H6 HQ2 HE k1
      by_cases hc0 : c = 0
      · subst hc0
        have HS2 : Aside (saveP A a = ((a.up, 0), B)) := ⟨by rw [HS.out]; rfl⟩
        have r3 : (loadVar 71 ⟨w.heap.size, 0, none⟩).run Tryd.prog w4 = .ok (.agg (i8s a.up.l).toArray) w4 := run_loadAgg agAnch (cs := i8s a.up.l) rfl (Sat.ptCells (off := 0) H8.out.right rfl)
        clear HS
        have r2 : (storeVar 71 ⟨w.heap.size + 1, 0, none⟩ (.agg (i8s a.up.l).toArray)).run Tryd.prog w4 = .ok () (w4.setRow (w.heap.size + 1) (i8s a.up.l).toArray) := run_storeAgg agAnch (g := w.heap.size + 1) (off := 0) (cs := i8s a.up.l) H8.out.get rfl (by show 0 + 10 ≤ 10; omega) rfl
        have h9 := H8.out.splice (i8s a.up.l)
        have H9 := Aside.mk h9
        clear h9 H8
        generalize World.setRow w4 _ _ = w9 at *
        go_wp2_with (first | (refine wpList_load_run rfl rfl rfl r3 ?_) | (refine wpList_store_run rfl rfl rfl rfl rfl r2 ?_))
        go_wp2
        refine bodyPost_ret (results_cellTmp rfl rfl (run_loadAgg agAnch (cs := i8s a.up.l) rfl (Sat.ptCells (off := 0) H9.out rfl))) rfl ?_
        rw [HS2.out]
        exact ⟨rfl, H9.out.right.right⟩
      · have hcb : (c == 0) = false := by rw [beq_eq_false_iff_ne]; exact hc0
        have HS2 : Aside (saveP A a = ((zeroA, c), B)) := ⟨by rw [HS.out, if_neg hc0]⟩
        clear HS
        have r2 : (storeVar 71 ⟨w.heap.size + 1, 0, none⟩ (.agg (i8s zeroA.l).toArray)).run Tryd.prog w4 = .ok () (w4.setRow (w.heap.size + 1) (i8s zeroA.l).toArray) := run_storeAgg agAnch (g := w.heap.size + 1) (off := 0) (cs := i8s zeroA.l) H8.out.get rfl (by show 0 + 10 ≤ 10; omega) rfl
        have h9 := H8.out.splice (i8s zeroA.l)
        have H9 := Aside.mk h9
        clear h9 H8
        generalize World.setRow w4 _ _ = w9 at *
        go_wp2_with ((refine wpList_store_run rfl rfl rfl rfl rfl r2 ?_))
        go_wp2
        refine bodyPost_ret (results_cellTmp rfl rfl (run_loadAgg agAnch (cs := i8s zeroA.l) rfl (Sat.ptCells (off := 0) H9.out rfl))) rfl ?_
        rw [HS2.out]
        exact ⟨rfl, H9.out.right.right⟩
    · rw [if_neg hc] at h5
      have HS2 : Aside (saveP A a = ((zeroA, 1), A)) := ⟨by rw [HS.out, if_neg (fun h => hc h.2)]⟩
      clear hc HS
      obtain ⟨rfl, h5⟩ := h5
      have H8 := Aside.mk h5.s3
      clear h5
      have r2 : (storeVar 71 ⟨w.heap.size + 1, 0, none⟩ (.agg (i8s zeroA.l).toArray)).run Tryd.prog w3 = .ok () (w3.setRow (w.heap.size + 1) (i8s zeroA.l).toArray) := run_storeAgg agAnch (g := w.heap.size + 1) (off := 0) (cs := i8s zeroA.l) H8.out.get rfl (by show 0 + 10 ≤ 10; omega) rfl
      have h9 := H8.out.splice (i8s zeroA.l)
      have H9 := Aside.mk h9
      clear h9 H8
      generalize World.setRow w3 _ _ = w9 at *
      go_wp2_with ((refine wpList_store_run rfl rfl rfl rfl rfl r2 ?_))
      go_wp2
      refine bodyPost_ret (results_cellTmp rfl rfl (run_loadAgg agAnch (cs := i8s zeroA.l) rfl (Sat.ptCells (off := 0) H9.out rfl))) rfl ?_
      rw [HS2.out]
      exact ⟨rfl, H9.out.right.right⟩
end Go.Proofs.YtnllmkpbnccllaaDoor
/- awake of layer 17. -/
namespace Go.Proofs.YtnllmkpbnccllaaDoor
open Go.RowKit HP
set_option linter.unusedSimpArgs false
set_option linter.unusedVariables false

set_option maxHeartbeats 2000000 in
set_option maxRecDepth 100000 in
theorem awake17_ok (E : Env) (q : HP) (w : World) (hq : ∀ w, Sat E w q → Quarter w) (hw : Sat E w q) :
    Calls Tryd.prog 39 #[] w fun e w' => e = .returned (.bool true) ∧ Sat E w' q := by
  obtain ⟨B, hB⟩ := saved_end
  have HB := Aside.mk hB
  have HQ := Aside.mk (And.intro hq hw)
  clear hB hq hw
  go_enter Tryd.func39, Tryd.ntmps39
  go_wp2_with fail
  refine (disk_new_ok E q 2 _ ⟨by omega, by omega⟩ HQ.out.2).mono ?_
  rintro e w1 ⟨d, rfl, h1⟩
  have H1 := Aside.mk h1
  clear h1
  go_wp2_with fail
  refine (fresh_ok E _ _ H1.out).mono ?_
  rintro e w2 ⟨rfl, h2⟩
  have H2 := Aside.mk h2
  clear h2 H1
  rw [show freshA.val = .agg #[.int .i64 0, .int .i64 1, .int .i64 0, .int .i64 1, .int .i64 0, .int .i64 (-9223372036854775808), .int .i64 (-9223372036854775808), .int .i64 0, .int .i64 1, .int .i64 0] from rfl]
  go_wp2_with fail
  refine (anchor_save E q d (Dk.new 2) freshA _ (by decide) HQ.out.1 H2.out).mono ?_
  rintro e w3 ⟨rfl, h3⟩
  rw [HB.out.save] at h3 ⊢
  dsimp only at h3 ⊢
  rw [show freshA.up.val = .agg #[.int .i64 1, .int .i64 1, .int .i64 0, .int .i64 1, .int .i64 0, .int .i64 (-9223372036854775808), .int .i64 (-9223372036854775808), .int .i64 0, .int .i64 1, .int .i64 0] from rfl]
  have h4 := h3.alloc (.cells #[.int .i64 1, .int .i64 1, .int .i64 0, .int .i64 1, .int .i64 0, .int .i64 (-9223372036854775808), .int .i64 (-9223372036854775808), .int .i64 0, .int .i64 1, .int .i64 0] 71)
  have H4 : Aside (Sat E (w3.alloc (.cells #[.int .i64 1, .int .i64 1, .int .i64 0, .int .i64 1, .int .i64 0, .int .i64 (-9223372036854775808), .int .i64 (-9223372036854775808), .int .i64 0, .int .i64 1, .int .i64 0] 71)) (HP.disk d B * (HP.pt w3.heap.size (.cells #[.int .i64 1, .int .i64 1, .int .i64 0, .int .i64 1, .int .i64 0, .int .i64 (-9223372036854775808), .int .i64 (-9223372036854775808), .int .i64 0, .int .i64 1, .int .i64 0] 71) * q))) := ⟨h4.perm (by ac_rfl)⟩
  clear h3 h4 H2
  go_wp2_with fail
  refine (anchor_load E _ d B _ HB.out.bytes (fun w h => HQ.out.1 w h.right) H4.out).mono ?_
  rintro e w5 ⟨rfl, h5⟩
  rw [HB.out.load]
  dsimp only
  rw [show freshA.up.val = .agg #[.int .i64 1, .int .i64 1, .int .i64 0, .int .i64 1, .int .i64 0, .int .i64 (-9223372036854775808), .int .i64 (-9223372036854775808), .int .i64 0, .int .i64 1, .int .i64 0] from rfl]
  have h6 := (h5.right.alloc (.cells #[.int .i64 1, .int .i64 1, .int .i64 0, .int .i64 1, .int .i64 0, .int .i64 (-9223372036854775808), .int .i64 (-9223372036854775808), .int .i64 0, .int .i64 1, .int .i64 0] 71)).right
  have k0 := h6.cell 0
  have k1 := h6.cell 1
  have k2 := h6.cell 2
  have k3 := h6.cell 3
  have k4 := h6.cell 4
  have k5 := h6.cell 5
  have k6 := h6.cell 6
  have k7 := h6.cell 7
  have k8 := h6.cell 8
  have k9 := h6.cell 9
  simp only [List.getElem?_toArray, List.getElem?_cons_zero, List.getElem?_cons_succ] at k0 k1 k2 k3 k4 k5 k6 k7 k8 k9
  have H7 := Aside.mk h6
  clear h5 h6 H4
  go_wp2
  go_ret
  exact ⟨rfl, H7.out.right⟩
end Go.Proofs.YtnllmkpbnccllaaDoor
/- The listed table: what the condition gives a walk; the door's own heap meets it. -/
namespace Go.Proofs.YtnllmkpbnccllaaDoor
open Go.ChangeShapes Go.WideShapes Go.ChangeAt Go.WideMaps Go.WideElems Go.RowKit HP
set_option linter.unusedVariables false

def laidAll : List (String × DataW Unit) := [("dryrot/crc.quarter", Rows.laid_dryrot_crc_quarter)]
theorem gQuarter : Tryd.prog.globalNamed "dryrot/crc.quarter" = some 0 := by kernel_rfl
theorem tQuarter : (Tryd.prog.globals[0]?).map (·.type) = some 198 := by kernel_rfl
theorem door_met (os : Os) (args : Array Value) : laidMetH Tryd.prog laidAll ((World.doorLaid Tryd.prog 400 os).forCall (fun _ _ => 0) ⟨#[], args, []⟩).memory :=
  laidMetH_of_parts3 (fuel := 8) (laidMet_of_run' 8 (by kernel_rfl) (by kernel_rfl)) (by kernel_rfl) (by kernel_rfl)
theorem quarter_of_laid {W : World} (h : laidMetH Tryd.prog laidAll W) : Quarter W := by
  rw [MakeChecks.laidMetH_plain _ _ _ (by kernel_rfl)] at h
  obtain ⟨ps, ⟨g0, t0, cs0, f0, p0, q0, hg0, ht0, hv0, hd0, _, _⟩, _, _⟩ := h
  obtain rfl := Option.some.inj (gQuarter.symm.trans hg0)
  obtain rfl := Option.some.inj (tQuarter.symm.trans ht0)
  obtain ⟨xs, m1, rfl, hx1, hlen, hn3, hel⟩ := DataW.trod_array Tryd.underlying198 hd0
  have c3 : Tryd.prog.cellsOf 155 = 1 := by kernel_rfl
  simp only [Prod.mk.injEq, DataW.agg.injEq, Rows.laid_dryrot_crc_quarter] at hx1
  intro i hi
  have hi' := hel i hi
  rw [c3, Nat.mul_one] at hi'
  have hxl : i < xs.length := by omega
  rw [List.getElem?_eq_getElem hxl] at hi'
  obtain ⟨k, e1, e2, _⟩ := DataW.trod_int Tryd.underlying155 hi'
  have e3 : (xs.map (·.1))[i]? = some (DataW.lit (.int .u32 k)) := by
    rw [List.getElem?_map, List.getElem?_eq_getElem hxl]
    simp [e2]
  rw [← hx1.1] at e3
  have hk : k = quarterN i := by
    match i, hi with
    | 0, _ => simpa [quarterN] using e3.symm
    | 1, _ => simpa [quarterN] using e3.symm
    | 2, _ => simpa [quarterN] using e3.symm
    | 3, _ => simpa [quarterN] using e3.symm
  have e4 := World.var?_cell hg0 hv0 i
  have e5 : cs0.toList[i]? = some (.int .u32 k) := by
    have := congrArg (fun l => l[0]?) e1
    simpa [List.getElem?_take] using this
  rw [Array.getElem?_toList, hk] at e5
  rw [← e5, ← e4]
end Go.Proofs.YtnllmkpbnccllaaDoor
/- What the laws' cards share. -/
namespace Go.Proofs.YtnllmkpbnccllaaDoor
open Go.ChangeShapes Go.WideShapes Go.ChangeAt Go.RowKit HP
set_option linter.unusedVariables false

theorem old_carry {E : Env} {W w : World} (h : Sat E w (HP.old W)) : ∀ k, k < W.heap.size → w.heap[k]? = W.heap[k]? := fun k hk => Sat.old_block (p := HP.emp) (by rw [HP.mul_emp]; exact h) k hk
theorem quarter_old {E : Env} {W w : World} (hQ : Quarter W) (h : Sat E w (HP.old W)) : Quarter w := fun i hi => by
  rw [World.cell?_of_block (w := W) (old_carry h _ (World.block_lt_of_cell? W _ (hQ i hi)))]
  exact hQ i hi
theorem trodAll_five {H : Type} {enc : TypeId × Value → H} {P : Program} {w : World} {base : Nat} {spare : Nat → Bool} {held : Bool} {t t' t'' t3 t4 : TypeId} {args : Array Value} {ds : List (DataW H)} {ps : List MemPlace} (h : DataW.TrodAll enc P w base spare held [t, t', t'', t3, t4] args.toList ds ps) :
    ∃ v v' v'' v3 v4 d d' d'' d3 d4 p p' p'' p3 p4, args = #[v, v', v'', v3, v4] ∧ ds = [d, d', d'', d3, d4] ∧ ps = p ++ p' ++ p'' ++ p3 ++ p4 ∧ DataW.Trod enc P w base spare held t v d p ∧ DataW.Trod enc P w base spare held t' v' d' p' ∧ DataW.Trod enc P w base spare held t'' v'' d'' p'' ∧ DataW.Trod enc P w base spare held t3 v3 d3 p3 ∧ DataW.Trod enc P w base spare held t4 v4 d4 p4 := by
  obtain ⟨v, vs, d, ds', p, q, hargs, rfl, rfl, hd, hrest⟩ := trodAll_cons h
  obtain ⟨v', vs', d', ds'', p', q', rfl, rfl, rfl, hd', hrest'⟩ := trodAll_cons hrest
  obtain ⟨v'', vs'', d'', ds''', p'', q'', rfl, rfl, rfl, hd'', hrest''⟩ := trodAll_cons hrest'
  obtain ⟨v3, vs3, d3, ds3, p3, q3, rfl, rfl, rfl, hd3, hrest3⟩ := trodAll_cons hrest''
  obtain ⟨v4, vs4, d4, ds4, p4, q4, rfl, rfl, rfl, hd4, hrest4⟩ := trodAll_cons hrest3
  obtain ⟨rfl, rfl, rfl⟩ := trodAll_nil hrest4
  exact ⟨v, v', v'', v3, v4, d, d', d'', d3, d4, p, p', p'', p3, p4, by cases args; simp_all, rfl, by simp, hd, hd', hd'', hd3, hd4⟩
theorem rdB_at : (rdSl (rdInt .u8)).At Tryd.prog 22 := rdSl_at (n := 1) Tryd.underlying22 (by kernel_rfl) (rdInt_at Tryd.underlying5)
end Go.Proofs.YtnllmkpbnccllaaDoor
