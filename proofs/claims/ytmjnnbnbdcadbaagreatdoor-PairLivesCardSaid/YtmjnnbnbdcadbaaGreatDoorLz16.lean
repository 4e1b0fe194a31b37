/- Texts of one claim, one behind the other: Rf17, Spo, Do3, SpEq, StrE. -/
import Derived.Test.YtmjnnbnbdcadbaaGreatDoorLz15
/- dryrotref17.Save, Load over the document's disk. -/
namespace Go.Proofs.YtmjnnbnbdcadbaaGreatDoor
open Go.RowKit HP
set_option linter.unusedSimpArgs false
set_option linter.unusedVariables false

theorem nameA_size : nameA.size + 2 ≤ maxLen := by show 8 ≤ maxLen; unfold maxLen; omega
theorem Dk.Byt.saveP {A : Dk} (h : A.Byt) (a : Anch) : (saveP A a).2.Byt := by
  unfold Go.Proofs.YtmjnnbnbdcadbaaGreatDoor.saveP
  split
  · exact h.putP nameA 0 _ (encI_bytes _)
  · exact h
set_option maxHeartbeats 4000000 in
set_option maxRecDepth 100000 in
theorem ref_aload (E : Env) (q : HP) (y : Nat) (A : Dk) (w : World) (hby : ∀ f ∈ halvesL nameA, ∀ c, A.cel f 0 = some c → Bytes c.read) (hw : Sat E w (HP.rdisk y A * q)) :
    Calls Tryz.prog 13 #[.pointer (some ⟨y, 0, none⟩)] w fun e w' => e = .returned (.tuple #[(loadA A).1.val, .int .i64 (loadA A).2]) ∧ Sat E w' (HP.rdisk y A * q) := by
  have h1 := hw.alloc (.cells #[.int .i64 0, .int .i64 0, .int .i64 0, .int .i64 0, .int .i64 0, .int .i64 0, .int .i64 0, .int .i64 0, .int .i64 0, .int .i64 0] 29)
  have H1 : Aside (Sat E (w.alloc (.cells #[.int .i64 0, .int .i64 0, .int .i64 0, .int .i64 0, .int .i64 0, .int .i64 0, .int .i64 0, .int .i64 0, .int .i64 0, .int .i64 0] 29)) (HP.rdisk y A * (HP.pt w.heap.size (.cells #[.int .i64 0, .int .i64 0, .int .i64 0, .int .i64 0, .int .i64 0, .int .i64 0, .int .i64 0, .int .i64 0, .int .i64 0, .int .i64 0] 29) * q))) := ⟨h1.perm (by ac_rfl)⟩
  have HQ := Aside.mk hby
  have HL : Aside (loadA A = if 0 ≤ (getP A nameA 0).1 ∧ (decP (getP A nameA 0).2).2 = 0 ∧ (decP (getP A nameA 0).2).1.seq = (getP A nameA 0).1 then ((decP (getP A nameA 0).2).1, 0) else (zeroA, 170)) := ⟨rfl⟩
  have hpb := getP_byt hby
  clear hby hw h1
  go_enter Tryz.func13, Tryz.ntmps13
  go_wp2_with fail
  refine (ref_getp E _ y A nameA 0 _ nameA_size HQ.out H1.out).mono ?_
  rintro e w1 ⟨v, rfl, h2⟩
  obtain ⟨⟨best, p⟩, hst⟩ : ∃ st, st = getP A nameA 0 := ⟨_, rfl⟩
  rw [← hst] at h2 HL hpb ⊢
  clear hst H1
  dsimp only at h2 HL hpb
  unfold getEnd
  dsimp only
  by_cases hneg : best < 0
  · rw [if_pos hneg]
    have HX2 : Aside (loadA A = (zeroA, 170)) := ⟨by rw [HL.out, if_neg (by omega)]⟩
    have H4 : Aside (Sat E w1 (HP.pt w.heap.size (.cells #[.int .i64 0, .int .i64 0, .int .i64 0, .int .i64 0, .int .i64 0, .int .i64 0, .int .i64 0, .int .i64 0, .int .i64 0, .int .i64 0] 29) * (HP.emp * (HP.rdisk y A * q)))) := ⟨by rw [HP.emp_mul]; exact h2.right.s2⟩
    clear h2 HL
    have r2 : (storeVar 29 ⟨w.heap.size, 0, none⟩ (.agg (i8s zeroA.l).toArray)).run Tryz.prog w1 = .ok () (World.setRow w1 (w.heap.size) (i8s zeroA.l).toArray) := run_storeAgg agAnch (g := w.heap.size) (off := 0) (cs := i8s zeroA.l) H4.out.get rfl (by show 0 + 10 ≤ 10; omega) rfl
    have h9 := H4.out.splice (i8s zeroA.l)
    have H9 := Aside.mk h9
    clear h9 H4
    generalize World.setRow w1 _ _ = w9 at *
    go_wp2_with (first | (refine wpList_store_run rfl rfl rfl rfl rfl r2 ?_))
    go_wp2
    refine bodyPost_ret (results_cellTmp rfl rfl (run_loadAgg agAnch (cs := i8s zeroA.l) rfl (Sat.ptCells (off := 0) H9.out rfl))) rfl ?_
    rw [HX2.out]
    exact ⟨rfl, H9.out.right.right⟩
  · rw [if_neg hneg]
    obtain ⟨Av, cv, rfl, hcv, hcm⟩ := h2.row_slice
    have H2 := Aside.mk h2
    have HPB := Aside.mk hpb
    clear hpb
    obtain ⟨⟨a, c⟩, hac⟩ : ∃ r, r = decP p := ⟨_, rfl⟩
    rw [← hac] at HL
    have HD := Aside.mk hac.symm
    clear h2 hac
    go_wp2_with fail
    refine (refdec_ok E _ Av p p.length cv _ rfl hcv hcm HPB.out (fun w h => h.row_cells) H2.out).mono ?_
    rintro e w2 ⟨rfl, h3⟩
    rw [HD.out]
    dsimp only at HL ⊢
    rw [show a.val = .agg #[.int .i64 a.seq, .int .i64 a.gen, .int .i64 a.lsn, .int .i64 a.seg, .int .i64 a.ext, .int .i64 a.flo, .int .i64 a.new, .int .i64 a.keep, .int .i64 a.next, .int .i64 a.cur] from rfl]
    have h4 := h3.right.alloc (.cells #[.int .i64 a.seq, .int .i64 a.gen, .int .i64 a.lsn, .int .i64 a.seg, .int .i64 a.ext, .int .i64 a.flo, .int .i64 a.new, .int .i64 a.keep, .int .i64 a.next, .int .i64 a.cur] 29)
    have H4 : Aside (Sat E (w2.alloc (.cells #[.int .i64 a.seq, .int .i64 a.gen, .int .i64 a.lsn, .int .i64 a.seg, .int .i64 a.ext, .int .i64 a.flo, .int .i64 a.new, .int .i64 a.keep, .int .i64 a.next, .int .i64 a.cur] 29)) (HP.pt w.heap.size (.cells #[.int .i64 0, .int .i64 0, .int .i64 0, .int .i64 0, .int .i64 0, .int .i64 0, .int .i64 0, .int .i64 0, .int .i64 0, .int .i64 0] 29) * (HP.pt w2.heap.size (.cells #[.int .i64 a.seq, .int .i64 a.gen, .int .i64 a.lsn, .int .i64 a.seg, .int .i64 a.ext, .int .i64 a.flo, .int .i64 a.new, .int .i64 a.keep, .int .i64 a.next, .int .i64 a.cur] 29) * (HP.rdisk y A * q)))) := ⟨h4.perm (by ac_rfl)⟩
    have k0 : (w2.alloc (.cells #[.int .i64 a.seq, .int .i64 a.gen, .int .i64 a.lsn, .int .i64 a.seg, .int .i64 a.ext, .int .i64 a.flo, .int .i64 a.new, .int .i64 a.keep, .int .i64 a.next, .int .i64 a.cur] 29)).cell? ⟨w2.heap.size, 0, none⟩ = some (.int .i64 a.seq) := h4.cell 0
    clear h3 H2 HD HPB h4
    by_cases hc : c = 0
    · subst hc
      by_cases hs : a.seq = best
      · subst hs
        have HX2 : Aside (loadA A = (a, 0)) := ⟨by rw [HL.out, if_pos ⟨by omega, rfl, rfl⟩]⟩
        have rl : (loadVar 29 ⟨w2.heap.size, 0, none⟩).run Tryz.prog (w2.alloc (.cells #[.int .i64 a.seq, .int .i64 a.gen, .int .i64 a.lsn, .int .i64 a.seg, .int .i64 a.ext, .int .i64 a.flo, .int .i64 a.new, .int .i64 a.keep, .int .i64 a.next, .int .i64 a.cur] 29)) = .ok (.agg #[.int .i64 a.seq, .int .i64 a.gen, .int .i64 a.lsn, .int .i64 a.seg, .int .i64 a.ext, .int .i64 a.flo, .int .i64 a.new, .int .i64 a.keep, .int .i64 a.next, .int .i64 a.cur]) (w2.alloc (.cells #[.int .i64 a.seq, .int .i64 a.gen, .int .i64 a.lsn, .int .i64 a.seg, .int .i64 a.ext, .int .i64 a.flo, .int .i64 a.new, .int .i64 a.keep, .int .i64 a.next, .int .i64 a.cur] 29)) := run_loadAgg agAnch (cs := i8s a.l) rfl (Sat.ptCells (off := 0) H4.out.s2 rfl)
        clear HL
        obtain ⟨w5, hw5⟩ : ∃ w5, w5 = w2.alloc (.cells #[.int .i64 a.seq, .int .i64 a.gen, .int .i64 a.lsn, .int .i64 a.seg, .int .i64 a.ext, .int .i64 a.flo, .int .i64 a.new, .int .i64 a.keep, .int .i64 a.next, .int .i64 a.cur] 29) := ⟨_, rfl⟩
        rw [← hw5] at H4 rl k0
        have r2 : (storeVar 29 ⟨w.heap.size, 0, none⟩ (.agg (i8s a.l).toArray)).run Tryz.prog w5 = .ok () (World.setRow w5 (w.heap.size) (i8s a.l).toArray) := run_storeAgg agAnch (g := w.heap.size) (off := 0) (cs := i8s a.l) H4.out.get rfl (by show 0 + 10 ≤ 10; omega) rfl
        have h9 := H4.out.splice (i8s a.l)
        have H9 := Aside.mk h9
        clear h9 H4
        generalize World.setRow w5 _ _ = w9 at *
        rw [hw5] at r2 rl k0
        go_wp2_with (first | (refine wpList_load_run rfl rfl rfl rl ?_) | (refine wpList_store_run rfl rfl rfl rfl rfl r2 ?_))
        go_wp2
        refine bodyPost_ret (results_cellTmp rfl rfl (run_loadAgg agAnch (cs := i8s a.l) rfl (Sat.ptCells (off := 0) H9.out rfl))) rfl ?_
        rw [HX2.out]
        exact ⟨rfl, H9.out.right.right⟩
      · have HX2 : Aside (loadA A = (zeroA, 170)) := ⟨by rw [HL.out, if_neg (fun h => hs h.2.2)]⟩
        have hsb : (a.seq == best) = false := by rw [beq_eq_false_iff_ne]; exact hs
        clear HL
        obtain ⟨w5, hw5⟩ : ∃ w5, w5 = w2.alloc (.cells #[.int .i64 a.seq, .int .i64 a.gen, .int .i64 a.lsn, .int .i64 a.seg, .int .i64 a.ext, .int .i64 a.flo, .int .i64 a.new, .int .i64 a.keep, .int .i64 a.next, .int .i64 a.cur] 29) := ⟨_, rfl⟩
        rw [← hw5] at H4 k0
        have r2 : (storeVar 29 ⟨w.heap.size, 0, none⟩ (.agg (i8s zeroA.l).toArray)).run Tryz.prog w5 = .ok () (World.setRow w5 (w.heap.size) (i8s zeroA.l).toArray) := run_storeAgg agAnch (g := w.heap.size) (off := 0) (cs := i8s zeroA.l) H4.out.get rfl (by show 0 + 10 ≤ 10; omega) rfl
        have h9 := H4.out.splice (i8s zeroA.l)
        have H9 := Aside.mk h9
        clear h9 H4
        generalize World.setRow w5 _ _ = w9 at *
        rw [hw5] at r2 k0
        go_wp2_with (first | (refine wpList_store_run rfl rfl rfl rfl rfl r2 ?_))
        go_wp2
        refine bodyPost_ret (results_cellTmp rfl rfl (run_loadAgg agAnch (cs := i8s zeroA.l) rfl (Sat.ptCells (off := 0) H9.out rfl))) rfl ?_
        rw [HX2.out]
        exact ⟨rfl, H9.out.right.right⟩
    · have HX2 : Aside (loadA A = (zeroA, 170)) := ⟨by rw [HL.out, if_neg (fun h => hc h.2.1)]⟩
      have hcb : (c == 0) = false := by rw [beq_eq_false_iff_ne]; exact hc
      clear HL
      obtain ⟨w5, hw5⟩ : ∃ w5, w5 = w2.alloc (.cells #[.int .i64 a.seq, .int .i64 a.gen, .int .i64 a.lsn, .int .i64 a.seg, .int .i64 a.ext, .int .i64 a.flo, .int .i64 a.new, .int .i64 a.keep, .int .i64 a.next, .int .i64 a.cur] 29) := ⟨_, rfl⟩
      rw [← hw5] at H4 k0
      have r2 : (storeVar 29 ⟨w.heap.size, 0, none⟩ (.agg (i8s zeroA.l).toArray)).run Tryz.prog w5 = .ok () (World.setRow w5 (w.heap.size) (i8s zeroA.l).toArray) := run_storeAgg agAnch (g := w.heap.size) (off := 0) (cs := i8s zeroA.l) H4.out.get rfl (by show 0 + 10 ≤ 10; omega) rfl
      have h9 := H4.out.splice (i8s zeroA.l)
      have H9 := Aside.mk h9
      clear h9 H4
      generalize World.setRow w5 _ _ = w9 at *
      rw [hw5] at r2 k0
      go_wp2_with (first | (refine wpList_store_run rfl rfl rfl rfl rfl r2 ?_))
      go_wp2
      refine bodyPost_ret (results_cellTmp rfl rfl (run_loadAgg agAnch (cs := i8s zeroA.l) rfl (Sat.ptCells (off := 0) H9.out rfl))) rfl ?_
      rw [HX2.out]
      exact ⟨rfl, H9.out.right.right⟩

set_option maxHeartbeats 4000000 in
set_option maxRecDepth 100000 in
theorem ref_asave (E : Env) (q : HP) (y : Nat) (A : Dk) (a : Anch) (w : World) (hs64 : wf64 a.seq) (hw : Sat E w (HP.rdisk y A * q)) :
    Calls Tryz.prog 9 #[.pointer (some ⟨y, 0, none⟩), .agg #[.int .i64 a.seq, .int .i64 a.gen, .int .i64 a.lsn, .int .i64 a.seg, .int .i64 a.ext, .int .i64 a.flo, .int .i64 a.new, .int .i64 a.keep, .int .i64 a.next, .int .i64 a.cur]] w fun e w' => e = .returned (.tuple #[(saveP A a).1.1.val, .int .i64 (saveP A a).1.2]) ∧ Sat E w' (HP.rdisk y (saveP A a).2 * q) := by
  have h1 := (hw.alloc (.cells #[.int .i64 a.seq, .int .i64 a.gen, .int .i64 a.lsn, .int .i64 a.seg, .int .i64 a.ext, .int .i64 a.flo, .int .i64 a.new, .int .i64 a.keep, .int .i64 a.next, .int .i64 a.cur] 29)).alloc (.cells #[.int .i64 0, .int .i64 0, .int .i64 0, .int .i64 0, .int .i64 0, .int .i64 0, .int .i64 0, .int .i64 0, .int .i64 0, .int .i64 0] 29)
  have hz : (w.alloc (.cells #[.int .i64 a.seq, .int .i64 a.gen, .int .i64 a.lsn, .int .i64 a.seg, .int .i64 a.ext, .int .i64 a.flo, .int .i64 a.new, .int .i64 a.keep, .int .i64 a.next, .int .i64 a.cur] 29)).heap.size = w.heap.size + 1 := by simp
  rw [hz] at h1
  obtain ⟨w0, hw0⟩ : ∃ w0, w0 = (w.alloc (.cells #[.int .i64 a.seq, .int .i64 a.gen, .int .i64 a.lsn, .int .i64 a.seg, .int .i64 a.ext, .int .i64 a.flo, .int .i64 a.new, .int .i64 a.keep, .int .i64 a.next, .int .i64 a.cur] 29)).alloc (.cells #[.int .i64 0, .int .i64 0, .int .i64 0, .int .i64 0, .int .i64 0, .int .i64 0, .int .i64 0, .int .i64 0, .int .i64 0, .int .i64 0] 29) := ⟨_, rfl⟩
  have H1 : Aside (Sat E w0 (HP.pt (w.heap.size + 1) (.cells #[.int .i64 0, .int .i64 0, .int .i64 0, .int .i64 0, .int .i64 0, .int .i64 0, .int .i64 0, .int .i64 0, .int .i64 0, .int .i64 0] 29) * (HP.pt w.heap.size (.cells #[.int .i64 a.seq, .int .i64 a.gen, .int .i64 a.lsn, .int .i64 a.seg, .int .i64 a.ext, .int .i64 a.flo, .int .i64 a.new, .int .i64 a.keep, .int .i64 a.next, .int .i64 a.cur] 29) * (HP.rdisk y A * q)))) := ⟨by rw [hw0]; exact h1⟩
  have HS : Aside (saveP A a = if btw 0 [a.seq] = true ∧ canA a.up = true then
    (if (putP A nameA 0 a.up.seq (encI a.up.l)).1 = 0 then (a.up, 0) else (zeroA, (putP A nameA 0 a.up.seq (encI a.up.l)).1), (putP A nameA 0 a.up.seq (encI a.up.l)).2)
  else ((zeroA, 1), A)) := ⟨rfl⟩
  unfold wf64 at hs64
  have HW0 := Aside.mk hw0
  have HWA := Aside.mk hw
  have k0 : ((w.alloc (.cells #[.int .i64 a.seq, .int .i64 a.gen, .int .i64 a.lsn, .int .i64 a.seg, .int .i64 a.ext, .int .i64 a.flo, .int .i64 a.new, .int .i64 a.keep, .int .i64 a.next, .int .i64 a.cur] 29)).alloc (.cells #[.int .i64 0, .int .i64 0, .int .i64 0, .int .i64 0, .int .i64 0, .int .i64 0, .int .i64 0, .int .i64 0, .int .i64 0, .int .i64 0] 29)).cell? ⟨w.heap.size, 0, none⟩ = some (.int .i64 a.seq) := h1.s2.cell 0
  have kf : ((w.alloc (.cells #[.int .i64 a.seq, .int .i64 a.gen, .int .i64 a.lsn, .int .i64 a.seg, .int .i64 a.ext, .int .i64 a.flo, .int .i64 a.new, .int .i64 a.keep, .int .i64 a.next, .int .i64 a.cur] 29)).alloc (.cells #[.int .i64 0, .int .i64 0, .int .i64 0, .int .i64 0, .int .i64 0, .int .i64 0, .int .i64 0, .int .i64 0, .int .i64 0, .int .i64 0] 29)).frozen? ⟨w.heap.size, 0, none⟩ = false := h1.s2.thaw 0
  clear h1 hz hw hw0
  go_enter Tryz.func9, Tryz.ntmps9
  by_cases hb : a.seq < 0 ∨ 4611686018427387904 ≤ a.seq
  · have HX : Aside (saveP A a = ((zeroA, 1), A)) := ⟨by
      rw [HS.out, if_neg]
      rintro ⟨g1, g2⟩
      obtain ⟨s1, s2⟩ := can_seq g2
      have e : a.up.seq = a.seq + 1 := rfl
      omega⟩
    clear HS
    have H4 := H1
    clear H1
    have r2 : (storeVar 29 ⟨w.heap.size + 1, 0, none⟩ (.agg (i8s zeroA.l).toArray)).run Tryz.prog w0 = .ok () (World.setRow w0 (w.heap.size + 1) (i8s zeroA.l).toArray) := run_storeAgg agAnch (g := w.heap.size + 1) (off := 0) (cs := i8s zeroA.l) H4.out.get rfl (by show 0 + 10 ≤ 10; omega) rfl
    have h9 := H4.out.splice (i8s zeroA.l)
    have H9 := Aside.mk h9
    clear h9 H4
    generalize World.setRow w0 _ _ = w9 at *
    rw [HW0.out] at r2
    rcases hb with hb | hb
    all_goals
      clear HW0
      go_wp2_with (first | (refine wpList_store_run rfl rfl rfl rfl rfl r2 ?_))
      go_wp2
      refine bodyPost_ret (results_cellTmp rfl rfl (run_loadAgg agAnch (cs := i8s zeroA.l) rfl (Sat.ptCells (off := 0) H9.out rfl))) rfl ?_
      rw [HX.out]
      exact ⟨rfl, H9.out.right.right⟩
  · have hs0 : 0 ≤ a.seq := by omega
    have hs1 : a.seq < 4611686018427387904 := by omega
    have hbt : btw 0 [a.seq] = true := by simp [btw, nOk]; omega
    have HBT := Aside.mk hbt
    have h4 : Sat E ((w.alloc (.cells #[.int .i64 (a.seq + 1), .int .i64 a.gen, .int .i64 a.lsn, .int .i64 a.seg, .int .i64 a.ext, .int .i64 a.flo, .int .i64 a.new, .int .i64 a.keep, .int .i64 a.next, .int .i64 a.cur] 29)).alloc (.cells #[.int .i64 0, .int .i64 0, .int .i64 0, .int .i64 0, .int .i64 0, .int .i64 0, .int .i64 0, .int .i64 0, .int .i64 0, .int .i64 0] 29)) (HP.rdisk y A * (HP.pt w.heap.size (.cells #[.int .i64 (a.seq + 1), .int .i64 a.gen, .int .i64 a.lsn, .int .i64 a.seg, .int .i64 a.ext, .int .i64 a.flo, .int .i64 a.new, .int .i64 a.keep, .int .i64 a.next, .int .i64 a.cur] 29) * (HP.pt (w.heap.size + 1) (.cells #[.int .i64 0, .int .i64 0, .int .i64 0, .int .i64 0, .int .i64 0, .int .i64 0, .int .i64 0, .int .i64 0, .int .i64 0, .int .i64 0] 29) * q))) := by
      have h := (HWA.out.alloc (.cells #[.int .i64 (a.seq + 1), .int .i64 a.gen, .int .i64 a.lsn, .int .i64 a.seg, .int .i64 a.ext, .int .i64 a.flo, .int .i64 a.new, .int .i64 a.keep, .int .i64 a.next, .int .i64 a.cur] 29)).alloc (.cells #[.int .i64 0, .int .i64 0, .int .i64 0, .int .i64 0, .int .i64 0, .int .i64 0, .int .i64 0, .int .i64 0, .int .i64 0, .int .i64 0] 29)
      rw [show (w.alloc (.cells #[.int .i64 (a.seq + 1), .int .i64 a.gen, .int .i64 a.lsn, .int .i64 a.seg, .int .i64 a.ext, .int .i64 a.flo, .int .i64 a.new, .int .i64 a.keep, .int .i64 a.next, .int .i64 a.cur] 29)).heap.size = w.heap.size + 1 by simp] at h
      exact h.perm (by ac_rfl)
    have H4 := Aside.mk h4
    clear h4 H1 hb hbt HW0
    go_wp2_with fail
    refine (refenc_ok E _ a.up _ H4.out).mono ?_
    intro e w3 h5
    clear H4 k0 kf
    unfold encEnd at h5
    by_cases hc : canA a.up = true
    · rw [if_pos hc] at h5
      have HS3 : Aside (saveP A a = (if (putP A nameA 0 a.up.seq (encI a.up.l)).1 = 0 then (a.up, 0) else (zeroA, (putP A nameA 0 a.up.seq (encI a.up.l)).1), (putP A nameA 0 a.up.seq (encI a.up.l)).2)) := ⟨by rw [HS.out, if_pos ⟨HBT.out, hc⟩]⟩
      clear hc HS
      obtain ⟨v, rfl, h5⟩ := h5
      obtain ⟨Av, cv, rfl, hcv, hcm⟩ := h5.row_slice
      have k1 : w3.cell? ⟨w.heap.size, 0, none⟩ = some (.int .i64 (a.seq + 1)) := h5.right.right.cell 0
      have h6 : Sat E w3 (HP.rdisk y A * (HP.row 5 1 (.slice Av 80 cv) 80 (b8s (encI a.up.l)) * (HP.pt w.heap.size (.cells #[.int .i64 (a.seq + 1), .int .i64 a.gen, .int .i64 a.lsn, .int .i64 a.seg, .int .i64 a.ext, .int .i64 a.flo, .int .i64 a.new, .int .i64 a.keep, .int .i64 a.next, .int .i64 a.cur] 29) * (HP.pt (w.heap.size + 1) (.cells #[.int .i64 0, .int .i64 0, .int .i64 0, .int .i64 0, .int .i64 0, .int .i64 0, .int .i64 0, .int .i64 0, .int .i64 0, .int .i64 0] 29) * q)))) := h5.perm (by ac_rfl)
      have HE := Aside.mk (And.intro (show (encI a.up.l).length = 80 by rw [encI_length]; rfl) (encI_bytes a.up.l))
      have H6 := Aside.mk h6
      clear h5 h6
      go_wp2_with fail
      refine (ref_putp E _ y A nameA 0 (a.seq + 1) Av (encI a.up.l) 80 cv _ nameA_size HE.out.1 hcv HE.out.2 (fun w h => h.row_cells) H6.out).mono ?_
      rintro e w4 ⟨rfl, h7⟩
      rw [show a.up.seq = a.seq + 1 from rfl] at HS3
      obtain ⟨⟨c, B⟩, hcB⟩ : ∃ r, r = putP A nameA 0 (a.seq + 1) (encI a.up.l) := ⟨_, rfl⟩
      rw [← hcB] at h7 HS3 ⊢
      have h8 : Sat E w4 (HP.pt (w.heap.size + 1) (.cells #[.int .i64 0, .int .i64 0, .int .i64 0, .int .i64 0, .int .i64 0, .int .i64 0, .int .i64 0, .int .i64 0, .int .i64 0, .int .i64 0] 29) * (HP.pt w.heap.size (.cells #[.int .i64 (a.seq + 1), .int .i64 a.gen, .int .i64 a.lsn, .int .i64 a.seg, .int .i64 a.ext, .int .i64 a.flo, .int .i64 a.new, .int .i64 a.keep, .int .i64 a.next, .int .i64 a.cur] 29) * (HP.rdisk y B * q))) := (h7.perm (by ac_rfl : _ = HP.row 5 1 (.slice Av 80 cv) 80 (b8s (encI a.up.l)) * (HP.pt (w.heap.size + 1) (.cells #[.int .i64 0, .int .i64 0, .int .i64 0, .int .i64 0, .int .i64 0, .int .i64 0, .int .i64 0, .int .i64 0, .int .i64 0, .int .i64 0] 29) * (HP.pt w.heap.size (.cells #[.int .i64 (a.seq + 1), .int .i64 a.gen, .int .i64 a.lsn, .int .i64 a.seg, .int .i64 a.ext, .int .i64 a.flo, .int .i64 a.new, .int .i64 a.keep, .int .i64 a.next, .int .i64 a.cur] 29) * (HP.rdisk y B * q))))).right
      have H8 := Aside.mk h8
      clear h7 h8 hcB H6 HE k1
      by_cases hc0 : c = 0
      · subst hc0
        have HX : Aside (saveP A a = ((a.up, 0), B)) := ⟨by rw [HS3.out]; rfl⟩
        have r3 : (loadVar 29 ⟨w.heap.size, 0, none⟩).run Tryz.prog w4 = .ok (.agg (i8s a.up.l).toArray) w4 := run_loadAgg agAnch (cs := i8s a.up.l) rfl (Sat.ptCells (off := 0) H8.out.right rfl)
        clear HS3
        have r2 : (storeVar 29 ⟨w.heap.size + 1, 0, none⟩ (.agg (i8s a.up.l).toArray)).run Tryz.prog w4 = .ok () (World.setRow w4 (w.heap.size + 1) (i8s a.up.l).toArray) := run_storeAgg agAnch (g := w.heap.size + 1) (off := 0) (cs := i8s a.up.l) H8.out.get rfl (by show 0 + 10 ≤ 10; omega) rfl
        have h9 := H8.out.splice (i8s a.up.l)
        have H9 := Aside.mk h9
        clear h9 H8
        generalize World.setRow w4 _ _ = w9 at *
        go_wp2_with (first | (refine wpList_load_run rfl rfl rfl r3 ?_) | (refine wpList_store_run rfl rfl rfl rfl rfl r2 ?_))
        go_wp2
        refine bodyPost_ret (results_cellTmp rfl rfl (run_loadAgg agAnch (cs := i8s a.up.l) rfl (Sat.ptCells (off := 0) H9.out rfl))) rfl ?_
        rw [HX.out]
        exact ⟨rfl, H9.out.right.right⟩
      · have hcb : (c == 0) = false := by rw [beq_eq_false_iff_ne]; exact hc0
        have HX : Aside (saveP A a = ((zeroA, c), B)) := ⟨by rw [HS3.out, if_neg hc0]⟩
        clear HS3
        have r2 : (storeVar 29 ⟨w.heap.size + 1, 0, none⟩ (.agg (i8s zeroA.l).toArray)).run Tryz.prog w4 = .ok () (World.setRow w4 (w.heap.size + 1) (i8s zeroA.l).toArray) := run_storeAgg agAnch (g := w.heap.size + 1) (off := 0) (cs := i8s zeroA.l) H8.out.get rfl (by show 0 + 10 ≤ 10; omega) rfl
        have h9 := H8.out.splice (i8s zeroA.l)
        have H9 := Aside.mk h9
        clear h9 H8
        generalize World.setRow w4 _ _ = w9 at *
        go_wp2_with (first | (refine wpList_store_run rfl rfl rfl rfl rfl r2 ?_))
        go_wp2
        refine bodyPost_ret (results_cellTmp rfl rfl (run_loadAgg agAnch (cs := i8s zeroA.l) rfl (Sat.ptCells (off := 0) H9.out rfl))) rfl ?_
        rw [HX.out]
        exact ⟨rfl, H9.out.right.right⟩
    · rw [if_neg hc] at h5
      have HX : Aside (saveP A a = ((zeroA, 1), A)) := ⟨by rw [HS.out, if_neg (fun h => hc h.2)]⟩
      clear hc HS
      obtain ⟨rfl, h5⟩ := h5
      have H8 : Aside (Sat E w3 (HP.pt (w.heap.size + 1) (.cells #[.int .i64 0, .int .i64 0, .int .i64 0, .int .i64 0, .int .i64 0, .int .i64 0, .int .i64 0, .int .i64 0, .int .i64 0, .int .i64 0] 29) * (HP.pt w.heap.size (.cells #[.int .i64 (a.seq + 1), .int .i64 a.gen, .int .i64 a.lsn, .int .i64 a.seg, .int .i64 a.ext, .int .i64 a.flo, .int .i64 a.new, .int .i64 a.keep, .int .i64 a.next, .int .i64 a.cur] 29) * (HP.rdisk y A * q)))) := ⟨h5.perm (by ac_rfl)⟩
      clear h5
      have r2 : (storeVar 29 ⟨w.heap.size + 1, 0, none⟩ (.agg (i8s zeroA.l).toArray)).run Tryz.prog w3 = .ok () (World.setRow w3 (w.heap.size + 1) (i8s zeroA.l).toArray) := run_storeAgg agAnch (g := w.heap.size + 1) (off := 0) (cs := i8s zeroA.l) H8.out.get rfl (by show 0 + 10 ≤ 10; omega) rfl
      have h9 := H8.out.splice (i8s zeroA.l)
      have H9 := Aside.mk h9
      clear h9 H8
      generalize World.setRow w3 _ _ = w9 at *
      go_wp2_with (first | (refine wpList_store_run rfl rfl rfl rfl rfl r2 ?_))
      go_wp2
      refine bodyPost_ret (results_cellTmp rfl rfl (run_loadAgg agAnch (cs := i8s zeroA.l) rfl (Sat.ptCells (off := 0) H9.out rfl))) rfl ?_
      rw [HX.out]
      exact ⟨rfl, H9.out.right.right⟩
end Go.Proofs.YtmjnnbnbdcadbaaGreatDoor

/- dryrotplain.Spoil of one slice of one's own: it stays one's own. -/
namespace Go.Proofs.YtmjnnbnbdcadbaaGreatDoor
open Go.RowKit HP
set_option linter.unusedSimpArgs false
set_option linter.unusedVariables false

set_option maxHeartbeats 2000000 in
set_option maxRecDepth 100000 in
theorem spoil_ok (E : Env) (q : HP) (bl : Nat) (A : Option Addr) (n c : Nat) (l : List Int) (w : World) (hn : n ≤ maxLen) (hw : Sat E w (HP.pt bl (.cells #[.slice A n c] 34) * (HP.row 5 1 (.slice A n c) n (b8s l) * q))) :
    Calls Tryz.prog 54 #[.slice (some ⟨bl, 0, none⟩) 1 1] w fun e w' => e = .returned (.tuple #[]) ∧ Sat E w' q := by
  unfold maxLen at hn
  have c0 := hw.cell 0
  simp only [List.getElem?_toArray, List.getElem?_cons_zero, List.getElem?_cons_succ] at c0
  have HW := Aside.mk hw
  clear hw
  go_enter Tryz.func54, Tryz.ntmps54
  go_wp2
  go_loopw [7] (fun v7 wr => ∃ k : Nat, k ≤ 1 ∧ v7 = .int .i64 k ∧ Aside (∃ l', Sat E wr (HP.pt bl (.cells #[.slice A n c] 34) * (HP.row 5 1 (.slice A n c) n (b8s l') * q)))) (fun i _ => 1 - (intOf i).toNat)
  case atStart => exact ⟨0, by omega, rfl, ⟨_, HW.out⟩⟩
  case round =>
    clear HW c0
    obtain ⟨k, hk, rfl, HS⟩ := hrel
    by_cases hlt : k < 1
    · obtain rfl : k = 0 := by omega
      obtain ⟨l', h⟩ := HS.out
      have c0 := h.cell 0
      simp only [List.getElem?_toArray, List.getElem?_cons_zero, List.getElem?_cons_succ] at c0
      have HS2 := Aside.mk h
      clear h HS
      go_wp2
      go_loopw [13] (fun v13 wi => ∃ i : Nat, i ≤ n ∧ v13 = .int .i64 i ∧ Aside (∃ l', Sat E wi (HP.pt bl (.cells #[.slice A n c] 34) * (HP.row 5 1 (.slice A n c) n (b8s l') * q)))) (fun i _ => n - (intOf i).toNat)
      case atStart => exact ⟨0, by omega, rfl, ⟨_, HS2.out⟩⟩
      case round =>
        clear HS2 c0
        obtain ⟨i, hi, rfl, HI⟩ := hrel
        by_cases hil : i < n
        · have hil2 : (i : Int) < (n : Int) := by omega
          have hi0 : (0 : Int) ≤ (i : Int) := by omega
          obtain ⟨l2, h⟩ := HI.out
          have hr := h.s2
          have hlen := hr.row_cases.1
          rw [b8s_length, Nat.mul_one] at hlen
          have hrc := hr.row_cells
          obtain ⟨pa, hpa, -⟩ := hrc.at_ i (by rw [b8s_length, hlen]; exact hil)
          obtain ⟨g, o, rfl⟩ : ∃ g o, pa = ⟨g, o, none⟩ := slice_addr hrc hpa (by rw [b8s_length, hlen]; exact hil)
          subst hpa
          obtain ⟨dv, hdv⟩ : ∃ dv, dv = l2.getD i 0 := ⟨_, rfl⟩
          have ci := hr.row_cell i (.int .u8 dv) (by
            rw [hdv]; unfold b8s
            rw [List.getElem?_map, List.getD_eq_getElem?_getD, List.getElem?_eq_getElem (by rw [hlen]; exact hil)]; rfl)
          have zi := hr.row_thaw i (by rw [b8s_length, hlen]; exact hil)
          have hs := hr.row_set i (by rw [b8s_length, hlen]; exact hil) (.int .u8 (bits .xor .u8 dv 255))
          rw [b8s_set] at hs
          have HS3 : Aside (∃ l', Sat E _ (HP.pt bl (.cells #[.slice (some ⟨g, o, none⟩) n c] 34) * (HP.row 5 1 (.slice (some ⟨g, o, none⟩) n c) n (b8s l') * q))) := ⟨⟨_, hs.s2⟩⟩
          clear hr hlen hrc hdv hs h HI
          go_wp2
          go_roundw
          case rel => exact ⟨i + 1, by omega, by go_num, HS3⟩
          case measure => simp [intOf]; omega
        · obtain rfl : i = n := by omega
          go_wp2
          go_roundw
          case rel => exact ⟨1, by omega, by go_num, HI⟩
          case measure => simp [intOf]
    · obtain rfl : k = 1 := by omega
      obtain ⟨l', h⟩ := HS.out
      have HS2 := Aside.mk h
      clear h HS
      go_wp2
      exact ⟨rfl, .tuple #[], by first | rfl | (unfold results; rw [show Tryz.f54.results = #[] by kernel_rfl]; simp), rfl, HS2.out.right.right⟩
end Go.Proofs.YtmjnnbnbdcadbaaGreatDoor
/- dryrotplain: a step done on a disk and on the document's, told by the same model: their answers are the same. -/
namespace Go.Proofs.YtmjnnbnbdcadbaaGreatDoor
open Go.RowKit HP
set_option linter.unusedSimpArgs false
set_option linter.unusedVariables false

/-- A step's own bounds. -/
structure StepV.Wf (s : StepV) : Prop where
  op : wf64 s.op
  i : wf64 s.i
  at_ : wf64 s.at_
  n : wf64 s.n
  name : s.name.size ≤ maxLen
  mask : 0 ≤ s.mask ∧ s.mask ≤ 255
  b : s.b.l.length ≤ s.b.cap ∧ s.b.cap ≤ maxLen ∧ Bytes s.b.l
  kept : (s.kept.l.length ≤ s.kept.cap ∧ s.kept.cap ≤ maxLen) ∧ ∀ k ∈ s.kept.l, k.name.size ≤ maxLen ∧ wf64 k.index ∧ wf64 k.bytes
theorem StepV.Ok.wf {W : World} {s : StepV} (h : s.Ok W) : s.Wf := ⟨h.op, h.i, h.at_, h.n, h.name, h.mask, ⟨h.b.1, h.b.2.1, h.b.2.2.2⟩, ⟨⟨h.kept.1, h.kept.2.1⟩, h.kept.2.2.2⟩⟩
def fuseC (n : Int) : Int := if n < 0 then 1 else 0
def Dk.fuseK (A : Dk) (n : Int) : Dk := if n < 0 then A else { A with fuse := n }
/-- Which of the seven kinds a step is. -/
def opK (op : Int) : Int := wrap64 ((IntKind.u64.wrap op).tmod 7)
theorem opK_range (op : Int) : 0 ≤ opK op ∧ opK op ≤ 6 := by
  unfold opK
  rw [IntKind.wrap_u64, Int.tmod_eq_emod_of_nonneg (by omega)]
  unfold wrap64
  omega
/-- What a step makes of a disk. -/
def Dk.stepK (A : Dk) (s : StepV) (k : Int) : Dk :=
  if k = 0 then (A.write s.name s.i (fullOf s.b.l)).2 else if k = 1 then (A.write s.name s.i s.b.l).2 else if k = 2 then (A.sync s.name).2
  else if k = 3 then (A.remove s.name).2 else if k = 4 then (A.rot s.name s.i s.at_ s.mask).2 else if k = 5 then A.crash s.kept.l else A.fuseK s.n
theorem Dk.Byt.stepK {A : Dk} (h : A.Byt) {s : StepV} (hs : s.Wf) (k : Int) : (A.stepK s k).Byt := by
  unfold Dk.stepK
  split
  · exact h.write _ _ (fullOf_bytes hs.b.2.2)
  split
  · exact h.write _ _ hs.b.2.2
  split
  · exact h.sync _
  split
  · exact h.remove _
  split
  · exact h.rot _ _ _ hs.mask.1 hs.mask.2
  split
  · exact h.crash _
  unfold Dk.fuseK
  split
  · exact h
  · exact h.fuse _
/-- Whatever else lies there. -/
def HP.any : HP := fun _ => True
theorem Sat.any_of {E : Env} {w : World} {p q : HP} (h : Sat E w (p * q)) : Sat E w (p * HP.any) := by
  obtain ⟨he, k, hk, h1, h2, hd, hu, hp, -⟩ := h
  exact ⟨he, k, hk, h1, h2, hd, hu, hp, trivial⟩
theorem step_box {E : Env} {w : World} {BX : Nat} {s : StepV} {q : HP} (h : Sat E w (HP.pt BX (.cells s.vals.toArray 37) * q)) :
    w.cell? ⟨BX, 0, none⟩ = some (.int .i64 s.op) ∧ w.cell? ⟨BX, 1, none⟩ = some (.int .i64 s.i) ∧ w.cell? ⟨BX, 2, none⟩ = some (.int .i64 s.at_) ∧ w.cell? ⟨BX, 3, none⟩ = some (.int .i64 s.n) ∧ w.cell? ⟨BX, 4, none⟩ = some (.string s.name) ∧ w.cell? ⟨BX, 5, none⟩ = some (.slice s.b.A s.b.l.length s.b.cap) ∧ w.cell? ⟨BX, 6, none⟩ = some (.int .u8 s.mask) ∧ w.cell? ⟨BX, 7, none⟩ = some (.slice s.kept.A s.kept.l.length s.kept.cap) := by
  have g := fun j => h.cell j
  exact ⟨by rw [g 0]; rfl, by rw [g 1]; rfl, by rw [g 2]; rfl, by rw [g 3]; rfl, by rw [g 4]; rfl, by rw [g 5]; rfl, by rw [g 6]; rfl, by rw [g 7]; rfl⟩
theorem agStep : AgTy Tryz.prog 37 8 := ⟨⟨_, Tryz.underlying37, rfl⟩, by kernel_rfl⟩
theorem step_load {E : Env} {w : World} {BX : Nat} {s : StepV} {q : HP} (h : Sat E w (HP.pt BX (.cells s.vals.toArray 37) * q)) :
    (loadVar 37 ⟨BX, 0, none⟩).run Tryz.prog w = .ok (.agg #[.int .i64 s.op, .int .i64 s.i, .int .i64 s.at_, .int .i64 s.n, .string s.name, .slice s.b.A s.b.l.length s.b.cap, .int .u8 s.mask, .slice s.kept.A s.kept.l.length s.kept.cap]) w := by
  refine run_loadAgg (cs := s.vals) agStep rfl fun j u hj => ⟨_, rfl, ?_⟩
  rw [addr_add, Nat.zero_add, h.cell]
  simpa using hj
theorem fuse_d (E : Env) (q : HP) (d : Nat) (A : Dk) (n : Int) (w : World) (hn : wf64 n) (hw : Sat E w (HP.disk d A * q)) :
    Calls Tryz.prog 48 #[.pointer (some ⟨d, 0, none⟩), .int .i64 n] w fun e w' => e = .returned (.int .i64 (fuseC n)) ∧ Sat E w' (HP.disk d (A.fuseK n) * q) := by
  refine (disk_fuse_ok E q d A n w (by unfold wf64 at hn; omega) hw).mono fun e w' h => ?_
  unfold Dk.fuseK fuseC
  rcases h with ⟨h0, h1, h2⟩ | ⟨h0, h1, h2⟩
  · rw [if_pos h0, if_pos h0]; exact ⟨h1, h2⟩
  · rw [if_neg (by omega), if_neg (by omega)]; exact ⟨h1, h2⟩
theorem fuse_r (E : Env) (q : HP) (y : Nat) (A : Dk) (n : Int) (w : World) (hn : wf64 n) (hw : Sat E w (HP.rdisk y A * q)) :
    Calls Tryz.prog 64 #[.pointer (some ⟨y, 0, none⟩), .int .i64 n] w fun e w' => e = .returned (.int .i64 (fuseC n)) ∧ Sat E w' (HP.rdisk y (A.fuseK n) * q) := by
  refine (ref_fuse E q y A n w (by unfold wf64 at hn; omega) hw).mono fun e w' h => ?_
  unfold Dk.fuseK fuseC
  rcases h with ⟨h0, h1, h2⟩ | ⟨h0, h1, h2⟩
  · rw [if_pos h0, if_pos h0]; exact ⟨h1, h2⟩
  · rw [if_neg (by omega), if_neg (by omega)]; exact ⟨h1, h2⟩
set_option maxHeartbeats 8000000 in
set_option maxRecDepth 100000 in
theorem do_ok (E : Env) (q : HP) (d y : Nat) (A : Dk) (s : StepV) (w : World) (hok : s.Wf) (hq : ∀ E w, Sat E w q → Cells w s.b.A (b8s s.b.l) ∧ Cells w s.kept.A (kepCells s.kept.l)) (hw : Sat E w (HP.disk d A * (HP.rdisk y A * q))) :
    Calls Tryz.prog 10 #[.agg s.vals.toArray, .pointer (some ⟨d, 0, none⟩), .pointer (some ⟨y, 0, none⟩)] w fun e w' => e = .returned (.bool true) ∧ Sat E w' (HP.disk d (A.stepK s (opK s.op)) * (HP.rdisk y (A.stepK s (opK s.op)) * q)) := by
  have HOK := Aside.mk hok
  have HQ := Aside.mk hq
  have HBL : Aside (s.b.l.length ≤ maxLen) := ⟨Nat.le_trans hok.b.1 hok.b.2.1⟩
  have HKL : Aside (s.kept.l.length ≤ maxLen) := ⟨Nat.le_trans hok.kept.1.1 hok.kept.1.2⟩
  obtain ⟨AR, hAR⟩ : ∃ AR, AR = A.stepK s (opK s.op) := ⟨_, rfl⟩
  rw [← hAR]
  obtain ⟨kk, hkk⟩ : ∃ kk, kk = opK s.op := ⟨_, rfl⟩
  have hkr := opK_range s.op
  rw [← hkk] at hkr hAR
  unfold opK at hkk
  have hkk := hkk.symm
  have hB := hw.alloc (.cells s.vals.toArray 37)
  obtain ⟨BX, hBX⟩ : ∃ BX, BX = w.heap.size := ⟨_, rfl⟩
  rw [← hBX] at hB
  have HS := Aside.mk hB
  have HBX := Aside.mk hBX
  have HAR := Aside.mk hAR
  obtain ⟨c0, c1, c2, c3, c4, c5, c6, c7⟩ := step_box hB
  clear hok hq hB hBX hw hAR
  unfold StepV.vals Sl.val at c0 c1 c2 c3 c4 c5 c6 c7 ⊢
  go_enter Tryz.func10, Tryz.ntmps10
  go_upto_region 2 with fail
  rw [hkk, ← HBX.out]
  clear hkk
  obtain ⟨wb, hwb⟩ : ∃ wb, wb = World.alloc w (.cells #[.int .i64 s.op, .int .i64 s.i, .int .i64 s.at_, .int .i64 s.n, .string s.name, .slice s.b.A s.b.l.length s.b.cap, .int .u8 s.mask, .slice s.kept.A s.kept.l.length s.kept.cap] 37) := ⟨_, rfl⟩
  have HS2 : Aside (Sat E wb (HP.pt BX (.cells s.vals.toArray 37) * (HP.disk d A * (HP.rdisk y A * q)))) := ⟨by rw [hwb]; exact HS.out⟩
  rw [← hwb]
  rw [← hwb] at c0 c1 c2 c3 c4 c5 c6 c7
  clear hwb HS
  have HS := HS2
  clear HS2
  by_cases k2 : kk = 2
  · subst k2
    have HR : Aside (AR = (A.sync s.name).2) := ⟨by rw [HAR.out]; unfold Dk.stepK; simp⟩
    go_upto_region 10 with fail
    clear c0 c1 c2 c3 c4 c5 c6 c7
    refine region_R [3, 7] [3] (fun W => Sat E W (HP.pt BX (.cells s.vals.toArray 37) * HP.any)) #[false, false, false, false, false, false, false, false, false, false] (by kernel_rfl) rfl rfl ?_
    have HT : Aside ((fun W => Sat E W (HP.pt BX (.cells s.vals.toArray 37) * HP.any)) _) := ⟨(Sat.any_of HS.out).drew⟩
    refine wpR_rd 0 #[true, false, false, false, false, false, false, false, false, false] rfl onlyN_noPanic (by kernel_rfl) (fun K hK => ?_); (go_simp; try go_bits); refine hK _ ?_; clear hK K
    refine wpR_rd 1 #[true, true, false, false, false, false, false, false, false, false] rfl onlyN_noPanic (by kernel_rfl) (fun K hK => ?_); (go_simp; try go_bits); refine hK _ ?_; clear hK K
    refine wpR_held (i := 2) (v := .string s.name) #[true, true, true, false, false, false, false, false, false, false] rfl onlyN_noPanic (by kernel_rfl) HT.out (.inl ⟨rfl, fun w' hT => ?_⟩) ?_
    · obtain ⟨c0, c1, c2, c3, c4, c5, c6, c7⟩ := step_box hT; go_simp
    simp only [Act.put, List.setIfInBounds_toArray, List.set_cons_zero, List.set_cons_succ]
    refine wpR_pu 4 #[true, true, true, false, true, false, false, false, false, false] rfl onlyN_noPanic (by kernel_rfl) (fun K hK => ?_); (go_simp; try go_bits); refine hK _ ?_; clear hK K
    refine wpR_pu 5 #[true, true, true, false, true, true, false, false, false, false] rfl onlyN_noPanic (by kernel_rfl) (fun K hK => ?_); (go_simp; try go_bits); refine hK _ ?_; clear hK K
    refine wpR_held (i := 6) (v := .string s.name) #[true, true, true, false, true, true, true, false, false, false] rfl onlyN_noPanic (by kernel_rfl) HT.out (.inl ⟨rfl, fun w' hT => ?_⟩) ?_
    · obtain ⟨c0, c1, c2, c3, c4, c5, c6, c7⟩ := step_box hT; go_simp
    simp only [Act.put, List.setIfInBounds_toArray, List.set_cons_zero, List.set_cons_succ]
    clear HT
    have HS0 := Aside.mk HS.out.drew
    clear HS
    revert HS0
    generalize World.drew wb = W0
    intro HS0
    refine wpR_keep #[true, true, true, true, true, true, true, false, false, false] (i := 3) rfl (by kernel_rfl) (fun K hK => ?_)
    go_simp
    refine (disk_sync E _ d A s.name _ HOK.out.name (HS0.out.s2)).mono ?_
    rintro e W1 ⟨rfl, hn1a⟩
    have hn1 : Sat E W1 (HP.pt BX (.cells s.vals.toArray 37) * (HP.disk d (A.sync s.name).2 * (HP.rdisk y A * q))) := hn1a.s2
    refine hK _ _ (Sat.any_of hn1) ?_
    clear hK K hn1a
    have HS1 : Aside (Sat E W1 (HP.pt BX (.cells s.vals.toArray 37) * (HP.disk d (A.sync s.name).2 * (HP.rdisk y A * q)))) := ⟨hn1.perm (by ac_rfl)⟩
    clear hn1
    refine wpR_eff #[true, true, true, true, true, true, true, true, false, false] (i := 7) rfl (by kernel_rfl) (fun K hK => ?_)
    go_simp
    refine (ref_sync E _ y A s.name _ (HS1.out.s3)).mono ?_
    rintro e W2 ⟨rfl, hn2a⟩
    have hn2 : Sat E W2 (HP.pt BX (.cells s.vals.toArray 37) * (HP.disk d (A.sync s.name).2 * (HP.rdisk y (A.sync s.name).2 * q))) := hn2a.perm (by ac_rfl)
    refine hK _ _ ?_
    clear hK K hn2a
    have HS2 : Aside (Sat E W2 (HP.pt BX (.cells s.vals.toArray 37) * (HP.disk d (A.sync s.name).2 * (HP.rdisk y (A.sync s.name).2 * q)))) := ⟨hn2.perm (by ac_rfl)⟩
    clear hn2 HS1
    refine wpR_rd 8 #[true, true, true, true, true, true, true, true, true, false] rfl onlyN_noPanic (by kernel_rfl) (fun K hK => ?_); (go_simp; try go_bits); refine hK _ ?_; clear hK K
    refine wpR_rd 9 #[true, true, true, true, true, true, true, true, true, true] rfl onlyN_noPanic (by kernel_rfl) (fun K hK => ?_); (go_simp; try go_bits); refine hK _ ?_; clear hK K
    refine wpR_done (by kernel_rfl) ?_ _
    simp only [OnlyN]
    have HS9 := HS2
    clear HS2
    go_wp2
    go_ret
    refine ⟨by simp, ?_⟩
    rw [HR.out]
    exact HS9.out.right
  by_cases k3 : kk = 3
  · subst k3
    have HR : Aside (AR = (A.remove s.name).2) := ⟨by rw [HAR.out]; unfold Dk.stepK; simp⟩
    go_upto_region 12 with fail
    clear c0 c1 c2 c3 c4 c5 c6 c7
    refine region_R [3, 7] [3] (fun W => Sat E W (HP.pt BX (.cells s.vals.toArray 37) * HP.any)) #[false, false, false, false, false, false, false, false, false, false] (by kernel_rfl) rfl rfl ?_
    have HT : Aside ((fun W => Sat E W (HP.pt BX (.cells s.vals.toArray 37) * HP.any)) _) := ⟨(Sat.any_of HS.out).drew⟩
    refine wpR_rd 0 #[true, false, false, false, false, false, false, false, false, false] rfl onlyN_noPanic (by kernel_rfl) (fun K hK => ?_); (go_simp; try go_bits); refine hK _ ?_; clear hK K
    refine wpR_rd 1 #[true, true, false, false, false, false, false, false, false, false] rfl onlyN_noPanic (by kernel_rfl) (fun K hK => ?_); (go_simp; try go_bits); refine hK _ ?_; clear hK K
    refine wpR_held (i := 2) (v := .string s.name) #[true, true, true, false, false, false, false, false, false, false] rfl onlyN_noPanic (by kernel_rfl) HT.out (.inl ⟨rfl, fun w' hT => ?_⟩) ?_
    · obtain ⟨c0, c1, c2, c3, c4, c5, c6, c7⟩ := step_box hT; go_simp
    simp only [Act.put, List.setIfInBounds_toArray, List.set_cons_zero, List.set_cons_succ]
    refine wpR_pu 4 #[true, true, true, false, true, false, false, false, false, false] rfl onlyN_noPanic (by kernel_rfl) (fun K hK => ?_); (go_simp; try go_bits); refine hK _ ?_; clear hK K
    refine wpR_pu 5 #[true, true, true, false, true, true, false, false, false, false] rfl onlyN_noPanic (by kernel_rfl) (fun K hK => ?_); (go_simp; try go_bits); refine hK _ ?_; clear hK K
    refine wpR_held (i := 6) (v := .string s.name) #[true, true, true, false, true, true, true, false, false, false] rfl onlyN_noPanic (by kernel_rfl) HT.out (.inl ⟨rfl, fun w' hT => ?_⟩) ?_
    · obtain ⟨c0, c1, c2, c3, c4, c5, c6, c7⟩ := step_box hT; go_simp
    simp only [Act.put, List.setIfInBounds_toArray, List.set_cons_zero, List.set_cons_succ]
    clear HT
    have HS0 := Aside.mk HS.out.drew
    clear HS
    revert HS0
    generalize World.drew wb = W0
    intro HS0
    refine wpR_keep #[true, true, true, true, true, true, true, false, false, false] (i := 3) rfl (by kernel_rfl) (fun K hK => ?_)
    go_simp
    refine (disk_remove E _ d A s.name _ HOK.out.name (HS0.out.s2)).mono ?_
    rintro e W1 ⟨rfl, hn1a⟩
    have hn1 : Sat E W1 (HP.pt BX (.cells s.vals.toArray 37) * (HP.disk d (A.remove s.name).2 * (HP.rdisk y A * q))) := hn1a.s2
    refine hK _ _ (Sat.any_of hn1) ?_
    clear hK K hn1a
    have HS1 : Aside (Sat E W1 (HP.pt BX (.cells s.vals.toArray 37) * (HP.disk d (A.remove s.name).2 * (HP.rdisk y A * q)))) := ⟨hn1.perm (by ac_rfl)⟩
    clear hn1
    refine wpR_eff #[true, true, true, true, true, true, true, true, false, false] (i := 7) rfl (by kernel_rfl) (fun K hK => ?_)
    go_simp
    refine (ref_remove E _ y A s.name _ (HS1.out.s3)).mono ?_
    rintro e W2 ⟨rfl, hn2a⟩
    have hn2 : Sat E W2 (HP.pt BX (.cells s.vals.toArray 37) * (HP.disk d (A.remove s.name).2 * (HP.rdisk y (A.remove s.name).2 * q))) := hn2a.perm (by ac_rfl)
    refine hK _ _ ?_
    clear hK K hn2a
    have HS2 : Aside (Sat E W2 (HP.pt BX (.cells s.vals.toArray 37) * (HP.disk d (A.remove s.name).2 * (HP.rdisk y (A.remove s.name).2 * q)))) := ⟨hn2.perm (by ac_rfl)⟩
    clear hn2 HS1
    refine wpR_rd 8 #[true, true, true, true, true, true, true, true, true, false] rfl onlyN_noPanic (by kernel_rfl) (fun K hK => ?_); (go_simp; try go_bits); refine hK _ ?_; clear hK K
    refine wpR_rd 9 #[true, true, true, true, true, true, true, true, true, true] rfl onlyN_noPanic (by kernel_rfl) (fun K hK => ?_); (go_simp; try go_bits); refine hK _ ?_; clear hK K
    refine wpR_done (by kernel_rfl) ?_ _
    simp only [OnlyN]
    have HS9 := HS2
    clear HS2
    go_wp2
    go_ret
    refine ⟨by simp, ?_⟩
    rw [HR.out]
    exact HS9.out.right
  by_cases k4 : kk = 4
  · subst k4
    have HR : Aside (AR = (A.rot s.name s.i s.at_ s.mask).2) := ⟨by rw [HAR.out]; unfold Dk.stepK; simp⟩
    go_upto_region 14 with fail
    clear c0 c1 c2 c3 c4 c5 c6 c7
    refine region_R [9, 19] [9] (fun W => Sat E W (HP.pt BX (.cells s.vals.toArray 37) * HP.any)) #[false, false, false, false, false, false, false, false, false, false, false, false, false, false, false, false, false, false, false, false, false, false] (by kernel_rfl) rfl rfl ?_
    have HT : Aside ((fun W => Sat E W (HP.pt BX (.cells s.vals.toArray 37) * HP.any)) _) := ⟨(Sat.any_of HS.out).drew⟩
    refine wpR_rd 0 #[true, false, false, false, false, false, false, false, false, false, false, false, false, false, false, false, false, false, false, false, false, false] rfl onlyN_noPanic (by kernel_rfl) (fun K hK => ?_); (go_simp; try go_bits); refine hK _ ?_; clear hK K
    refine wpR_rd 1 #[true, true, false, false, false, false, false, false, false, false, false, false, false, false, false, false, false, false, false, false, false, false] rfl onlyN_noPanic (by kernel_rfl) (fun K hK => ?_); (go_simp; try go_bits); refine hK _ ?_; clear hK K
    refine wpR_held (i := 2) (v := .string s.name) #[true, true, true, false, false, false, false, false, false, false, false, false, false, false, false, false, false, false, false, false, false, false] rfl onlyN_noPanic (by kernel_rfl) HT.out (.inl ⟨rfl, fun w' hT => ?_⟩) ?_
    · obtain ⟨c0, c1, c2, c3, c4, c5, c6, c7⟩ := step_box hT; go_simp
    simp only [Act.put, List.setIfInBounds_toArray, List.set_cons_zero, List.set_cons_succ]
    refine wpR_rd 3 #[true, true, true, true, false, false, false, false, false, false, false, false, false, false, false, false, false, false, false, false, false, false] rfl onlyN_noPanic (by kernel_rfl) (fun K hK => ?_); (go_simp; try go_bits); refine hK _ ?_; clear hK K
    refine wpR_held (i := 4) (v := .int .i64 s.i) #[true, true, true, true, true, false, false, false, false, false, false, false, false, false, false, false, false, false, false, false, false, false] rfl onlyN_noPanic (by kernel_rfl) HT.out (.inl ⟨rfl, fun w' hT => ?_⟩) ?_
    · obtain ⟨c0, c1, c2, c3, c4, c5, c6, c7⟩ := step_box hT; go_simp
    simp only [Act.put, List.setIfInBounds_toArray, List.set_cons_zero, List.set_cons_succ]
    refine wpR_rd 5 #[true, true, true, true, true, true, false, false, false, false, false, false, false, false, false, false, false, false, false, false, false, false] rfl onlyN_noPanic (by kernel_rfl) (fun K hK => ?_); (go_simp; try go_bits); refine hK _ ?_; clear hK K
    refine wpR_held (i := 6) (v := .int .i64 s.at_) #[true, true, true, true, true, true, true, false, false, false, false, false, false, false, false, false, false, false, false, false, false, false] rfl onlyN_noPanic (by kernel_rfl) HT.out (.inl ⟨rfl, fun w' hT => ?_⟩) ?_
    · obtain ⟨c0, c1, c2, c3, c4, c5, c6, c7⟩ := step_box hT; go_simp
    simp only [Act.put, List.setIfInBounds_toArray, List.set_cons_zero, List.set_cons_succ]
    refine wpR_rd 7 #[true, true, true, true, true, true, true, true, false, false, false, false, false, false, false, false, false, false, false, false, false, false] rfl onlyN_noPanic (by kernel_rfl) (fun K hK => ?_); (go_simp; try go_bits); refine hK _ ?_; clear hK K
    refine wpR_held (i := 8) (v := .int .u8 s.mask) #[true, true, true, true, true, true, true, true, true, false, false, false, false, false, false, false, false, false, false, false, false, false] rfl onlyN_noPanic (by kernel_rfl) HT.out (.inl ⟨rfl, fun w' hT => ?_⟩) ?_
    · obtain ⟨c0, c1, c2, c3, c4, c5, c6, c7⟩ := step_box hT; go_simp
    simp only [Act.put, List.setIfInBounds_toArray, List.set_cons_zero, List.set_cons_succ]
    refine wpR_pu 10 #[true, true, true, true, true, true, true, true, true, false, true, false, false, false, false, false, false, false, false, false, false, false] rfl onlyN_noPanic (by kernel_rfl) (fun K hK => ?_); (go_simp; try go_bits); refine hK _ ?_; clear hK K
    refine wpR_pu 11 #[true, true, true, true, true, true, true, true, true, false, true, true, false, false, false, false, false, false, false, false, false, false] rfl onlyN_noPanic (by kernel_rfl) (fun K hK => ?_); (go_simp; try go_bits); refine hK _ ?_; clear hK K
    refine wpR_held (i := 12) (v := .string s.name) #[true, true, true, true, true, true, true, true, true, false, true, true, true, false, false, false, false, false, false, false, false, false] rfl onlyN_noPanic (by kernel_rfl) HT.out (.inl ⟨rfl, fun w' hT => ?_⟩) ?_
    · obtain ⟨c0, c1, c2, c3, c4, c5, c6, c7⟩ := step_box hT; go_simp
    simp only [Act.put, List.setIfInBounds_toArray, List.set_cons_zero, List.set_cons_succ]
    refine wpR_pu 13 #[true, true, true, true, true, true, true, true, true, false, true, true, true, true, false, false, false, false, false, false, false, false] rfl onlyN_noPanic (by kernel_rfl) (fun K hK => ?_); (go_simp; try go_bits); refine hK _ ?_; clear hK K
    refine wpR_held (i := 14) (v := .int .i64 s.i) #[true, true, true, true, true, true, true, true, true, false, true, true, true, true, true, false, false, false, false, false, false, false] rfl onlyN_noPanic (by kernel_rfl) HT.out (.inl ⟨rfl, fun w' hT => ?_⟩) ?_
    · obtain ⟨c0, c1, c2, c3, c4, c5, c6, c7⟩ := step_box hT; go_simp
    simp only [Act.put, List.setIfInBounds_toArray, List.set_cons_zero, List.set_cons_succ]
    refine wpR_pu 15 #[true, true, true, true, true, true, true, true, true, false, true, true, true, true, true, true, false, false, false, false, false, false] rfl onlyN_noPanic (by kernel_rfl) (fun K hK => ?_); (go_simp; try go_bits); refine hK _ ?_; clear hK K
    refine wpR_held (i := 16) (v := .int .i64 s.at_) #[true, true, true, true, true, true, true, true, true, false, true, true, true, true, true, true, true, false, false, false, false, false] rfl onlyN_noPanic (by kernel_rfl) HT.out (.inl ⟨rfl, fun w' hT => ?_⟩) ?_
    · obtain ⟨c0, c1, c2, c3, c4, c5, c6, c7⟩ := step_box hT; go_simp
    simp only [Act.put, List.setIfInBounds_toArray, List.set_cons_zero, List.set_cons_succ]
    refine wpR_pu 17 #[true, true, true, true, true, true, true, true, true, false, true, true, true, true, true, true, true, true, false, false, false, false] rfl onlyN_noPanic (by kernel_rfl) (fun K hK => ?_); (go_simp; try go_bits); refine hK _ ?_; clear hK K
    refine wpR_held (i := 18) (v := .int .u8 s.mask) #[true, true, true, true, true, true, true, true, true, false, true, true, true, true, true, true, true, true, true, false, false, false] rfl onlyN_noPanic (by kernel_rfl) HT.out (.inl ⟨rfl, fun w' hT => ?_⟩) ?_
    · obtain ⟨c0, c1, c2, c3, c4, c5, c6, c7⟩ := step_box hT; go_simp
    simp only [Act.put, List.setIfInBounds_toArray, List.set_cons_zero, List.set_cons_succ]
    clear HT
    have HS0 := Aside.mk HS.out.drew
    clear HS
    revert HS0
    generalize World.drew wb = W0
    intro HS0
    refine wpR_keep #[true, true, true, true, true, true, true, true, true, true, true, true, true, true, true, true, true, true, true, false, false, false] (i := 9) rfl (by kernel_rfl) (fun K hK => ?_)
    go_simp
    refine (disk_rot E _ d A s.name s.i s.at_ s.mask _ HOK.out.name (HS0.out.s2)).mono ?_
    rintro e W1 ⟨rfl, hn1a⟩
    have hn1 : Sat E W1 (HP.pt BX (.cells s.vals.toArray 37) * (HP.disk d (A.rot s.name s.i s.at_ s.mask).2 * (HP.rdisk y A * q))) := hn1a.s2
    refine hK _ _ (Sat.any_of hn1) ?_
    clear hK K hn1a
    have HS1 : Aside (Sat E W1 (HP.pt BX (.cells s.vals.toArray 37) * (HP.disk d (A.rot s.name s.i s.at_ s.mask).2 * (HP.rdisk y A * q)))) := ⟨hn1.perm (by ac_rfl)⟩
    clear hn1
    refine wpR_eff #[true, true, true, true, true, true, true, true, true, true, true, true, true, true, true, true, true, true, true, true, false, false] (i := 19) rfl (by kernel_rfl) (fun K hK => ?_)
    go_simp
    refine (ref_rot E _ y A s.name s.i s.at_ s.mask _ (HS1.out.s3)).mono ?_
    rintro e W2 ⟨rfl, hn2a⟩
    have hn2 : Sat E W2 (HP.pt BX (.cells s.vals.toArray 37) * (HP.disk d (A.rot s.name s.i s.at_ s.mask).2 * (HP.rdisk y (A.rot s.name s.i s.at_ s.mask).2 * q))) := hn2a.perm (by ac_rfl)
    refine hK _ _ ?_
    clear hK K hn2a
    have HS2 : Aside (Sat E W2 (HP.pt BX (.cells s.vals.toArray 37) * (HP.disk d (A.rot s.name s.i s.at_ s.mask).2 * (HP.rdisk y (A.rot s.name s.i s.at_ s.mask).2 * q)))) := ⟨hn2.perm (by ac_rfl)⟩
    clear hn2 HS1
    refine wpR_rd 20 #[true, true, true, true, true, true, true, true, true, true, true, true, true, true, true, true, true, true, true, true, true, false] rfl onlyN_noPanic (by kernel_rfl) (fun K hK => ?_); (go_simp; try go_bits); refine hK _ ?_; clear hK K
    refine wpR_rd 21 #[true, true, true, true, true, true, true, true, true, true, true, true, true, true, true, true, true, true, true, true, true, true] rfl onlyN_noPanic (by kernel_rfl) (fun K hK => ?_); (go_simp; try go_bits); refine hK _ ?_; clear hK K
    refine wpR_done (by kernel_rfl) ?_ _
    simp only [OnlyN]
    have HS9 := HS2
    clear HS2
    go_wp2
    go_ret
    refine ⟨by simp, ?_⟩
    rw [HR.out]
    exact HS9.out.right
  by_cases k5 : kk = 5
  · subst k5
    have HR : Aside (AR = A.crash s.kept.l) := ⟨by rw [HAR.out]; unfold Dk.stepK; simp⟩
    go_upto_region 16 with fail
    clear c0 c1 c2 c3 c4 c5 c6 c7
    refine region_R [3, 7] [3] (fun W => Sat E W (HP.pt BX (.cells s.vals.toArray 37) * HP.any)) #[false, false, false, false, false, false, false, false, false, false] (by kernel_rfl) rfl rfl ?_
    have HT : Aside ((fun W => Sat E W (HP.pt BX (.cells s.vals.toArray 37) * HP.any)) _) := ⟨(Sat.any_of HS.out).drew⟩
    refine wpR_rd 0 #[true, false, false, false, false, false, false, false, false, false] rfl onlyN_noPanic (by kernel_rfl) (fun K hK => ?_); (go_simp; try go_bits); refine hK _ ?_; clear hK K
    refine wpR_rd 1 #[true, true, false, false, false, false, false, false, false, false] rfl onlyN_noPanic (by kernel_rfl) (fun K hK => ?_); (go_simp; try go_bits); refine hK _ ?_; clear hK K
    refine wpR_held (i := 2) (v := .slice s.kept.A s.kept.l.length s.kept.cap) #[true, true, true, false, false, false, false, false, false, false] rfl onlyN_noPanic (by kernel_rfl) HT.out (.inl ⟨rfl, fun w' hT => ?_⟩) ?_
    · obtain ⟨c0, c1, c2, c3, c4, c5, c6, c7⟩ := step_box hT; go_simp
    simp only [Act.put, List.setIfInBounds_toArray, List.set_cons_zero, List.set_cons_succ]
    refine wpR_pu 4 #[true, true, true, false, true, false, false, false, false, false] rfl onlyN_noPanic (by kernel_rfl) (fun K hK => ?_); (go_simp; try go_bits); refine hK _ ?_; clear hK K
    refine wpR_pu 5 #[true, true, true, false, true, true, false, false, false, false] rfl onlyN_noPanic (by kernel_rfl) (fun K hK => ?_); (go_simp; try go_bits); refine hK _ ?_; clear hK K
    refine wpR_held (i := 6) (v := .slice s.kept.A s.kept.l.length s.kept.cap) #[true, true, true, false, true, true, true, false, false, false] rfl onlyN_noPanic (by kernel_rfl) HT.out (.inl ⟨rfl, fun w' hT => ?_⟩) ?_
    · obtain ⟨c0, c1, c2, c3, c4, c5, c6, c7⟩ := step_box hT; go_simp
    simp only [Act.put, List.setIfInBounds_toArray, List.set_cons_zero, List.set_cons_succ]
    clear HT
    have HS0 := Aside.mk HS.out.drew
    clear HS
    revert HS0
    generalize World.drew wb = W0
    intro HS0
    refine wpR_keep #[true, true, true, true, true, true, true, false, false, false] (i := 3) rfl (by kernel_rfl) (fun K hK => ?_)
    go_simp
    refine (disk_crash E _ d A s.kept.A s.kept.l s.kept.cap _ (by have := HKL.out; unfold maxLen at this; omega) HOK.out.kept.2 (fun E w h => (HQ.out _ _ h.right.right).2) (HS0.out.s2)).mono ?_
    rintro e W1 ⟨rfl, hn1a⟩
    have hn1 : Sat E W1 (HP.pt BX (.cells s.vals.toArray 37) * (HP.disk d (A.crash s.kept.l) * (HP.rdisk y A * q))) := hn1a.s2
    refine hK _ _ (Sat.any_of hn1) ?_
    clear hK K hn1a
    have HS1 : Aside (Sat E W1 (HP.pt BX (.cells s.vals.toArray 37) * (HP.disk d (A.crash s.kept.l) * (HP.rdisk y A * q)))) := ⟨hn1.perm (by ac_rfl)⟩
    clear hn1
    refine wpR_eff #[true, true, true, true, true, true, true, true, false, false] (i := 7) rfl (by kernel_rfl) (fun K hK => ?_)
    go_simp
    refine (ref_crash E _ y A s.kept.A s.kept.l s.kept.cap _ HKL.out HOK.out.kept.2 (fun E w h => (HQ.out _ _ h.right.right).2) (HS1.out.s3)).mono ?_
    rintro e W2 ⟨rfl, hn2a⟩
    have hn2 : Sat E W2 (HP.pt BX (.cells s.vals.toArray 37) * (HP.disk d (A.crash s.kept.l) * (HP.rdisk y (A.crash s.kept.l) * q))) := hn2a.perm (by ac_rfl)
    refine hK _ _ ?_
    clear hK K hn2a
    have HS2 : Aside (Sat E W2 (HP.pt BX (.cells s.vals.toArray 37) * (HP.disk d (A.crash s.kept.l) * (HP.rdisk y (A.crash s.kept.l) * q)))) := ⟨hn2.perm (by ac_rfl)⟩
    clear hn2 HS1
    refine wpR_rd 8 #[true, true, true, true, true, true, true, true, true, false] rfl onlyN_noPanic (by kernel_rfl) (fun K hK => ?_); (go_simp; try go_bits); refine hK _ ?_; clear hK K
    refine wpR_rd 9 #[true, true, true, true, true, true, true, true, true, true] rfl onlyN_noPanic (by kernel_rfl) (fun K hK => ?_); (go_simp; try go_bits); refine hK _ ?_; clear hK K
    refine wpR_done (by kernel_rfl) ?_ _
    simp only [OnlyN]
    have HS9 := HS2
    clear HS2
    go_wp2
    go_ret
    refine ⟨by simp, ?_⟩
    rw [HR.out]
    exact HS9.out.right
  by_cases k1 : kk = 1
  · subst k1
    have HR : Aside (AR = (A.write s.name s.i s.b.l).2) := ⟨by rw [HAR.out]; unfold Dk.stepK; simp⟩
    go_upto_region 8 with fail
    clear c0 c1 c2 c3 c4 c5 c6 c7
    refine region_R [7, 15] [7] (fun W => Sat E W (HP.pt BX (.cells s.vals.toArray 37) * HP.any)) #[false, false, false, false, false, false, false, false, false, false, false, false, false, false, false, false, false, false] (by kernel_rfl) rfl rfl ?_
    have HT : Aside ((fun W => Sat E W (HP.pt BX (.cells s.vals.toArray 37) * HP.any)) _) := ⟨(Sat.any_of HS.out).drew⟩
    refine wpR_rd 0 #[true, false, false, false, false, false, false, false, false, false, false, false, false, false, false, false, false, false] rfl onlyN_noPanic (by kernel_rfl) (fun K hK => ?_); (go_simp; try go_bits); refine hK _ ?_; clear hK K
    refine wpR_rd 1 #[true, true, false, false, false, false, false, false, false, false, false, false, false, false, false, false, false, false] rfl onlyN_noPanic (by kernel_rfl) (fun K hK => ?_); (go_simp; try go_bits); refine hK _ ?_; clear hK K
    refine wpR_held (i := 2) (v := .string s.name) #[true, true, true, false, false, false, false, false, false, false, false, false, false, false, false, false, false, false] rfl onlyN_noPanic (by kernel_rfl) HT.out (.inl ⟨rfl, fun w' hT => ?_⟩) ?_
    · obtain ⟨c0, c1, c2, c3, c4, c5, c6, c7⟩ := step_box hT; go_simp
    simp only [Act.put, List.setIfInBounds_toArray, List.set_cons_zero, List.set_cons_succ]
    refine wpR_rd 3 #[true, true, true, true, false, false, false, false, false, false, false, false, false, false, false, false, false, false] rfl onlyN_noPanic (by kernel_rfl) (fun K hK => ?_); (go_simp; try go_bits); refine hK _ ?_; clear hK K
    refine wpR_held (i := 4) (v := .int .i64 s.i) #[true, true, true, true, true, false, false, false, false, false, false, false, false, false, false, false, false, false] rfl onlyN_noPanic (by kernel_rfl) HT.out (.inl ⟨rfl, fun w' hT => ?_⟩) ?_
    · obtain ⟨c0, c1, c2, c3, c4, c5, c6, c7⟩ := step_box hT; go_simp
    simp only [Act.put, List.setIfInBounds_toArray, List.set_cons_zero, List.set_cons_succ]
    refine wpR_rd 5 #[true, true, true, true, true, true, false, false, false, false, false, false, false, false, false, false, false, false] rfl onlyN_noPanic (by kernel_rfl) (fun K hK => ?_); (go_simp; try go_bits); refine hK _ ?_; clear hK K
    refine wpR_held (i := 6) (v := .slice s.b.A s.b.l.length s.b.cap) #[true, true, true, true, true, true, true, false, false, false, false, false, false, false, false, false, false, false] rfl onlyN_noPanic (by kernel_rfl) HT.out (.inl ⟨rfl, fun w' hT => ?_⟩) ?_
    · obtain ⟨c0, c1, c2, c3, c4, c5, c6, c7⟩ := step_box hT; go_simp
    simp only [Act.put, List.setIfInBounds_toArray, List.set_cons_zero, List.set_cons_succ]
    refine wpR_pu 8 #[true, true, true, true, true, true, true, false, true, false, false, false, false, false, false, false, false, false] rfl onlyN_noPanic (by kernel_rfl) (fun K hK => ?_); (go_simp; try go_bits); refine hK _ ?_; clear hK K
    refine wpR_pu 9 #[true, true, true, true, true, true, true, false, true, true, false, false, false, false, false, false, false, false] rfl onlyN_noPanic (by kernel_rfl) (fun K hK => ?_); (go_simp; try go_bits); refine hK _ ?_; clear hK K
    refine wpR_held (i := 10) (v := .string s.name) #[true, true, true, true, true, true, true, false, true, true, true, false, false, false, false, false, false, false] rfl onlyN_noPanic (by kernel_rfl) HT.out (.inl ⟨rfl, fun w' hT => ?_⟩) ?_
    · obtain ⟨c0, c1, c2, c3, c4, c5, c6, c7⟩ := step_box hT; go_simp
    simp only [Act.put, List.setIfInBounds_toArray, List.set_cons_zero, List.set_cons_succ]
    refine wpR_pu 11 #[true, true, true, true, true, true, true, false, true, true, true, true, false, false, false, false, false, false] rfl onlyN_noPanic (by kernel_rfl) (fun K hK => ?_); (go_simp; try go_bits); refine hK _ ?_; clear hK K
    refine wpR_held (i := 12) (v := .int .i64 s.i) #[true, true, true, true, true, true, true, false, true, true, true, true, true, false, false, false, false, false] rfl onlyN_noPanic (by kernel_rfl) HT.out (.inl ⟨rfl, fun w' hT => ?_⟩) ?_
    · obtain ⟨c0, c1, c2, c3, c4, c5, c6, c7⟩ := step_box hT; go_simp
    simp only [Act.put, List.setIfInBounds_toArray, List.set_cons_zero, List.set_cons_succ]
    refine wpR_pu 13 #[true, true, true, true, true, true, true, false, true, true, true, true, true, true, false, false, false, false] rfl onlyN_noPanic (by kernel_rfl) (fun K hK => ?_); (go_simp; try go_bits); refine hK _ ?_; clear hK K
    refine wpR_held (i := 14) (v := .slice s.b.A s.b.l.length s.b.cap) #[true, true, true, true, true, true, true, false, true, true, true, true, true, true, true, false, false, false] rfl onlyN_noPanic (by kernel_rfl) HT.out (.inl ⟨rfl, fun w' hT => ?_⟩) ?_
    · obtain ⟨c0, c1, c2, c3, c4, c5, c6, c7⟩ := step_box hT; go_simp
    simp only [Act.put, List.setIfInBounds_toArray, List.set_cons_zero, List.set_cons_succ]
    clear HT
    have HS0 := Aside.mk HS.out.drew
    clear HS
    revert HS0
    generalize World.drew wb = W0
    intro HS0
    refine wpR_keep #[true, true, true, true, true, true, true, true, true, true, true, true, true, true, true, false, false, false] (i := 7) rfl (by kernel_rfl) (fun K hK => ?_)
    go_simp
    refine (disk_write E _ d A s.name s.i s.b.A s.b.l s.b.l.length s.b.cap _ HOK.out.name rfl HBL.out (fun w h => (HQ.out _ _ h.right.right).1) (HS0.out.s2)).mono ?_
    rintro e W1 ⟨rfl, hn1a⟩
    have hn1 : Sat E W1 (HP.pt BX (.cells s.vals.toArray 37) * (HP.disk d (A.write s.name s.i s.b.l).2 * (HP.rdisk y A * q))) := hn1a.s2
    refine hK _ _ (Sat.any_of hn1) ?_
    clear hK K hn1a
    have HS1 : Aside (Sat E W1 (HP.pt BX (.cells s.vals.toArray 37) * (HP.disk d (A.write s.name s.i s.b.l).2 * (HP.rdisk y A * q)))) := ⟨hn1.perm (by ac_rfl)⟩
    clear hn1
    refine wpR_eff #[true, true, true, true, true, true, true, true, true, true, true, true, true, true, true, true, false, false] (i := 15) rfl (by kernel_rfl) (fun K hK => ?_)
    go_simp
    refine (ref_write E _ y A s.name s.i s.b.A s.b.l s.b.l.length s.b.cap _ HOK.out.name rfl HBL.out (fun w h => (HQ.out _ _ h.right.right).1) (HS1.out.s3)).mono ?_
    rintro e W2 ⟨rfl, hn2a⟩
    have hn2 : Sat E W2 (HP.pt BX (.cells s.vals.toArray 37) * (HP.disk d (A.write s.name s.i s.b.l).2 * (HP.rdisk y (A.write s.name s.i s.b.l).2 * q))) := hn2a.perm (by ac_rfl)
    refine hK _ _ ?_
    clear hK K hn2a
    have HS2 : Aside (Sat E W2 (HP.pt BX (.cells s.vals.toArray 37) * (HP.disk d (A.write s.name s.i s.b.l).2 * (HP.rdisk y (A.write s.name s.i s.b.l).2 * q)))) := ⟨hn2.perm (by ac_rfl)⟩
    clear hn2 HS1
    refine wpR_rd 16 #[true, true, true, true, true, true, true, true, true, true, true, true, true, true, true, true, true, false] rfl onlyN_noPanic (by kernel_rfl) (fun K hK => ?_); (go_simp; try go_bits); refine hK _ ?_; clear hK K
    refine wpR_rd 17 #[true, true, true, true, true, true, true, true, true, true, true, true, true, true, true, true, true, true] rfl onlyN_noPanic (by kernel_rfl) (fun K hK => ?_); (go_simp; try go_bits); refine hK _ ?_; clear hK K
    refine wpR_done (by kernel_rfl) ?_ _
    simp only [OnlyN]
    have HS9 := HS2
    clear HS2
    go_wp2
    go_ret
    refine ⟨by simp, ?_⟩
    rw [HR.out]
    exact HS9.out.right
  by_cases k0 : kk = 0
  · subst k0
    have HR : Aside (AR = (A.write s.name s.i (fullOf s.b.l)).2) := ⟨by rw [HAR.out]; unfold Dk.stepK; simp⟩
    go_wp2_with fail
    refine (full_ok E _ s _ HOK.out.b.1 (fun E' w' h => (HQ.out E' w' h.right.right.right).1) HS.out).mono ?_
    rintro e w1 ⟨gF, rfl, h1⟩
    clear c0 c1 c2 c3 c4 c5 c6 c7 HS
    obtain ⟨-, c1, -, -, c4, -⟩ := step_box h1.s2
    have H1 : Aside (Sat E w1 (HP.disk d A * (HP.row 5 1 (.slice (some ⟨gF, 0, none⟩) 128 128) 128 (b8s (fullOf s.b.l)) * (HP.pt BX (.cells s.vals.toArray 37) * (HP.rdisk y A * q))))) := ⟨h1.perm (by ac_rfl)⟩
    clear h1
    go_wp2_with fail
    refine (disk_write E _ d A s.name s.i (some ⟨gF, 0, none⟩) (fullOf s.b.l) 128 128 _ HOK.out.name (fullOf_length _) (by unfold maxLen; omega) (fun w h => h.row_cells) H1.out).mono ?_
    rintro e w2 ⟨rfl, h2⟩
    clear c1 c4 H1
    have h3 : Sat E w2 (HP.row 5 1 (.slice (some ⟨gF, 0, none⟩) 128 128) 128 (b8s (fullOf s.b.l)) * (HP.pt BX (.cells s.vals.toArray 37) * (HP.disk d (A.write s.name s.i (fullOf s.b.l)).2 * (HP.rdisk y A * q)))) := h2.perm (by ac_rfl)
    have H3 := Aside.mk (h3.alloc (.cells #[.slice (some ⟨gF, 0, none⟩) 128 128] 34))
    clear h2 h3
    go_wp2_with fail
    refine (spoil_ok E _ w2.heap.size (some ⟨gF, 0, none⟩) 128 128 (fullOf s.b.l) _ (by unfold maxLen; omega) H3.out).mono ?_
    rintro e w3 ⟨rfl, h4⟩
    have HS := Aside.mk h4
    clear h4 H3
    go_upto_region 6 with fail
    refine region_R [7, 8] [7] (fun W => Sat E W (HP.pt BX (.cells s.vals.toArray 37) * HP.any)) #[false, false, false, false, false, false, false, false, false, false, false] (by kernel_rfl) rfl rfl ?_
    have HT : Aside ((fun W => Sat E W (HP.pt BX (.cells s.vals.toArray 37) * HP.any)) _) := ⟨(Sat.any_of HS.out).drew⟩
    refine wpR_pu 0 #[true, false, false, false, false, false, false, false, false, false, false] rfl onlyN_noPanic (by kernel_rfl) (fun K hK => ?_); (go_simp; try go_bits); refine hK _ ?_; clear hK K
    refine wpR_pu 1 #[true, true, false, false, false, false, false, false, false, false, false] rfl onlyN_noPanic (by kernel_rfl) (fun K hK => ?_); (go_simp; try go_bits); refine hK _ ?_; clear hK K
    refine wpR_pu 2 #[true, true, true, false, false, false, false, false, false, false, false] rfl onlyN_noPanic (by kernel_rfl) (fun K hK => ?_); (go_simp; try go_bits); refine hK _ ?_; clear hK K
    refine wpR_held (i := 3) (v := .string s.name) #[true, true, true, true, false, false, false, false, false, false, false] rfl onlyN_noPanic (by kernel_rfl) HT.out (.inl ⟨rfl, fun w' hT => ?_⟩) ?_
    · obtain ⟨c0, c1, c2, c3, c4, c5, c6, c7⟩ := step_box hT; go_simp
    simp only [Act.put, List.setIfInBounds_toArray, List.set_cons_zero, List.set_cons_succ]
    refine wpR_pu 4 #[true, true, true, true, true, false, false, false, false, false, false] rfl onlyN_noPanic (by kernel_rfl) (fun K hK => ?_); (go_simp; try go_bits); refine hK _ ?_; clear hK K
    refine wpR_held (i := 5) (v := .int .i64 s.i) #[true, true, true, true, true, true, false, false, false, false, false] rfl onlyN_noPanic (by kernel_rfl) HT.out (.inl ⟨rfl, fun w' hT => ?_⟩) ?_
    · obtain ⟨c0, c1, c2, c3, c4, c5, c6, c7⟩ := step_box hT; go_simp
    simp only [Act.put, List.setIfInBounds_toArray, List.set_cons_zero, List.set_cons_succ]
    refine wpR_read (i := 6) #[true, true, true, true, true, true, true, false, false, false, false] rfl onlyN_noPanic (by kernel_rfl) (.inl ⟨rfl, exec_load rfl rfl (step_load (Sat.any_of HS.out).drew)⟩) ?_
    simp only [Act.put, List.setIfInBounds_toArray, List.set_cons_zero, List.set_cons_succ]
    clear HT
    have HS0 := Aside.mk HS.out.drew
    clear HS
    revert HS0
    generalize World.drew w3 = W0
    intro HS0
    refine wpR_keep #[true, true, true, true, true, true, true, true, false, false, false] (i := 7) rfl (by kernel_rfl) (fun K hK => ?_)
    go_simp
    refine (full_ok E _ s _ HOK.out.b.1 (fun E' w' h => (HQ.out E' w' h.right.right.right).1) HS0.out).mono ?_
    rintro e W1 ⟨gF, rfl, hn1⟩
    refine hK _ _ (Sat.any_of hn1.s2) ?_
    clear hK K
    have HS1 : Aside (Sat E W1 (HP.row 5 1 (.slice (some ⟨gF, 0, none⟩) 128 128) 128 (b8s (fullOf s.b.l)) * (HP.pt BX (.cells s.vals.toArray 37) * (HP.disk d (A.write s.name s.i (fullOf s.b.l)).2 * (HP.rdisk y A * q))))) := ⟨hn1.perm (by ac_rfl)⟩
    clear hn1
    refine wpR_eff #[true, true, true, true, true, true, true, true, true, false, false] (i := 8) rfl (by kernel_rfl) (fun K hK => ?_)
    go_simp
    have hn2b : Sat E W1 (HP.rdisk y A * (HP.row 5 1 (.slice (some ⟨gF, 0, none⟩) 128 128) 128 (b8s (fullOf s.b.l)) * (HP.pt BX (.cells s.vals.toArray 37) * (HP.disk d (A.write s.name s.i (fullOf s.b.l)).2 * q)))) := HS1.out.perm (by ac_rfl)
    refine (ref_write E _ y A s.name s.i (some ⟨gF, 0, none⟩) (fullOf s.b.l) 128 128 _ HOK.out.name (fullOf_length _) (by unfold maxLen; omega) (fun w h => h.row_cells) hn2b).mono ?_
    rintro e W2 ⟨rfl, hn2a⟩
    have hn2 : Sat E W2 (HP.row 5 1 (.slice (some ⟨gF, 0, none⟩) 128 128) 128 (b8s (fullOf s.b.l)) * (HP.pt BX (.cells s.vals.toArray 37) * (HP.disk d (A.write s.name s.i (fullOf s.b.l)).2 * (HP.rdisk y (A.write s.name s.i (fullOf s.b.l)).2 * q)))) := hn2a.perm (by ac_rfl)
    refine hK _ _ ?_
    clear hK K hn2a hn2b
    have HS2 : Aside (Sat E W2 (HP.row 5 1 (.slice (some ⟨gF, 0, none⟩) 128 128) 128 (b8s (fullOf s.b.l)) * (HP.pt BX (.cells s.vals.toArray 37) * (HP.disk d (A.write s.name s.i (fullOf s.b.l)).2 * (HP.rdisk y (A.write s.name s.i (fullOf s.b.l)).2 * q))))) := ⟨hn2.perm (by ac_rfl)⟩
    clear hn2 HS1
    refine wpR_rd 9 #[true, true, true, true, true, true, true, true, true, true, false] rfl onlyN_noPanic (by kernel_rfl) (fun K hK => ?_); (go_simp; try go_bits); refine hK _ ?_; clear hK K
    refine wpR_rd 10 #[true, true, true, true, true, true, true, true, true, true, true] rfl onlyN_noPanic (by kernel_rfl) (fun K hK => ?_); (go_simp; try go_bits); refine hK _ ?_; clear hK K
    refine wpR_done (by kernel_rfl) ?_ _
    simp only [OnlyN]
    have HS9 := HS2
    clear HS2
    go_wp2
    go_ret
    refine ⟨by simp, ?_⟩
    rw [HR.out]
    exact HS9.out.right.right
  · have k6 : kk = 6 := by omega
    subst k6
    have HR : Aside (AR = A.fuseK s.n) := ⟨by rw [HAR.out]; unfold Dk.stepK; simp⟩
    go_upto_region 17 with fail
    clear c0 c1 c2 c3 c4 c5 c6 c7
    refine region_R [3, 7] [3] (fun W => Sat E W (HP.pt BX (.cells s.vals.toArray 37) * HP.any)) #[false, false, false, false, false, false, false, false, false, false] (by kernel_rfl) rfl rfl ?_
    have HT : Aside ((fun W => Sat E W (HP.pt BX (.cells s.vals.toArray 37) * HP.any)) _) := ⟨(Sat.any_of HS.out).drew⟩
    refine wpR_rd 0 #[true, false, false, false, false, false, false, false, false, false] rfl onlyN_noPanic (by kernel_rfl) (fun K hK => ?_); (go_simp; try go_bits); refine hK _ ?_; clear hK K
    refine wpR_rd 1 #[true, true, false, false, false, false, false, false, false, false] rfl onlyN_noPanic (by kernel_rfl) (fun K hK => ?_); (go_simp; try go_bits); refine hK _ ?_; clear hK K
    refine wpR_held (i := 2) (v := .int .i64 s.n) #[true, true, true, false, false, false, false, false, false, false] rfl onlyN_noPanic (by kernel_rfl) HT.out (.inl ⟨rfl, fun w' hT => ?_⟩) ?_
    · obtain ⟨c0, c1, c2, c3, c4, c5, c6, c7⟩ := step_box hT; go_simp
    simp only [Act.put, List.setIfInBounds_toArray, List.set_cons_zero, List.set_cons_succ]
    refine wpR_pu 4 #[true, true, true, false, true, false, false, false, false, false] rfl onlyN_noPanic (by kernel_rfl) (fun K hK => ?_); (go_simp; try go_bits); refine hK _ ?_; clear hK K
    refine wpR_pu 5 #[true, true, true, false, true, true, false, false, false, false] rfl onlyN_noPanic (by kernel_rfl) (fun K hK => ?_); (go_simp; try go_bits); refine hK _ ?_; clear hK K
    refine wpR_held (i := 6) (v := .int .i64 s.n) #[true, true, true, false, true, true, true, false, false, false] rfl onlyN_noPanic (by kernel_rfl) HT.out (.inl ⟨rfl, fun w' hT => ?_⟩) ?_
    · obtain ⟨c0, c1, c2, c3, c4, c5, c6, c7⟩ := step_box hT; go_simp
    simp only [Act.put, List.setIfInBounds_toArray, List.set_cons_zero, List.set_cons_succ]
    clear HT
    have HS0 := Aside.mk HS.out.drew
    clear HS
    revert HS0
    generalize World.drew wb = W0
    intro HS0
    refine wpR_keep #[true, true, true, true, true, true, true, false, false, false] (i := 3) rfl (by kernel_rfl) (fun K hK => ?_)
    go_simp
    refine (fuse_d E _ d A s.n _ HOK.out.n (HS0.out.s2)).mono ?_
    rintro e W1 ⟨rfl, hn1a⟩
    have hn1 : Sat E W1 (HP.pt BX (.cells s.vals.toArray 37) * (HP.disk d (A.fuseK s.n) * (HP.rdisk y A * q))) := hn1a.s2
    refine hK _ _ (Sat.any_of hn1) ?_
    clear hK K hn1a
    have HS1 : Aside (Sat E W1 (HP.pt BX (.cells s.vals.toArray 37) * (HP.disk d (A.fuseK s.n) * (HP.rdisk y A * q)))) := ⟨hn1.perm (by ac_rfl)⟩
    clear hn1
    refine wpR_eff #[true, true, true, true, true, true, true, true, false, false] (i := 7) rfl (by kernel_rfl) (fun K hK => ?_)
    go_simp
    refine (fuse_r E _ y A s.n _ HOK.out.n (HS1.out.s3)).mono ?_
    rintro e W2 ⟨rfl, hn2a⟩
    have hn2 : Sat E W2 (HP.pt BX (.cells s.vals.toArray 37) * (HP.disk d (A.fuseK s.n) * (HP.rdisk y (A.fuseK s.n) * q))) := hn2a.perm (by ac_rfl)
    refine hK _ _ ?_
    clear hK K hn2a
    have HS2 : Aside (Sat E W2 (HP.pt BX (.cells s.vals.toArray 37) * (HP.disk d (A.fuseK s.n) * (HP.rdisk y (A.fuseK s.n) * q)))) := ⟨hn2.perm (by ac_rfl)⟩
    clear hn2 HS1
    refine wpR_rd 8 #[true, true, true, true, true, true, true, true, true, false] rfl onlyN_noPanic (by kernel_rfl) (fun K hK => ?_); (go_simp; try go_bits); refine hK _ ?_; clear hK K
    refine wpR_rd 9 #[true, true, true, true, true, true, true, true, true, true] rfl onlyN_noPanic (by kernel_rfl) (fun K hK => ?_); (go_simp; try go_bits); refine hK _ ?_; clear hK K
    refine wpR_done (by kernel_rfl) ?_ _
    simp only [OnlyN]
    have HS9 := HS2
    clear HS2
    go_wp2
    go_ret
    refine ⟨by simp, ?_⟩
    rw [HR.out]
    exact HS9.out.right
end Go.Proofs.YtmjnnbnbdcadbaaGreatDoor

/- slices.Equal of spots. -/
namespace Go.Proofs.YtmjnnbnbdcadbaaGreatDoor
open Go.RowKit HP
set_option linter.unusedSimpArgs false
set_option linter.unusedVariables false

theorem agSpot : AgTy Tryz.prog 105 2 := ⟨⟨_, Tryz.underlying105, rfl⟩, by kernel_rfl⟩
theorem spot_cells {w : World} {g o : Nat} {l : List (ByteArray × Int)} (h : Cells w (some ⟨g, o, none⟩) (l.flatMap encSpot)) {k : Nat} {x : ByteArray × Int} (hk : l[k]? = some x) : (loadVar 105 ⟨g, o + k * 2, none⟩).run Tryz.prog w = .ok (.agg #[.string x.1, .int .i64 x.2]) w := by
  refine run_loadAgg (cs := encSpot x) agSpot rfl fun j u hj => ⟨_, rfl, ?_⟩
  have hj2 : j < 2 := (List.getElem?_eq_some_iff.1 hj).1
  have := h.some_ (k * 2 + j) u (by rw [flat_get encSpot 2 l (fun _ => rfl) k j x hk hj2]; exact hj)
  rw [addr_add] at this ⊢
  rw [show o + k * 2 + j = o + (k * 2 + j) by omega]
  exact this
theorem neq_spot (s t : ByteArray) (i j : Int) (w : World) : (binOp .neq 105 (.agg #[.string s, .int .i64 i]) (.agg #[.string t, .int .i64 j])).run Tryz.prog w = .ok (.bool (!(decide ((s, i) = (t, j))))) w := by
  by_cases hs : s = t
  · subst hs
    by_cases hi : i = j
    · subst hi; go_simp
    · go_simp
  · have h2 : ¬ s.toList = t.toList := fun h => hs (toList_inj h)
    go_simp
theorem take_eq_step {l m : List (ByteArray × Int)} {k : Nat} {x : ByteArray × Int} (h : l.take k = m.take k) (hl : l[k]? = some x) (hm : m[k]? = some x) : l.take (k + 1) = m.take (k + 1) := by
  rw [List.take_add_one, List.take_add_one, h, hl, hm]
set_option maxHeartbeats 1000000 in
set_option maxRecDepth 100000 in
theorem spots_equal (E : Env) (q : HP) (A0 A1 : Option Addr) (l0 l1 : List (ByteArray × Int)) (n0 n1 c0 c1 : Nat) (w : World) (e0 : l0.length = n0) (e1 : l1.length = n1) (k0 : n0 ≤ 1000000000) (k1 : n1 ≤ 1000000000)
    (h : ∀ w, Sat E w q → Cells w A0 (l0.flatMap encSpot) ∧ Cells w A1 (l1.flatMap encSpot)) (hw : Sat E w q) :
    Calls Tryz.prog 70 #[.slice A0 n0 c0, .slice A1 n1 c1] w fun e w' => e = .returned (.bool (decide (l0 = l1))) ∧ Sat E w' q := by
  have HW := Aside.mk (And.intro h (And.intro hw (And.intro e0 e1)))
  clear h hw e0 e1
  go_enter Tryz.func70, Tryz.ntmps70
  by_cases hn : n0 = n1
  · subst hn
    go_wp2
    go_loopw [13] (fun v13 wr => ∃ k : Nat, v13 = .int .i64 k ∧ k ≤ n0 ∧ Aside (l0.take k = l1.take k) ∧ Aside (Sat E wr q)) (fun x _ => n0 - (intOf x).toNat)
    case atStart => exact ⟨0, rfl, Nat.zero_le _, ⟨rfl⟩, ⟨HW.out.2.1⟩⟩
    case round =>
      obtain ⟨k, rfl, hk, HT, HS⟩ := hrel
      by_cases hlt : k < n0
      · have hlt2 : (k : Int) < (n0 : Int) := by omega
        have hk2 : (0 : Int) ≤ (k : Int) := by omega
        have hl0 : l0[k]? = some (l0[k]'(by rw [HW.out.2.2.1]; exact hlt)) := List.getElem?_eq_getElem _
        have hl1 : l1[k]? = some (l1[k]'(by rw [HW.out.2.2.2]; exact hlt)) := List.getElem?_eq_getElem _
        generalize l0[k]'(by rw [HW.out.2.2.1]; exact hlt) = x at hl0
        generalize l1[k]'(by rw [HW.out.2.2.2]; exact hlt) = y at hl1
        obtain ⟨c0', c1'⟩ := HW.out.1 wr.drew HS.out.drew
        have hlen0 : 0 < (l0.flatMap encSpot).length := by
          have h1 := flat_get encSpot 2 l0 (fun _ => rfl) k 0 x hl0 (by omega)
          exact Nat.lt_of_le_of_lt (Nat.zero_le _) (List.getElem?_eq_some_iff.1 (h1.trans rfl : _ = some (Value.string x.1))).1
        have hlen1 : 0 < (l1.flatMap encSpot).length := by
          have h1 := flat_get encSpot 2 l1 (fun _ => rfl) k 0 y hl1 (by omega)
          exact Nat.lt_of_le_of_lt (Nat.zero_le _) (List.getElem?_eq_some_iff.1 (h1.trans rfl : _ = some (Value.string y.1))).1
        obtain ⟨a0, rfl, -⟩ := c0'.at_ 0 hlen0
        obtain ⟨a1, rfl, -⟩ := c1'.at_ 0 hlen1
        obtain ⟨g0, o0, rfl⟩ := slice_addr c0' rfl hlen0
        obtain ⟨g1, o1, rfl⟩ := slice_addr c1' rfl hlen1
        have ld0 := spot_cells c0' hl0
        have ld1 := spot_cells c1' hl1
        have HL := Aside.mk (And.intro hl0 hl1)
        have HS2 := Aside.mk HS.out.drew
        clear c0' c1' hlen0 hlen1 hl0 hl1 HS
        obtain ⟨s, i⟩ := x
        obtain ⟨t, j⟩ := y
        dsimp only at ld0 ld1
        go_wp2
        refine region_R [] [] (fun _ => True) #[false, false, false, false, false, false, false, false, false] (by kernel_rfl) rfl rfl ?_
        refine wpR_rd 0 #[true, false, false, false, false, false, false, false, false] rfl onlyN_noPanic (by kernel_rfl) (fun K hK => ?_); (go_simp; try go_bits); refine hK _ ?_; clear hK K
        refine wpR_rd 1 #[true, true, false, false, false, false, false, false, false] rfl onlyN_noPanic (by kernel_rfl) (fun K hK => ?_); (go_simp; try go_bits); refine hK _ ?_; clear hK K
        refine wpR_rd 2 #[true, true, true, false, false, false, false, false, false] rfl onlyN_noPanic (by kernel_rfl) (fun K hK => ?_); (go_simp; try go_bits); refine hK _ ?_; clear hK K
        refine wpR_read (i := 3) #[true, true, true, true, false, false, false, false, false] rfl onlyN_noPanic (by kernel_rfl) (.inl ⟨rfl, exec_load rfl rfl ld0⟩) ?_
        simp only [Act.put, List.setIfInBounds_toArray, List.set_cons_zero, List.set_cons_succ]
        refine wpR_rd 4 #[true, true, true, true, true, false, false, false, false] rfl onlyN_noPanic (by kernel_rfl) (fun K hK => ?_); (go_simp; try go_bits); refine hK _ ?_; clear hK K
        refine wpR_rd 5 #[true, true, true, true, true, true, false, false, false] rfl onlyN_noPanic (by kernel_rfl) (fun K hK => ?_); (go_simp; try go_bits); refine hK _ ?_; clear hK K
        refine wpR_rd 6 #[true, true, true, true, true, true, true, false, false] rfl onlyN_noPanic (by kernel_rfl) (fun K hK => ?_); (go_simp; try go_bits); refine hK _ ?_; clear hK K
        refine wpR_read (i := 7) #[true, true, true, true, true, true, true, true, false] rfl onlyN_noPanic (by kernel_rfl) (.inl ⟨rfl, exec_load rfl rfl ld1⟩) ?_
        simp only [Act.put, List.setIfInBounds_toArray, List.set_cons_zero, List.set_cons_succ]
        refine wpR_read (i := 8) #[true, true, true, true, true, true, true, true, true] rfl onlyN_noPanic (by kernel_rfl) (.inl ⟨rfl, exec_binop rfl rfl rfl (run_eqGuard_agg _ .neq 105 _ _ _ _ (by kernel_rfl)) (neq_spot _ _ _ _ _)⟩) ?_
        simp only [Act.put, List.setIfInBounds_toArray, List.set_cons_zero, List.set_cons_succ]
        refine wpR_done (by kernel_rfl) ?_ _
        simp only [OnlyN]
        by_cases hxy : (s, i) = (t, j)
        · have HT2 : Aside (l0.take (k + 1) = l1.take (k + 1)) := ⟨take_eq_step HT.out HL.out.1 (by rw [hxy]; exact HL.out.2)⟩
          rw [decide_eq_true hxy]
          clear hxy HL HT ld0 ld1
          go_wp2
          go_roundw
          case rel => exact ⟨k + 1, by push_cast; rfl, by omega, HT2, HS2⟩
          case measure => simp [intOf]; omega
        · have HN : Aside (¬ l0 = l1) := ⟨fun he => by
            have h1 := HL.out.1
            rw [he, HL.out.2] at h1
            exact hxy (Option.some.inj h1).symm⟩
          rw [decide_eq_false hxy]
          clear hxy HL HT ld0 ld1
          go_wp2
          go_ret
          rw [decide_eq_false HN.out]
          exact ⟨rfl, HS2.out⟩
      · have hkn : k = n0 := by omega
        subst hkn
        have HE : Aside (l0 = l1) := ⟨by
          have h1 := HT.out
          rw [List.take_of_length_le (by rw [HW.out.2.2.1]; exact Nat.le_refl _), List.take_of_length_le (by rw [HW.out.2.2.2]; exact Nat.le_refl _)] at h1
          exact h1⟩
        clear HT
        go_wp2
        go_ret
        rw [decide_eq_true HE.out]
        exact ⟨rfl, HS.out⟩
  · have HN : Aside (¬ l0 = l1) := ⟨fun he => hn (by rw [← HW.out.2.2.1, ← HW.out.2.2.2, he])⟩
    have hn2 : ¬ (n0 : Int) = (n1 : Int) := by omega
    have hnb : ((n0 : Int) == (n1 : Int)) = false := by rw [beq_eq_false_iff_ne]; exact hn2
    go_wp2
    go_ret
    rw [decide_eq_false HN.out]
    exact ⟨rfl, HW.out.2.1⟩
end Go.Proofs.YtmjnnbnbdcadbaaGreatDoor
/- slices.Equal of texts. -/
namespace Go.Proofs.YtmjnnbnbdcadbaaGreatDoor
open Go.RowKit HP
set_option linter.unusedSimpArgs false
set_option linter.unusedVariables false

theorem take_eq_step1 {α : Type} {l m : List α} {k : Nat} {x : α} (h : l.take k = m.take k) (hl : l[k]? = some x) (hm : m[k]? = some x) : l.take (k + 1) = m.take (k + 1) := by
  rw [List.take_add_one, List.take_add_one, h, hl, hm]
set_option maxHeartbeats 1000000 in
set_option maxRecDepth 100000 in
theorem strs_equal (E : Env) (q : HP) (A0 A1 : Option Addr) (l0 l1 : List ByteArray) (n0 n1 c0 c1 : Nat) (w : World) (e0 : l0.length = n0) (e1 : l1.length = n1) (k0 : n0 ≤ 1000000000) (k1 : n1 ≤ 1000000000)
    (h : ∀ w, Sat E w q → Cells w A0 (l0.map Value.string) ∧ Cells w A1 (l1.map Value.string)) (hw : Sat E w q) :
    Calls Tryz.prog 66 #[.slice A0 n0 c0, .slice A1 n1 c1] w fun e w' => e = .returned (.bool (decide (l0 = l1))) ∧ Sat E w' q := by
  have HW := Aside.mk (And.intro h (And.intro hw (And.intro e0 e1)))
  clear h hw e0 e1
  go_enter Tryz.func66, Tryz.ntmps66
  by_cases hn : n0 = n1
  · subst hn
    go_wp2
    go_loopw [13] (fun v13 wr => ∃ k : Nat, v13 = .int .i64 k ∧ k ≤ n0 ∧ Aside (l0.take k = l1.take k) ∧ Aside (Sat E wr q)) (fun x _ => n0 - (intOf x).toNat)
    case atStart => exact ⟨0, rfl, Nat.zero_le _, ⟨rfl⟩, ⟨HW.out.2.1⟩⟩
    case round =>
      obtain ⟨k, rfl, hk, HT, HS⟩ := hrel
      by_cases hlt : k < n0
      · have hlt2 : (k : Int) < (n0 : Int) := by omega
        have hk2 : (0 : Int) ≤ (k : Int) := by omega
        have hl0 : l0[k]? = some (l0[k]'(by rw [HW.out.2.2.1]; exact hlt)) := List.getElem?_eq_getElem _
        have hl1 : l1[k]? = some (l1[k]'(by rw [HW.out.2.2.2]; exact hlt)) := List.getElem?_eq_getElem _
        generalize l0[k]'(by rw [HW.out.2.2.1]; exact hlt) = x at hl0
        generalize l1[k]'(by rw [HW.out.2.2.2]; exact hlt) = y at hl1
        obtain ⟨c0', c1'⟩ := HW.out.1 wr.drew HS.out.drew
        have g0 : (l0.map Value.string)[k]? = some (.string x) := by rw [List.getElem?_map, hl0]; rfl
        have g1 : (l1.map Value.string)[k]? = some (.string y) := by rw [List.getElem?_map, hl1]; rfl
        obtain ⟨a0, rfl, -⟩ := c0' _ _ g0
        obtain ⟨a1, rfl, -⟩ := c1' _ _ g1
        obtain ⟨g0', o0, rfl⟩ := slice_addr c0' rfl (List.getElem?_eq_some_iff.1 g0).1
        obtain ⟨g1', o1, rfl⟩ := slice_addr c1' rfl (List.getElem?_eq_some_iff.1 g1).1
        have ld0 := c0'.some_ _ _ g0
        have ld1 := c1'.some_ _ _ g1
        rw [addr_add] at ld0 ld1
        have HL := Aside.mk (And.intro hl0 hl1)
        have HS2 := Aside.mk HS.out.drew
        clear c0' c1' g0 g1 hl0 hl1 HS
        by_cases hxy : x = y
        · subst hxy
          have HT2 : Aside (l0.take (k + 1) = l1.take (k + 1)) := ⟨take_eq_step1 HT.out HL.out.1 HL.out.2⟩
          clear HL HT
          go_wp2
          go_region
          all_goals
            go_wp2
            go_roundw
            case rel => exact ⟨k + 1, by push_cast; rfl, by omega, HT2, HS2⟩
            case measure => simp [intOf]; omega
        · have HN : Aside (¬ l0 = l1) := ⟨fun he => by
            have h1 := HL.out.1
            rw [he, HL.out.2] at h1
            exact hxy (Option.some.inj h1).symm⟩
          have hxy2 : (x.toList == y.toList) = false := by
            rw [beq_eq_false_iff_ne]
            exact fun h => hxy (toList_inj h)
          clear HL HT hxy
          go_wp2
          go_region
          all_goals
            go_wp2
            go_ret
            rw [decide_eq_false HN.out]
            exact ⟨rfl, HS2.out⟩
      · have hkn : k = n0 := by omega
        subst hkn
        have HE : Aside (l0 = l1) := ⟨by
          have h1 := HT.out
          rw [List.take_of_length_le (by rw [HW.out.2.2.1]; exact Nat.le_refl _), List.take_of_length_le (by rw [HW.out.2.2.2]; exact Nat.le_refl _)] at h1
          exact h1⟩
        clear HT
        go_wp2
        go_ret
        rw [decide_eq_true HE.out]
        exact ⟨rfl, HS.out⟩
  · have HN : Aside (¬ l0 = l1) := ⟨fun he => hn (by rw [← HW.out.2.2.1, ← HW.out.2.2.2, he])⟩
    have hn2 : ¬ (n0 : Int) = (n1 : Int) := by omega
    have hnb : ((n0 : Int) == (n1 : Int)) = false := by rw [beq_eq_false_iff_ne]; exact hn2
    go_wp2
    go_ret
    rw [decide_eq_false HN.out]
    exact ⟨rfl, HW.out.2.1⟩
end Go.Proofs.YtmjnnbnbdcadbaaGreatDoor
