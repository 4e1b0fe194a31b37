/- Texts of one claim, one behind the other: ScGrW, LaidP, Laid3, StpT. -/
import Derived.Test.YtnpinegpajbkeaaGreatDoorGr14
import Derived.Lib.LaidU8
import Derived.Lib.LaidTab
import Derived.Lib.ItoaNum
set_option linter.unusedSimpArgs false
set_option linter.unusedVariables false
namespace Go.Proofs.YtnpinegpajbkeaaGreatDoor
open Go.RowKit HP
theorem Sat.anyQ_of {E : Env} {w : World} {p q : HP} (h : Sat E w (p * q)) : Sat E w (p * HP.any) := Sat.any_of h
set_option maxHeartbeats 16000000 in
set_option maxRecDepth 100000 in
theorem scrubGroups_ok (E : Env) (q : HP) (l : Sl StepV) (a : Anch) (b : Sl Ftr) (w : World) (hst : Steps q l) (haw : wf64 a.gen ∧ wf64 a.seg ∧ wf64 a.ext) (hb : FtrsIn q b) (hq : ∀ E w, Sat E w q → Lib.TabIs Tryz.prog w "internal/strconv.uint64pow10" .u64 Lib.pow10Tab) (hw : Sat E w q) :
    Calls Tryz.prog 3 #[l.val, .agg #[.int .i64 a.seq, .int .i64 a.gen, .int .i64 a.lsn, .int .i64 a.seg, .int .i64 a.ext, .int .i64 a.flo, .int .i64 a.new, .int .i64 a.keep, .int .i64 a.next, .int .i64 a.cur], b.val] w fun e w' => e = .returned (.bool true) ∧ Sat E w' q := by
  unfold Sl.val
  obtain ⟨seq, gen, lsn, seg, ext, flo, new, keep, next, cur⟩ := a
  dsimp only at *
  have HST := Aside.mk hst
  have HQ := Aside.mk hq
  have HBI := Aside.mk hb
  have HAW := Aside.mk haw
  have hlen3 := hst.len
  unfold maxLen at hlen3
  obtain ⟨n0, hn0e⟩ : ∃ n0, n0 = b.l.length := ⟨_, rfl⟩
  obtain ⟨c0', hc0e⟩ : ∃ c0', c0' = b.cap := ⟨_, rfl⟩
  rw [← hn0e, ← hc0e]
  obtain ⟨m, hm⟩ : ∃ m, m = min n0 8 := ⟨_, rfl⟩
  have hnm : (if 8 < (n0 : Int) then 8 else (n0 : Int)) = (m : Int) := by split <;> omega
  have hnm1 : (min (n0 : Int) 8).toNat = m := by omega
  have hm8 : m ≤ 8 := by omega
  have hmn : m ≤ n0 := by omega
  have hnc : n0 ≤ c0' := by rw [hn0e, hc0e]; exact hb.le
  have hmc : m ≤ c0' := by omega
  have hcm : c0' ≤ maxLen := by rw [hc0e]; exact hb.cap
  unfold maxLen at hcm
  have HM := Aside.mk (And.intro hn0e hc0e)
  obtain ⟨L, hL⟩ : ∃ L, L = b.l.take m := ⟨_, rfl⟩
  have HL : Aside (L.length = m ∧ (∀ f ∈ L, wf64 f.number ∧ wf64 f.bytes) ∧ ∀ E w, Sat E w q → Cells w b.A (L.flatMap Ftr.vals)) := ⟨by rw [hL, List.length_take, ← hn0e]; omega, fun f hf => hb.ok f (List.mem_of_mem_take (by rw [hL] at hf; exact hf)), fun E w h => by
    intro j u hj
    refine hb.cells E w h j u ?_
    have e : b.l = L ++ b.l.drop m := by rw [hL, List.take_append_drop]
    rw [e, List.flatMap_append, List.getElem?_append_left (List.getElem?_eq_some_iff.1 hj).1]
    exact hj⟩
  have h1 := hw.alloc (.cells #[.int .i64 seq, .int .i64 gen, .int .i64 lsn, .int .i64 seg, .int .i64 ext, .int .i64 flo, .int .i64 new, .int .i64 keep, .int .i64 next, .int .i64 cur] 24)
  have H1 := Aside.mk h1
  clear hst hq hb hw haw hn0e hc0e hm hL h1
  go_enter Tryz.func3, Tryz.ntmps3
  go_wp2_with fail
  refine (disks_ok E _ 60 l _ ⟨by omega, by omega⟩ HST.out.mul H1.out).mono ?_
  rintro e w1 ⟨d, y, A, rfl, hb1, hroom, h1⟩
  have HF := Aside.mk h1.disk_fine
  have HX := Aside.mk h1.s3
  obtain ⟨bA, hbA⟩ : ∃ bA, bA = w.heap.size := ⟨_, rfl⟩
  rw [← hbA] at HX ⊢
  have k4 := HX.out.cell 4
  have t4 := HX.out.thaw 4
  simp only [List.getElem?_toArray, List.getElem?_cons_zero, List.getElem?_cons_succ] at k4
  clear h1 hb1 hroom H1 hbA
  obtain ⟨x, hx⟩ : ∃ x, x = fixE ext := ⟨_, rfl⟩
  have hc : ¬ 300 < ext ∨ (300 < ext ∧ ¬ ext ≤ 2147483647) ∨ (300 < ext ∧ ext ≤ 2147483647) := by omega
  rcases hc with he1 | ⟨he1, he2⟩ | ⟨he1, he2⟩
  · obtain rfl : x = ext := by rw [hx]; unfold fixE; rw [if_neg (by omega)]
    have HXX := Aside.mk hx
    have HSX : Aside (Sat E w1 (HP.pt bA (.cells #[.int .i64 seq, .int .i64 gen, .int .i64 lsn, .int .i64 seg, .int .i64 x, .int .i64 flo, .int .i64 new, .int .i64 keep, .int .i64 next, .int .i64 cur] 24) * (HP.disk d A * (HP.rdisk y A * q)))) := ⟨HX.out.perm (by ac_rfl)⟩
    clear hx HX
    obtain ⟨wX, hwX⟩ : ∃ wX : World, wX = w1 := ⟨_, rfl⟩
    subst hwX
    go_wp2_with fail
    clear k4 t4
    have HQX : Aside (Sat E wX (HP.pt bA (.cells #[.int .i64 seq, .int .i64 gen, .int .i64 lsn, .int .i64 seg, .int .i64 x, .int .i64 flo, .int .i64 new, .int .i64 keep, .int .i64 next, .int .i64 cur] 24) * (HP.disk d A * (HP.rdisk y A * q)))) := HSX
    refine (ftr_clone E _ b.A L m c0' _ HL.out.1 (by omega) (fun w h => HL.out.2.2 _ w h.right.right.right) HQX.out).mono ?_
    rintro e w2 ⟨v, rfl, h2⟩
    obtain ⟨V, cv, rfl, -, -⟩ := h2.row_slice
    have H2 : Aside (Sat E w2 (HP.row 33 8 (.slice V m cv) (m) ((fixK L 0).flatMap Ftr.vals) * (HP.pt bA (.cells #[.int .i64 seq, .int .i64 gen, .int .i64 lsn, .int .i64 seg, .int .i64 x, .int .i64 flo, .int .i64 new, .int .i64 keep, .int .i64 next, .int .i64 cur] 24) * (HP.disk d A * (HP.rdisk y A * q))))) := ⟨by rw [fixK_zero]; exact h2⟩
    clear h2 HQX HSX
    go_wp2
    go_loopw [40] (fun v40 wr => ∃ k : Nat, v40 = .int .i64 k ∧ k ≤ m ∧ Aside (Sat E wr (HP.row 33 8 (.slice V m cv) (m) ((fixK L k).flatMap Ftr.vals) * (HP.pt bA (.cells #[.int .i64 seq, .int .i64 gen, .int .i64 lsn, .int .i64 seg, .int .i64 x, .int .i64 flo, .int .i64 new, .int .i64 keep, .int .i64 next, .int .i64 cur] 24) * (HP.disk d A * (HP.rdisk y A * q)))))) (fun i _ => m - (intOf i).toNat)
    case atStart => exact ⟨0, rfl, Nat.zero_le _, H2⟩
    case round =>
      clear H2
      obtain ⟨k, rfl, hk, HS⟩ := hrel
      by_cases hlt : k < m
      · have hlt1 : (k : Int) < (m : Int) := by omega
        have hlt0 : (0 : Int) ≤ (k : Int) := by omega
        obtain ⟨f, hf⟩ : ∃ f, L[k]? = some f := ⟨_, List.getElem?_eq_getElem (by rw [HL.out.1]; exact hlt)⟩
        obtain ⟨g, o, hV, gx⟩ := ftr_at HS.out.row_cells (fixK_get hf)
        subst hV
        have c0 : wr.cell? ⟨g, o + k * 8, none⟩ = some (.int .i64 f.number) := gx 0 _ rfl
        have c1 : wr.cell? ⟨g, o + k * 8 + 1, none⟩ = some (.int .i64 f.gen) := gx 1 _ rfl
        have c2 : wr.cell? ⟨g, o + k * 8 + 2, none⟩ = some (.int .i64 f.level) := gx 2 _ rfl
        have c3 : wr.cell? ⟨g, o + k * 8 + 3, none⟩ = some (.int .i64 f.rank) := gx 3 _ rfl
        have c4 : wr.cell? ⟨g, o + k * 8 + 4, none⟩ = some (.int .i64 f.mn) := gx 4 _ rfl
        have c5 : wr.cell? ⟨g, o + k * 8 + 5, none⟩ = some (.int .i64 f.mx) := gx 5 _ rfl
        have c6 : wr.cell? ⟨g, o + k * 8 + 6, none⟩ = some (.int .i64 f.bytes) := gx 6 _ rfl
        have c7 : wr.cell? ⟨g, o + k * 8 + 7, none⟩ = some (.slice f.pA f.pn f.pc) := gx 7 _ rfl
        have H3 := (HS.out.alloc (.cells #[.int .i64 f.number, .int .i64 f.gen, .int .i64 f.level, .int .i64 f.rank, .int .i64 f.mn, .int .i64 f.mx, .int .i64 f.bytes, .slice f.pA f.pn f.pc] 33)).right
        have hlen : k * 8 + 6 < ((fixK L k).flatMap Ftr.vals).length := by rw [ftr_length, fixK_length, HL.out.1]; omega
        have t6 := H3.row_thaw (k * 8 + 6) hlen
        have s6 := H3.row_set (k * 8 + 6) hlen (.int .i64 (f.bytes % 20000))
        rw [flat_set6 _ _ _ _ (fixK_get hf)] at s6
        rw [← Nat.add_assoc] at t6 s6
        have g6 : (wr.alloc (.cells #[.int .i64 f.number, .int .i64 f.gen, .int .i64 f.level, .int .i64 f.rank, .int .i64 f.mn, .int .i64 f.mx, .int .i64 f.bytes, .slice f.pA f.pn f.pc] 33)).cell? ⟨g, o + k * 8 + 6, none⟩ = some (.int .i64 f.bytes) := Lib.cell?_alloc_some _ c6
        have HFS := Aside.mk (fixK_step hf)
        have HFN := Aside.mk (fixK_same hf)
        have HX3 := Aside.mk H3
        have HS6 := Aside.mk s6
        have HFX : Aside (f.fix = if 20000 < f.bytes ∧ f.bytes ≤ 2147483647 then { f with bytes := f.bytes % 20000 } else f) := ⟨rfl⟩
        clear hf gx HS H3 s6 hlen
        have hcb : ¬ 20000 < f.bytes ∨ (20000 < f.bytes ∧ ¬ f.bytes ≤ 2147483647) ∨ (20000 < f.bytes ∧ f.bytes ≤ 2147483647) := by omega
        rcases hcb with b1 | ⟨b1, b2⟩ | ⟨b1, b2⟩
        · have H4 : Aside (Sat E (wr.alloc (.cells #[.int .i64 f.number, .int .i64 f.gen, .int .i64 f.level, .int .i64 f.rank, .int .i64 f.mn, .int .i64 f.mx, .int .i64 f.bytes, .slice f.pA f.pn f.pc] 33)) (HP.row 33 8 (.slice (some ⟨g, o, none⟩) m cv) (m) ((fixK L (k + 1)).flatMap Ftr.vals) * (HP.pt bA (.cells #[.int .i64 seq, .int .i64 gen, .int .i64 lsn, .int .i64 seg, .int .i64 x, .int .i64 flo, .int .i64 new, .int .i64 keep, .int .i64 next, .int .i64 cur] 24) * (HP.disk d A * (HP.rdisk y A * q))))) := ⟨by rw [HFN.out (by rw [HFX.out, if_neg (by omega)])]; exact HX3.out⟩
          clear HS6 HX3 HFS HFN HFX t6 g6
          go_wp2
          go_roundw
          case rel => exact ⟨k + 1, by go_num, by omega, H4⟩
          case measure => simp [intOf]; omega
        · have H4 : Aside (Sat E (wr.alloc (.cells #[.int .i64 f.number, .int .i64 f.gen, .int .i64 f.level, .int .i64 f.rank, .int .i64 f.mn, .int .i64 f.mx, .int .i64 f.bytes, .slice f.pA f.pn f.pc] 33)) (HP.row 33 8 (.slice (some ⟨g, o, none⟩) m cv) (m) ((fixK L (k + 1)).flatMap Ftr.vals) * (HP.pt bA (.cells #[.int .i64 seq, .int .i64 gen, .int .i64 lsn, .int .i64 seg, .int .i64 x, .int .i64 flo, .int .i64 new, .int .i64 keep, .int .i64 next, .int .i64 cur] 24) * (HP.disk d A * (HP.rdisk y A * q))))) := ⟨by rw [HFN.out (by rw [HFX.out, if_neg (by omega)])]; exact HX3.out⟩
          clear HS6 HX3 HFS HFN HFX t6 g6
          go_wp2
          go_roundw
          case rel => exact ⟨k + 1, by go_num, by omega, H4⟩
          case measure => simp [intOf]; omega
        · have H4 : Aside (Sat E ((wr.alloc (.cells #[.int .i64 f.number, .int .i64 f.gen, .int .i64 f.level, .int .i64 f.rank, .int .i64 f.mn, .int .i64 f.mx, .int .i64 f.bytes, .slice f.pA f.pn f.pc] 33)).setCell ⟨g, o + k * 8 + 6, none⟩ (.int .i64 (f.bytes % 20000))) (HP.row 33 8 (.slice (some ⟨g, o, none⟩) m cv) (m) ((fixK L (k + 1)).flatMap Ftr.vals) * (HP.pt bA (.cells #[.int .i64 seq, .int .i64 gen, .int .i64 lsn, .int .i64 seg, .int .i64 x, .int .i64 flo, .int .i64 new, .int .i64 keep, .int .i64 next, .int .i64 cur] 24) * (HP.disk d A * (HP.rdisk y A * q))))) := ⟨by rw [HFS.out, HFX.out, if_pos ⟨b1, b2⟩]; exact HS6.out⟩
          have hmod : f.bytes.tmod 20000 = f.bytes % 20000 := Int.tmod_eq_emod_of_nonneg (by omega)
          clear HS6 HX3 HFS HFN HFX
          go_wp2
          go_roundw
          case rel => exact ⟨k + 1, by go_num, by omega, H4⟩
          case measure => simp [intOf]; omega
      · obtain rfl : m = k := by omega
        have hmm : ¬ (m : Int) < (m : Int) := by omega
        obtain ⟨LF, hLF⟩ : ∃ LF, LF = L.map Ftr.fix := ⟨_, rfl⟩
        have hLe : fixK L m = LF := by
          unfold fixK
          rw [List.take_of_length_le (by rw [HL.out.1]; exact Nat.le_refl _), List.drop_of_length_le (by rw [HL.out.1]; exact Nat.le_refl _), List.append_nil, hLF]
        have hs := HS.out
        rw [hLe] at hs
        have HLF : Aside (LF.length = m ∧ (∀ f ∈ LF, wf64 f.number ∧ wf64 f.bytes) ∧ (groupsG A ⟨seq, gen, lsn, seg, x, flo, new, keep, next, cur⟩ LF).length ≤ 4000000) := ⟨by rw [hLF, List.length_map, HL.out.1], fun f hf => by
          rw [hLF] at hf
          obtain ⟨f0, h0, rfl⟩ := List.mem_map.1 hf
          exact fix_wf (HL.out.2.1 f0 h0), groupsG_few HF.out (fun h => by
            have h : x ≤ 2147483647 := h
            show x ≤ 300
            rw [HXX.out] at h ⊢
            unfold fixE at h ⊢
            split
            · omega
            · rename_i h9
              rw [if_neg h9] at h
              omega) (by rw [hLF, List.length_map, HL.out.1]; exact hm8) fun f hf ho => by
            rw [hLF] at hf
            obtain ⟨f0, h0, rfl⟩ := List.mem_map.1 hf
            exact fix_ok ho⟩
        obtain ⟨gg, hgg⟩ : ∃ gg, gg = groupsG A ⟨seq, gen, lsn, seg, x, flo, new, keep, next, cur⟩ LF := ⟨_, rfl⟩
        have HGL : Aside (gg.length ≤ 4000000) := ⟨by rw [hgg]; exact HLF.out.2.2⟩
        have HG1 := fun E q w h1 h2 => Aside.mk (scrub_groups E q d A ⟨seq, gen, lsn, seg, x, flo, new, keep, next, cur⟩ LF V m cv w HLF.out.1 (by omega) HAW.out.1 HAW.out.2.1 HLF.out.2.1 HLF.out.2.2 h1 h2)
        have HG2 := fun E q w h1 h2 => Aside.mk (ref20_groups E q y A ⟨seq, gen, lsn, seg, x, flo, new, keep, next, cur⟩ LF V m cv w HLF.out.1 (by omega) HAW.out.1 HAW.out.2.1 HLF.out.2.1 HLF.out.2.2 h1 h2)
        rw [← hgg] at HG1 HG2
        have HSB : Aside (Sat E wr (HP.pt bA (.cells #[.int .i64 seq, .int .i64 gen, .int .i64 lsn, .int .i64 seg, .int .i64 x, .int .i64 flo, .int .i64 new, .int .i64 keep, .int .i64 next, .int .i64 cur] 24) * (HP.row 33 8 (.slice V m cv) (m) ((LF).flatMap Ftr.vals) * (HP.disk d A * (HP.rdisk y A * q))))) := ⟨hs.s2⟩
        have HD := Aside.mk HSB.out.drew
        clear HS hs hLe hLF hgg HSB
        have a0 := HD.out.cell 0
        have a1 := HD.out.cell 1
        have a2 := HD.out.cell 2
        have a3 := HD.out.cell 3
        have a4 := HD.out.cell 4
        have a5 := HD.out.cell 5
        have a6 := HD.out.cell 6
        have a7 := HD.out.cell 7
        have a8 := HD.out.cell 8
        have a9 := HD.out.cell 9
        simp only [List.getElem?_toArray, List.getElem?_cons_zero, List.getElem?_cons_succ] at a0 a1 a2 a3 a4 a5 a6 a7 a8 a9
        go_wp2
        refine region_R [3, 7, 8, 10] [3] (fun W => Sat E W (HP.pt bA (.cells #[.int .i64 seq, .int .i64 gen, .int .i64 lsn, .int .i64 seg, .int .i64 x, .int .i64 flo, .int .i64 new, .int .i64 keep, .int .i64 next, .int .i64 cur] 24) * HP.any)) #[false, false, false, false, false, false, false, false, false, false, false, false, false] (by kernel_rfl) rfl rfl ?_
        refine wpR_rd 0 #[true, false, false, false, false, false, false, false, false, false, false, false, false] rfl onlyN_noPanic (by kernel_rfl) (fun K hK => ?_); (go_simp; try go_bits); refine hK _ ?_; clear hK K
        refine wpR_rd 1 #[true, true, false, false, false, false, false, false, false, false, false, false, false] rfl onlyN_noPanic (by kernel_rfl) (fun K hK => ?_); (go_simp; try go_bits); refine hK _ ?_; clear hK K
        refine wpR_rd 2 #[true, true, true, false, false, false, false, false, false, false, false, false, false] rfl onlyN_noPanic (by kernel_rfl) (fun K hK => ?_); (go_simp; try go_bits); refine hK _ ?_; clear hK K
        refine wpR_pu 4 #[true, true, true, false, true, false, false, false, false, false, false, false, false] rfl onlyN_noPanic (by kernel_rfl) (fun K hK => ?_); (go_simp; try go_bits); refine hK _ ?_; clear hK K
        refine wpR_held (i := 5) (v := .agg #[.int .i64 seq, .int .i64 gen, .int .i64 lsn, .int .i64 seg, .int .i64 x, .int .i64 flo, .int .i64 new, .int .i64 keep, .int .i64 next, .int .i64 cur]) #[true, true, true, false, true, true, false, false, false, false, false, false, false] rfl onlyN_noPanic (by kernel_rfl) (Sat.anyQ_of HD.out) (.inl ⟨rfl, fun w' hT => ?_⟩) ?_
        · have f := fun j => hT.cell j
          have a0 := f 0
          have a1 := f 1
          have a2 := f 2
          have a3 := f 3
          have a4 := f 4
          have a5 := f 5
          have a6 := f 6
          have a7 := f 7
          have a8 := f 8
          have a9 := f 9
          simp only [List.getElem?_toArray, List.getElem?_cons_zero, List.getElem?_cons_succ] at a0 a1 a2 a3 a4 a5 a6 a7 a8 a9
          go_simp
        simp only [Act.put, List.setIfInBounds_toArray, List.set_cons_zero, List.set_cons_succ]
        refine wpR_pu 6 #[true, true, true, false, true, true, true, false, false, false, false, false, false] rfl onlyN_noPanic (by kernel_rfl) (fun K hK => ?_); (go_simp; try go_bits); refine hK _ ?_; clear hK K
        refine wpR_keep #[true, true, true, true, true, true, true, false, false, false, false, false, false] (i := 3) rfl (by kernel_rfl) (fun K hK => ?_)
        go_simp
        refine (HG1 E _ _ (fun w h => ⟨HQ.out _ w h.right.right.right, h.right.row_cells⟩) (HD.out.perm (by ac_rfl : _ = HP.disk d A * (HP.pt bA (.cells #[.int .i64 seq, .int .i64 gen, .int .i64 lsn, .int .i64 seg, .int .i64 x, .int .i64 flo, .int .i64 new, .int .i64 keep, .int .i64 next, .int .i64 cur] 24) * (HP.row 33 8 (.slice V m cv) (m) ((LF).flatMap Ftr.vals) * (HP.rdisk y A * q))))) ).out.mono ?_
        rintro e w3 ⟨v3, rfl, h3⟩
        have h3T : Sat E w3 (HP.pt bA (.cells #[.int .i64 seq, .int .i64 gen, .int .i64 lsn, .int .i64 seg, .int .i64 x, .int .i64 flo, .int .i64 new, .int .i64 keep, .int .i64 next, .int .i64 cur] 24) * (HP.row 37 4 v3 (gg.length) ((gg).flatMap Sgp.vals) * (HP.disk d A * (HP.row 33 8 (.slice V m cv) (m) ((LF).flatMap Ftr.vals) * (HP.rdisk y A * q))))) := h3.perm (by ac_rfl)
        refine hK _ _ (Sat.anyQ_of h3T) ?_
        clear hK K h3T
        obtain ⟨V3, n3, rfl, -, -⟩ := h3.row_slice
        have HS3 : Aside (Sat E w3 (HP.rdisk y A * (HP.row 37 4 (.slice V3 gg.length n3) (gg.length) ((gg).flatMap Sgp.vals) * (HP.row 33 8 (.slice V m cv) (m) ((LF).flatMap Ftr.vals) * q)))) := ⟨(h3.perm (by ac_rfl : _ = HP.disk d A * (HP.pt bA (.cells #[.int .i64 seq, .int .i64 gen, .int .i64 lsn, .int .i64 seg, .int .i64 x, .int .i64 flo, .int .i64 new, .int .i64 keep, .int .i64 next, .int .i64 cur] 24) * (HP.rdisk y A * (HP.row 37 4 (.slice V3 gg.length n3) (gg.length) ((gg).flatMap Sgp.vals) * (HP.row 33 8 (.slice V m cv) (m) ((LF).flatMap Ftr.vals) * q)))))).right.right⟩
        clear h3 HD a0 a1 a2 a3 a4 a5 a6 a7 a8 a9
        refine wpR_eff #[true, true, true, true, true, true, true, true, false, false, false, false, false] (i := 7) rfl (by kernel_rfl) (fun K hK => ?_)
        go_simp
        refine (HG2 E _ _ (fun w h => h.right.row_cells) HS3.out).out.mono ?_
        rintro e w4 ⟨v4, rfl, h4⟩
        refine hK _ _ ?_
        clear hK K
        obtain ⟨V4, n4, rfl, -, -⟩ := h4.row_slice
        have HS4 : Aside (Sat E w4 (HP.row 37 4 (.slice V4 gg.length n4) (gg.length) ((gg).flatMap Sgp.vals) * (HP.row 37 4 (.slice V3 gg.length n3) (gg.length) ((gg).flatMap Sgp.vals) * q))) := ⟨(h4.perm (by ac_rfl : _ = HP.rdisk y A * (HP.row 33 8 (.slice V m cv) (m) ((LF).flatMap Ftr.vals) * (HP.row 37 4 (.slice V4 gg.length n4) (gg.length) ((gg).flatMap Sgp.vals) * (HP.row 37 4 (.slice V3 gg.length n3) (gg.length) ((gg).flatMap Sgp.vals) * q))))).right.right⟩
        clear h4 HS3
        refine wpR_eff #[true, true, true, true, true, true, true, true, true, false, false, false, false] (i := 8) rfl (by kernel_rfl) (fun K hK => ?_)
        go_simp
        refine (grps_equal E _ V3 V4 gg gg.length n3 n4 _ rfl (by have := HGL.out; omega) (fun w h => ⟨h.right.row_cells, h.row_cells⟩) HS4.out).mono ?_
        rintro e w5 ⟨rfl, h5⟩
        refine hK _ _ ?_
        clear hK K
        have HS5 := Aside.mk h5.right.right
        clear h5 HS4
        refine wpR_rd 9 #[true, true, true, true, true, true, true, true, true, true, false, false, false] rfl onlyN_noPanic (by kernel_rfl) (fun K hK => ?_); (go_simp; try go_bits); refine hK _ ?_; clear hK K
        refine wpR_eff #[true, true, true, true, true, true, true, true, true, true, true, false, false] (i := 10) rfl (by kernel_rfl) (fun K hK => ?_)
        go_simp
        refine (awake20_ok E q _ (fun w h => HQ.out _ w h) HS5.out).mono ?_
        rintro e w6 ⟨rfl, h6⟩
        refine hK _ _ ?_
        clear hK K
        have HS6 := Aside.mk h6
        clear h6 HS5
        refine wpR_rd 11 #[true, true, true, true, true, true, true, true, true, true, true, true, false] rfl onlyN_noPanic (by kernel_rfl) (fun K hK => ?_); (go_simp; try go_bits); refine hK _ ?_; clear hK K
        refine wpR_rd 12 #[true, true, true, true, true, true, true, true, true, true, true, true, true] rfl onlyN_noPanic (by kernel_rfl) (fun K hK => ?_); (go_simp; try go_bits); refine hK _ ?_; clear hK K
        refine wpR_done (by kernel_rfl) ?_ _
        simp only [OnlyN]
        go_wp2
        go_ret
        exact ⟨rfl, HS6.out⟩
  · obtain rfl : x = ext := by rw [hx]; unfold fixE; rw [if_neg (by omega)]
    have HXX := Aside.mk hx
    have HSX : Aside (Sat E w1 (HP.pt bA (.cells #[.int .i64 seq, .int .i64 gen, .int .i64 lsn, .int .i64 seg, .int .i64 x, .int .i64 flo, .int .i64 new, .int .i64 keep, .int .i64 next, .int .i64 cur] 24) * (HP.disk d A * (HP.rdisk y A * q)))) := ⟨HX.out.perm (by ac_rfl)⟩
    clear hx HX
    obtain ⟨wX, hwX⟩ : ∃ wX : World, wX = w1 := ⟨_, rfl⟩
    subst hwX
    go_wp2_with fail
    clear k4 t4
    have HQX : Aside (Sat E wX (HP.pt bA (.cells #[.int .i64 seq, .int .i64 gen, .int .i64 lsn, .int .i64 seg, .int .i64 x, .int .i64 flo, .int .i64 new, .int .i64 keep, .int .i64 next, .int .i64 cur] 24) * (HP.disk d A * (HP.rdisk y A * q)))) := HSX
    refine (ftr_clone E _ b.A L m c0' _ HL.out.1 (by omega) (fun w h => HL.out.2.2 _ w h.right.right.right) HQX.out).mono ?_
    rintro e w2 ⟨v, rfl, h2⟩
    obtain ⟨V, cv, rfl, -, -⟩ := h2.row_slice
    have H2 : Aside (Sat E w2 (HP.row 33 8 (.slice V m cv) (m) ((fixK L 0).flatMap Ftr.vals) * (HP.pt bA (.cells #[.int .i64 seq, .int .i64 gen, .int .i64 lsn, .int .i64 seg, .int .i64 x, .int .i64 flo, .int .i64 new, .int .i64 keep, .int .i64 next, .int .i64 cur] 24) * (HP.disk d A * (HP.rdisk y A * q))))) := ⟨by rw [fixK_zero]; exact h2⟩
    clear h2 HQX HSX
    go_wp2
    go_loopw [40] (fun v40 wr => ∃ k : Nat, v40 = .int .i64 k ∧ k ≤ m ∧ Aside (Sat E wr (HP.row 33 8 (.slice V m cv) (m) ((fixK L k).flatMap Ftr.vals) * (HP.pt bA (.cells #[.int .i64 seq, .int .i64 gen, .int .i64 lsn, .int .i64 seg, .int .i64 x, .int .i64 flo, .int .i64 new, .int .i64 keep, .int .i64 next, .int .i64 cur] 24) * (HP.disk d A * (HP.rdisk y A * q)))))) (fun i _ => m - (intOf i).toNat)
    case atStart => exact ⟨0, rfl, Nat.zero_le _, H2⟩
    case round =>
      clear H2
      obtain ⟨k, rfl, hk, HS⟩ := hrel
      by_cases hlt : k < m
      · have hlt1 : (k : Int) < (m : Int) := by omega
        have hlt0 : (0 : Int) ≤ (k : Int) := by omega
        obtain ⟨f, hf⟩ : ∃ f, L[k]? = some f := ⟨_, List.getElem?_eq_getElem (by rw [HL.out.1]; exact hlt)⟩
        obtain ⟨g, o, hV, gx⟩ := ftr_at HS.out.row_cells (fixK_get hf)
        subst hV
        have c0 : wr.cell? ⟨g, o + k * 8, none⟩ = some (.int .i64 f.number) := gx 0 _ rfl
        have c1 : wr.cell? ⟨g, o + k * 8 + 1, none⟩ = some (.int .i64 f.gen) := gx 1 _ rfl
        have c2 : wr.cell? ⟨g, o + k * 8 + 2, none⟩ = some (.int .i64 f.level) := gx 2 _ rfl
        have c3 : wr.cell? ⟨g, o + k * 8 + 3, none⟩ = some (.int .i64 f.rank) := gx 3 _ rfl
        have c4 : wr.cell? ⟨g, o + k * 8 + 4, none⟩ = some (.int .i64 f.mn) := gx 4 _ rfl
        have c5 : wr.cell? ⟨g, o + k * 8 + 5, none⟩ = some (.int .i64 f.mx) := gx 5 _ rfl
        have c6 : wr.cell? ⟨g, o + k * 8 + 6, none⟩ = some (.int .i64 f.bytes) := gx 6 _ rfl
        have c7 : wr.cell? ⟨g, o + k * 8 + 7, none⟩ = some (.slice f.pA f.pn f.pc) := gx 7 _ rfl
        have H3 := (HS.out.alloc (.cells #[.int .i64 f.number, .int .i64 f.gen, .int .i64 f.level, .int .i64 f.rank, .int .i64 f.mn, .int .i64 f.mx, .int .i64 f.bytes, .slice f.pA f.pn f.pc] 33)).right
        have hlen : k * 8 + 6 < ((fixK L k).flatMap Ftr.vals).length := by rw [ftr_length, fixK_length, HL.out.1]; omega
        have t6 := H3.row_thaw (k * 8 + 6) hlen
        have s6 := H3.row_set (k * 8 + 6) hlen (.int .i64 (f.bytes % 20000))
        rw [flat_set6 _ _ _ _ (fixK_get hf)] at s6
        rw [← Nat.add_assoc] at t6 s6
        have g6 : (wr.alloc (.cells #[.int .i64 f.number, .int .i64 f.gen, .int .i64 f.level, .int .i64 f.rank, .int .i64 f.mn, .int .i64 f.mx, .int .i64 f.bytes, .slice f.pA f.pn f.pc] 33)).cell? ⟨g, o + k * 8 + 6, none⟩ = some (.int .i64 f.bytes) := Lib.cell?_alloc_some _ c6
        have HFS := Aside.mk (fixK_step hf)
        have HFN := Aside.mk (fixK_same hf)
        have HX3 := Aside.mk H3
        have HS6 := Aside.mk s6
        have HFX : Aside (f.fix = if 20000 < f.bytes ∧ f.bytes ≤ 2147483647 then { f with bytes := f.bytes % 20000 } else f) := ⟨rfl⟩
        clear hf gx HS H3 s6 hlen
        have hcb : ¬ 20000 < f.bytes ∨ (20000 < f.bytes ∧ ¬ f.bytes ≤ 2147483647) ∨ (20000 < f.bytes ∧ f.bytes ≤ 2147483647) := by omega
        rcases hcb with b1 | ⟨b1, b2⟩ | ⟨b1, b2⟩
        · have H4 : Aside (Sat E (wr.alloc (.cells #[.int .i64 f.number, .int .i64 f.gen, .int .i64 f.level, .int .i64 f.rank, .int .i64 f.mn, .int .i64 f.mx, .int .i64 f.bytes, .slice f.pA f.pn f.pc] 33)) (HP.row 33 8 (.slice (some ⟨g, o, none⟩) m cv) (m) ((fixK L (k + 1)).flatMap Ftr.vals) * (HP.pt bA (.cells #[.int .i64 seq, .int .i64 gen, .int .i64 lsn, .int .i64 seg, .int .i64 x, .int .i64 flo, .int .i64 new, .int .i64 keep, .int .i64 next, .int .i64 cur] 24) * (HP.disk d A * (HP.rdisk y A * q))))) := ⟨by rw [HFN.out (by rw [HFX.out, if_neg (by omega)])]; exact HX3.out⟩
          clear HS6 HX3 HFS HFN HFX t6 g6
          go_wp2
          go_roundw
          case rel => exact ⟨k + 1, by go_num, by omega, H4⟩
          case measure => simp [intOf]; omega
        · have H4 : Aside (Sat E (wr.alloc (.cells #[.int .i64 f.number, .int .i64 f.gen, .int .i64 f.level, .int .i64 f.rank, .int .i64 f.mn, .int .i64 f.mx, .int .i64 f.bytes, .slice f.pA f.pn f.pc] 33)) (HP.row 33 8 (.slice (some ⟨g, o, none⟩) m cv) (m) ((fixK L (k + 1)).flatMap Ftr.vals) * (HP.pt bA (.cells #[.int .i64 seq, .int .i64 gen, .int .i64 lsn, .int .i64 seg, .int .i64 x, .int .i64 flo, .int .i64 new, .int .i64 keep, .int .i64 next, .int .i64 cur] 24) * (HP.disk d A * (HP.rdisk y A * q))))) := ⟨by rw [HFN.out (by rw [HFX.out, if_neg (by omega)])]; exact HX3.out⟩
          clear HS6 HX3 HFS HFN HFX t6 g6
          go_wp2
          go_roundw
          case rel => exact ⟨k + 1, by go_num, by omega, H4⟩
          case measure => simp [intOf]; omega
        · have H4 : Aside (Sat E ((wr.alloc (.cells #[.int .i64 f.number, .int .i64 f.gen, .int .i64 f.level, .int .i64 f.rank, .int .i64 f.mn, .int .i64 f.mx, .int .i64 f.bytes, .slice f.pA f.pn f.pc] 33)).setCell ⟨g, o + k * 8 + 6, none⟩ (.int .i64 (f.bytes % 20000))) (HP.row 33 8 (.slice (some ⟨g, o, none⟩) m cv) (m) ((fixK L (k + 1)).flatMap Ftr.vals) * (HP.pt bA (.cells #[.int .i64 seq, .int .i64 gen, .int .i64 lsn, .int .i64 seg, .int .i64 x, .int .i64 flo, .int .i64 new, .int .i64 keep, .int .i64 next, .int .i64 cur] 24) * (HP.disk d A * (HP.rdisk y A * q))))) := ⟨by rw [HFS.out, HFX.out, if_pos ⟨b1, b2⟩]; exact HS6.out⟩
          have hmod : f.bytes.tmod 20000 = f.bytes % 20000 := Int.tmod_eq_emod_of_nonneg (by omega)
          clear HS6 HX3 HFS HFN HFX
          go_wp2
          go_roundw
          case rel => exact ⟨k + 1, by go_num, by omega, H4⟩
          case measure => simp [intOf]; omega
      · obtain rfl : m = k := by omega
        have hmm : ¬ (m : Int) < (m : Int) := by omega
        obtain ⟨LF, hLF⟩ : ∃ LF, LF = L.map Ftr.fix := ⟨_, rfl⟩
        have hLe : fixK L m = LF := by
          unfold fixK
          rw [List.take_of_length_le (by rw [HL.out.1]; exact Nat.le_refl _), List.drop_of_length_le (by rw [HL.out.1]; exact Nat.le_refl _), List.append_nil, hLF]
        have hs := HS.out
        rw [hLe] at hs
        have HLF : Aside (LF.length = m ∧ (∀ f ∈ LF, wf64 f.number ∧ wf64 f.bytes) ∧ (groupsG A ⟨seq, gen, lsn, seg, x, flo, new, keep, next, cur⟩ LF).length ≤ 4000000) := ⟨by rw [hLF, List.length_map, HL.out.1], fun f hf => by
          rw [hLF] at hf
          obtain ⟨f0, h0, rfl⟩ := List.mem_map.1 hf
          exact fix_wf (HL.out.2.1 f0 h0), groupsG_few HF.out (fun h => by
            have h : x ≤ 2147483647 := h
            show x ≤ 300
            rw [HXX.out] at h ⊢
            unfold fixE at h ⊢
            split
            · omega
            · rename_i h9
              rw [if_neg h9] at h
              omega) (by rw [hLF, List.length_map, HL.out.1]; exact hm8) fun f hf ho => by
            rw [hLF] at hf
            obtain ⟨f0, h0, rfl⟩ := List.mem_map.1 hf
            exact fix_ok ho⟩
        obtain ⟨gg, hgg⟩ : ∃ gg, gg = groupsG A ⟨seq, gen, lsn, seg, x, flo, new, keep, next, cur⟩ LF := ⟨_, rfl⟩
        have HGL : Aside (gg.length ≤ 4000000) := ⟨by rw [hgg]; exact HLF.out.2.2⟩
        have HG1 := fun E q w h1 h2 => Aside.mk (scrub_groups E q d A ⟨seq, gen, lsn, seg, x, flo, new, keep, next, cur⟩ LF V m cv w HLF.out.1 (by omega) HAW.out.1 HAW.out.2.1 HLF.out.2.1 HLF.out.2.2 h1 h2)
        have HG2 := fun E q w h1 h2 => Aside.mk (ref20_groups E q y A ⟨seq, gen, lsn, seg, x, flo, new, keep, next, cur⟩ LF V m cv w HLF.out.1 (by omega) HAW.out.1 HAW.out.2.1 HLF.out.2.1 HLF.out.2.2 h1 h2)
        rw [← hgg] at HG1 HG2
        have HSB : Aside (Sat E wr (HP.pt bA (.cells #[.int .i64 seq, .int .i64 gen, .int .i64 lsn, .int .i64 seg, .int .i64 x, .int .i64 flo, .int .i64 new, .int .i64 keep, .int .i64 next, .int .i64 cur] 24) * (HP.row 33 8 (.slice V m cv) (m) ((LF).flatMap Ftr.vals) * (HP.disk d A * (HP.rdisk y A * q))))) := ⟨hs.s2⟩
        have HD := Aside.mk HSB.out.drew
        clear HS hs hLe hLF hgg HSB
        have a0 := HD.out.cell 0
        have a1 := HD.out.cell 1
        have a2 := HD.out.cell 2
        have a3 := HD.out.cell 3
        have a4 := HD.out.cell 4
        have a5 := HD.out.cell 5
        have a6 := HD.out.cell 6
        have a7 := HD.out.cell 7
        have a8 := HD.out.cell 8
        have a9 := HD.out.cell 9
        simp only [List.getElem?_toArray, List.getElem?_cons_zero, List.getElem?_cons_succ] at a0 a1 a2 a3 a4 a5 a6 a7 a8 a9
        go_wp2
        refine region_R [3, 7, 8, 10] [3] (fun W => Sat E W (HP.pt bA (.cells #[.int .i64 seq, .int .i64 gen, .int .i64 lsn, .int .i64 seg, .int .i64 x, .int .i64 flo, .int .i64 new, .int .i64 keep, .int .i64 next, .int .i64 cur] 24) * HP.any)) #[false, false, false, false, false, false, false, false, false, false, false, false, false] (by kernel_rfl) rfl rfl ?_
        refine wpR_rd 0 #[true, false, false, false, false, false, false, false, false, false, false, false, false] rfl onlyN_noPanic (by kernel_rfl) (fun K hK => ?_); (go_simp; try go_bits); refine hK _ ?_; clear hK K
        refine wpR_rd 1 #[true, true, false, false, false, false, false, false, false, false, false, false, false] rfl onlyN_noPanic (by kernel_rfl) (fun K hK => ?_); (go_simp; try go_bits); refine hK _ ?_; clear hK K
        refine wpR_rd 2 #[true, true, true, false, false, false, false, false, false, false, false, false, false] rfl onlyN_noPanic (by kernel_rfl) (fun K hK => ?_); (go_simp; try go_bits); refine hK _ ?_; clear hK K
        refine wpR_pu 4 #[true, true, true, false, true, false, false, false, false, false, false, false, false] rfl onlyN_noPanic (by kernel_rfl) (fun K hK => ?_); (go_simp; try go_bits); refine hK _ ?_; clear hK K
        refine wpR_held (i := 5) (v := .agg #[.int .i64 seq, .int .i64 gen, .int .i64 lsn, .int .i64 seg, .int .i64 x, .int .i64 flo, .int .i64 new, .int .i64 keep, .int .i64 next, .int .i64 cur]) #[true, true, true, false, true, true, false, false, false, false, false, false, false] rfl onlyN_noPanic (by kernel_rfl) (Sat.anyQ_of HD.out) (.inl ⟨rfl, fun w' hT => ?_⟩) ?_
        · have f := fun j => hT.cell j
          have a0 := f 0
          have a1 := f 1
          have a2 := f 2
          have a3 := f 3
          have a4 := f 4
          have a5 := f 5
          have a6 := f 6
          have a7 := f 7
          have a8 := f 8
          have a9 := f 9
          simp only [List.getElem?_toArray, List.getElem?_cons_zero, List.getElem?_cons_succ] at a0 a1 a2 a3 a4 a5 a6 a7 a8 a9
          go_simp
        simp only [Act.put, List.setIfInBounds_toArray, List.set_cons_zero, List.set_cons_succ]
        refine wpR_pu 6 #[true, true, true, false, true, true, true, false, false, false, false, false, false] rfl onlyN_noPanic (by kernel_rfl) (fun K hK => ?_); (go_simp; try go_bits); refine hK _ ?_; clear hK K
        refine wpR_keep #[true, true, true, true, true, true, true, false, false, false, false, false, false] (i := 3) rfl (by kernel_rfl) (fun K hK => ?_)
        go_simp
        refine (HG1 E _ _ (fun w h => ⟨HQ.out _ w h.right.right.right, h.right.row_cells⟩) (HD.out.perm (by ac_rfl : _ = HP.disk d A * (HP.pt bA (.cells #[.int .i64 seq, .int .i64 gen, .int .i64 lsn, .int .i64 seg, .int .i64 x, .int .i64 flo, .int .i64 new, .int .i64 keep, .int .i64 next, .int .i64 cur] 24) * (HP.row 33 8 (.slice V m cv) (m) ((LF).flatMap Ftr.vals) * (HP.rdisk y A * q))))) ).out.mono ?_
        rintro e w3 ⟨v3, rfl, h3⟩
        have h3T : Sat E w3 (HP.pt bA (.cells #[.int .i64 seq, .int .i64 gen, .int .i64 lsn, .int .i64 seg, .int .i64 x, .int .i64 flo, .int .i64 new, .int .i64 keep, .int .i64 next, .int .i64 cur] 24) * (HP.row 37 4 v3 (gg.length) ((gg).flatMap Sgp.vals) * (HP.disk d A * (HP.row 33 8 (.slice V m cv) (m) ((LF).flatMap Ftr.vals) * (HP.rdisk y A * q))))) := h3.perm (by ac_rfl)
        refine hK _ _ (Sat.anyQ_of h3T) ?_
        clear hK K h3T
        obtain ⟨V3, n3, rfl, -, -⟩ := h3.row_slice
        have HS3 : Aside (Sat E w3 (HP.rdisk y A * (HP.row 37 4 (.slice V3 gg.length n3) (gg.length) ((gg).flatMap Sgp.vals) * (HP.row 33 8 (.slice V m cv) (m) ((LF).flatMap Ftr.vals) * q)))) := ⟨(h3.perm (by ac_rfl : _ = HP.disk d A * (HP.pt bA (.cells #[.int .i64 seq, .int .i64 gen, .int .i64 lsn, .int .i64 seg, .int .i64 x, .int .i64 flo, .int .i64 new, .int .i64 keep, .int .i64 next, .int .i64 cur] 24) * (HP.rdisk y A * (HP.row 37 4 (.slice V3 gg.length n3) (gg.length) ((gg).flatMap Sgp.vals) * (HP.row 33 8 (.slice V m cv) (m) ((LF).flatMap Ftr.vals) * q)))))).right.right⟩
        clear h3 HD a0 a1 a2 a3 a4 a5 a6 a7 a8 a9
        refine wpR_eff #[true, true, true, true, true, true, true, true, false, false, false, false, false] (i := 7) rfl (by kernel_rfl) (fun K hK => ?_)
        go_simp
        refine (HG2 E _ _ (fun w h => h.right.row_cells) HS3.out).out.mono ?_
        rintro e w4 ⟨v4, rfl, h4⟩
        refine hK _ _ ?_
        clear hK K
        obtain ⟨V4, n4, rfl, -, -⟩ := h4.row_slice
        have HS4 : Aside (Sat E w4 (HP.row 37 4 (.slice V4 gg.length n4) (gg.length) ((gg).flatMap Sgp.vals) * (HP.row 37 4 (.slice V3 gg.length n3) (gg.length) ((gg).flatMap Sgp.vals) * q))) := ⟨(h4.perm (by ac_rfl : _ = HP.rdisk y A * (HP.row 33 8 (.slice V m cv) (m) ((LF).flatMap Ftr.vals) * (HP.row 37 4 (.slice V4 gg.length n4) (gg.length) ((gg).flatMap Sgp.vals) * (HP.row 37 4 (.slice V3 gg.length n3) (gg.length) ((gg).flatMap Sgp.vals) * q))))).right.right⟩
        clear h4 HS3
        refine wpR_eff #[true, true, true, true, true, true, true, true, true, false, false, false, false] (i := 8) rfl (by kernel_rfl) (fun K hK => ?_)
        go_simp
        refine (grps_equal E _ V3 V4 gg gg.length n3 n4 _ rfl (by have := HGL.out; omega) (fun w h => ⟨h.right.row_cells, h.row_cells⟩) HS4.out).mono ?_
        rintro e w5 ⟨rfl, h5⟩
        refine hK _ _ ?_
        clear hK K
        have HS5 := Aside.mk h5.right.right
        clear h5 HS4
        refine wpR_rd 9 #[true, true, true, true, true, true, true, true, true, true, false, false, false] rfl onlyN_noPanic (by kernel_rfl) (fun K hK => ?_); (go_simp; try go_bits); refine hK _ ?_; clear hK K
        refine wpR_eff #[true, true, true, true, true, true, true, true, true, true, true, false, false] (i := 10) rfl (by kernel_rfl) (fun K hK => ?_)
        go_simp
        refine (awake20_ok E q _ (fun w h => HQ.out _ w h) HS5.out).mono ?_
        rintro e w6 ⟨rfl, h6⟩
        refine hK _ _ ?_
        clear hK K
        have HS6 := Aside.mk h6
        clear h6 HS5
        refine wpR_rd 11 #[true, true, true, true, true, true, true, true, true, true, true, true, false] rfl onlyN_noPanic (by kernel_rfl) (fun K hK => ?_); (go_simp; try go_bits); refine hK _ ?_; clear hK K
        refine wpR_rd 12 #[true, true, true, true, true, true, true, true, true, true, true, true, true] rfl onlyN_noPanic (by kernel_rfl) (fun K hK => ?_); (go_simp; try go_bits); refine hK _ ?_; clear hK K
        refine wpR_done (by kernel_rfl) ?_ _
        simp only [OnlyN]
        go_wp2
        go_ret
        exact ⟨rfl, HS6.out⟩
  · have hx3 : x = ext % 300 := by rw [hx]; unfold fixE; rw [if_pos ⟨he1, he2⟩]
    have HXX := Aside.mk hx
    have hmod : ext.tmod 300 = x := by rw [hx3]; exact Int.tmod_eq_emod_of_nonneg (by omega)
    obtain ⟨wX, hwX⟩ : ∃ wX : World, wX = w1.setCell ⟨bA, 4, none⟩ (.int .i64 x) := ⟨_, rfl⟩
    have HSX : Aside (Sat E wX (HP.pt bA (.cells #[.int .i64 seq, .int .i64 gen, .int .i64 lsn, .int .i64 seg, .int .i64 x, .int .i64 flo, .int .i64 new, .int .i64 keep, .int .i64 next, .int .i64 cur] 24) * (HP.disk d A * (HP.rdisk y A * q)))) := ⟨by
      rw [hwX]
      exact (HX.out.set (i := 4) (.int .i64 x)).perm (by show HP.pt bA (.cells #[.int .i64 seq, .int .i64 gen, .int .i64 lsn, .int .i64 seg, .int .i64 x, .int .i64 flo, .int .i64 new, .int .i64 keep, .int .i64 next, .int .i64 cur] 24) * _ = _; ac_rfl)⟩
    have HWX := Aside.mk hwX
    clear hx hx3 HX hwX
    go_wp2_with fail
    rw [← HWX.out]
    clear k4 t4 hmod HWX
    have HQX : Aside (Sat E wX (HP.pt bA (.cells #[.int .i64 seq, .int .i64 gen, .int .i64 lsn, .int .i64 seg, .int .i64 x, .int .i64 flo, .int .i64 new, .int .i64 keep, .int .i64 next, .int .i64 cur] 24) * (HP.disk d A * (HP.rdisk y A * q)))) := HSX
    refine (ftr_clone E _ b.A L m c0' _ HL.out.1 (by omega) (fun w h => HL.out.2.2 _ w h.right.right.right) HQX.out).mono ?_
    rintro e w2 ⟨v, rfl, h2⟩
    obtain ⟨V, cv, rfl, -, -⟩ := h2.row_slice
    have H2 : Aside (Sat E w2 (HP.row 33 8 (.slice V m cv) (m) ((fixK L 0).flatMap Ftr.vals) * (HP.pt bA (.cells #[.int .i64 seq, .int .i64 gen, .int .i64 lsn, .int .i64 seg, .int .i64 x, .int .i64 flo, .int .i64 new, .int .i64 keep, .int .i64 next, .int .i64 cur] 24) * (HP.disk d A * (HP.rdisk y A * q))))) := ⟨by rw [fixK_zero]; exact h2⟩
    clear h2 HQX HSX
    go_wp2
    go_loopw [40] (fun v40 wr => ∃ k : Nat, v40 = .int .i64 k ∧ k ≤ m ∧ Aside (Sat E wr (HP.row 33 8 (.slice V m cv) (m) ((fixK L k).flatMap Ftr.vals) * (HP.pt bA (.cells #[.int .i64 seq, .int .i64 gen, .int .i64 lsn, .int .i64 seg, .int .i64 x, .int .i64 flo, .int .i64 new, .int .i64 keep, .int .i64 next, .int .i64 cur] 24) * (HP.disk d A * (HP.rdisk y A * q)))))) (fun i _ => m - (intOf i).toNat)
    case atStart => exact ⟨0, rfl, Nat.zero_le _, H2⟩
    case round =>
      clear H2
      obtain ⟨k, rfl, hk, HS⟩ := hrel
      by_cases hlt : k < m
      · have hlt1 : (k : Int) < (m : Int) := by omega
        have hlt0 : (0 : Int) ≤ (k : Int) := by omega
        obtain ⟨f, hf⟩ : ∃ f, L[k]? = some f := ⟨_, List.getElem?_eq_getElem (by rw [HL.out.1]; exact hlt)⟩
        obtain ⟨g, o, hV, gx⟩ := ftr_at HS.out.row_cells (fixK_get hf)
        subst hV
        have c0 : wr.cell? ⟨g, o + k * 8, none⟩ = some (.int .i64 f.number) := gx 0 _ rfl
        have c1 : wr.cell? ⟨g, o + k * 8 + 1, none⟩ = some (.int .i64 f.gen) := gx 1 _ rfl
        have c2 : wr.cell? ⟨g, o + k * 8 + 2, none⟩ = some (.int .i64 f.level) := gx 2 _ rfl
        have c3 : wr.cell? ⟨g, o + k * 8 + 3, none⟩ = some (.int .i64 f.rank) := gx 3 _ rfl
        have c4 : wr.cell? ⟨g, o + k * 8 + 4, none⟩ = some (.int .i64 f.mn) := gx 4 _ rfl
        have c5 : wr.cell? ⟨g, o + k * 8 + 5, none⟩ = some (.int .i64 f.mx) := gx 5 _ rfl
        have c6 : wr.cell? ⟨g, o + k * 8 + 6, none⟩ = some (.int .i64 f.bytes) := gx 6 _ rfl
        have c7 : wr.cell? ⟨g, o + k * 8 + 7, none⟩ = some (.slice f.pA f.pn f.pc) := gx 7 _ rfl
        have H3 := (HS.out.alloc (.cells #[.int .i64 f.number, .int .i64 f.gen, .int .i64 f.level, .int .i64 f.rank, .int .i64 f.mn, .int .i64 f.mx, .int .i64 f.bytes, .slice f.pA f.pn f.pc] 33)).right
        have hlen : k * 8 + 6 < ((fixK L k).flatMap Ftr.vals).length := by rw [ftr_length, fixK_length, HL.out.1]; omega
        have t6 := H3.row_thaw (k * 8 + 6) hlen
        have s6 := H3.row_set (k * 8 + 6) hlen (.int .i64 (f.bytes % 20000))
        rw [flat_set6 _ _ _ _ (fixK_get hf)] at s6
        rw [← Nat.add_assoc] at t6 s6
        have g6 : (wr.alloc (.cells #[.int .i64 f.number, .int .i64 f.gen, .int .i64 f.level, .int .i64 f.rank, .int .i64 f.mn, .int .i64 f.mx, .int .i64 f.bytes, .slice f.pA f.pn f.pc] 33)).cell? ⟨g, o + k * 8 + 6, none⟩ = some (.int .i64 f.bytes) := Lib.cell?_alloc_some _ c6
        have HFS := Aside.mk (fixK_step hf)
        have HFN := Aside.mk (fixK_same hf)
        have HX3 := Aside.mk H3
        have HS6 := Aside.mk s6
        have HFX : Aside (f.fix = if 20000 < f.bytes ∧ f.bytes ≤ 2147483647 then { f with bytes := f.bytes % 20000 } else f) := ⟨rfl⟩
        clear hf gx HS H3 s6 hlen
        have hcb : ¬ 20000 < f.bytes ∨ (20000 < f.bytes ∧ ¬ f.bytes ≤ 2147483647) ∨ (20000 < f.bytes ∧ f.bytes ≤ 2147483647) := by omega
        rcases hcb with b1 | ⟨b1, b2⟩ | ⟨b1, b2⟩
        · have H4 : Aside (Sat E (wr.alloc (.cells #[.int .i64 f.number, .int .i64 f.gen, .int .i64 f.level, .int .i64 f.rank, .int .i64 f.mn, .int .i64 f.mx, .int .i64 f.bytes, .slice f.pA f.pn f.pc] 33)) (HP.row 33 8 (.slice (some ⟨g, o, none⟩) m cv) (m) ((fixK L (k + 1)).flatMap Ftr.vals) * (HP.pt bA (.cells #[.int .i64 seq, .int .i64 gen, .int .i64 lsn, .int .i64 seg, .int .i64 x, .int .i64 flo, .int .i64 new, .int .i64 keep, .int .i64 next, .int .i64 cur] 24) * (HP.disk d A * (HP.rdisk y A * q))))) := ⟨by rw [HFN.out (by rw [HFX.out, if_neg (by omega)])]; exact HX3.out⟩
          clear HS6 HX3 HFS HFN HFX t6 g6
          go_wp2
          go_roundw
          case rel => exact ⟨k + 1, by go_num, by omega, H4⟩
          case measure => simp [intOf]; omega
        · have H4 : Aside (Sat E (wr.alloc (.cells #[.int .i64 f.number, .int .i64 f.gen, .int .i64 f.level, .int .i64 f.rank, .int .i64 f.mn, .int .i64 f.mx, .int .i64 f.bytes, .slice f.pA f.pn f.pc] 33)) (HP.row 33 8 (.slice (some ⟨g, o, none⟩) m cv) (m) ((fixK L (k + 1)).flatMap Ftr.vals) * (HP.pt bA (.cells #[.int .i64 seq, .int .i64 gen, .int .i64 lsn, .int .i64 seg, .int .i64 x, .int .i64 flo, .int .i64 new, .int .i64 keep, .int .i64 next, .int .i64 cur] 24) * (HP.disk d A * (HP.rdisk y A * q))))) := ⟨by rw [HFN.out (by rw [HFX.out, if_neg (by omega)])]; exact HX3.out⟩
          clear HS6 HX3 HFS HFN HFX t6 g6
          go_wp2
          go_roundw
          case rel => exact ⟨k + 1, by go_num, by omega, H4⟩
          case measure => simp [intOf]; omega
        · have H4 : Aside (Sat E ((wr.alloc (.cells #[.int .i64 f.number, .int .i64 f.gen, .int .i64 f.level, .int .i64 f.rank, .int .i64 f.mn, .int .i64 f.mx, .int .i64 f.bytes, .slice f.pA f.pn f.pc] 33)).setCell ⟨g, o + k * 8 + 6, none⟩ (.int .i64 (f.bytes % 20000))) (HP.row 33 8 (.slice (some ⟨g, o, none⟩) m cv) (m) ((fixK L (k + 1)).flatMap Ftr.vals) * (HP.pt bA (.cells #[.int .i64 seq, .int .i64 gen, .int .i64 lsn, .int .i64 seg, .int .i64 x, .int .i64 flo, .int .i64 new, .int .i64 keep, .int .i64 next, .int .i64 cur] 24) * (HP.disk d A * (HP.rdisk y A * q))))) := ⟨by rw [HFS.out, HFX.out, if_pos ⟨b1, b2⟩]; exact HS6.out⟩
          have hmod : f.bytes.tmod 20000 = f.bytes % 20000 := Int.tmod_eq_emod_of_nonneg (by omega)
          clear HS6 HX3 HFS HFN HFX
          go_wp2
          go_roundw
          case rel => exact ⟨k + 1, by go_num, by omega, H4⟩
          case measure => simp [intOf]; omega
      · obtain rfl : m = k := by omega
        have hmm : ¬ (m : Int) < (m : Int) := by omega
        obtain ⟨LF, hLF⟩ : ∃ LF, LF = L.map Ftr.fix := ⟨_, rfl⟩
        have hLe : fixK L m = LF := by
          unfold fixK
          rw [List.take_of_length_le (by rw [HL.out.1]; exact Nat.le_refl _), List.drop_of_length_le (by rw [HL.out.1]; exact Nat.le_refl _), List.append_nil, hLF]
        have hs := HS.out
        rw [hLe] at hs
        have HLF : Aside (LF.length = m ∧ (∀ f ∈ LF, wf64 f.number ∧ wf64 f.bytes) ∧ (groupsG A ⟨seq, gen, lsn, seg, x, flo, new, keep, next, cur⟩ LF).length ≤ 4000000) := ⟨by rw [hLF, List.length_map, HL.out.1], fun f hf => by
          rw [hLF] at hf
          obtain ⟨f0, h0, rfl⟩ := List.mem_map.1 hf
          exact fix_wf (HL.out.2.1 f0 h0), groupsG_few HF.out (fun h => by
            have h : x ≤ 2147483647 := h
            show x ≤ 300
            rw [HXX.out] at h ⊢
            unfold fixE at h ⊢
            split
            · omega
            · rename_i h9
              rw [if_neg h9] at h
              omega) (by rw [hLF, List.length_map, HL.out.1]; exact hm8) fun f hf ho => by
            rw [hLF] at hf
            obtain ⟨f0, h0, rfl⟩ := List.mem_map.1 hf
            exact fix_ok ho⟩
        obtain ⟨gg, hgg⟩ : ∃ gg, gg = groupsG A ⟨seq, gen, lsn, seg, x, flo, new, keep, next, cur⟩ LF := ⟨_, rfl⟩
        have HGL : Aside (gg.length ≤ 4000000) := ⟨by rw [hgg]; exact HLF.out.2.2⟩
        have HG1 := fun E q w h1 h2 => Aside.mk (scrub_groups E q d A ⟨seq, gen, lsn, seg, x, flo, new, keep, next, cur⟩ LF V m cv w HLF.out.1 (by omega) HAW.out.1 HAW.out.2.1 HLF.out.2.1 HLF.out.2.2 h1 h2)
        have HG2 := fun E q w h1 h2 => Aside.mk (ref20_groups E q y A ⟨seq, gen, lsn, seg, x, flo, new, keep, next, cur⟩ LF V m cv w HLF.out.1 (by omega) HAW.out.1 HAW.out.2.1 HLF.out.2.1 HLF.out.2.2 h1 h2)
        rw [← hgg] at HG1 HG2
        have HSB : Aside (Sat E wr (HP.pt bA (.cells #[.int .i64 seq, .int .i64 gen, .int .i64 lsn, .int .i64 seg, .int .i64 x, .int .i64 flo, .int .i64 new, .int .i64 keep, .int .i64 next, .int .i64 cur] 24) * (HP.row 33 8 (.slice V m cv) (m) ((LF).flatMap Ftr.vals) * (HP.disk d A * (HP.rdisk y A * q))))) := ⟨hs.s2⟩
        have HD := Aside.mk HSB.out.drew
        clear HS hs hLe hLF hgg HSB
        have a0 := HD.out.cell 0
        have a1 := HD.out.cell 1
        have a2 := HD.out.cell 2
        have a3 := HD.out.cell 3
        have a4 := HD.out.cell 4
        have a5 := HD.out.cell 5
        have a6 := HD.out.cell 6
        have a7 := HD.out.cell 7
        have a8 := HD.out.cell 8
        have a9 := HD.out.cell 9
        simp only [List.getElem?_toArray, List.getElem?_cons_zero, List.getElem?_cons_succ] at a0 a1 a2 a3 a4 a5 a6 a7 a8 a9
        go_wp2
        refine region_R [3, 7, 8, 10] [3] (fun W => Sat E W (HP.pt bA (.cells #[.int .i64 seq, .int .i64 gen, .int .i64 lsn, .int .i64 seg, .int .i64 x, .int .i64 flo, .int .i64 new, .int .i64 keep, .int .i64 next, .int .i64 cur] 24) * HP.any)) #[false, false, false, false, false, false, false, false, false, false, false, false, false] (by kernel_rfl) rfl rfl ?_
        refine wpR_rd 0 #[true, false, false, false, false, false, false, false, false, false, false, false, false] rfl onlyN_noPanic (by kernel_rfl) (fun K hK => ?_); (go_simp; try go_bits); refine hK _ ?_; clear hK K
        refine wpR_rd 1 #[true, true, false, false, false, false, false, false, false, false, false, false, false] rfl onlyN_noPanic (by kernel_rfl) (fun K hK => ?_); (go_simp; try go_bits); refine hK _ ?_; clear hK K
        refine wpR_rd 2 #[true, true, true, false, false, false, false, false, false, false, false, false, false] rfl onlyN_noPanic (by kernel_rfl) (fun K hK => ?_); (go_simp; try go_bits); refine hK _ ?_; clear hK K
        refine wpR_pu 4 #[true, true, true, false, true, false, false, false, false, false, false, false, false] rfl onlyN_noPanic (by kernel_rfl) (fun K hK => ?_); (go_simp; try go_bits); refine hK _ ?_; clear hK K
        refine wpR_held (i := 5) (v := .agg #[.int .i64 seq, .int .i64 gen, .int .i64 lsn, .int .i64 seg, .int .i64 x, .int .i64 flo, .int .i64 new, .int .i64 keep, .int .i64 next, .int .i64 cur]) #[true, true, true, false, true, true, false, false, false, false, false, false, false] rfl onlyN_noPanic (by kernel_rfl) (Sat.anyQ_of HD.out) (.inl ⟨rfl, fun w' hT => ?_⟩) ?_
        · have f := fun j => hT.cell j
          have a0 := f 0
          have a1 := f 1
          have a2 := f 2
          have a3 := f 3
          have a4 := f 4
          have a5 := f 5
          have a6 := f 6
          have a7 := f 7
          have a8 := f 8
          have a9 := f 9
          simp only [List.getElem?_toArray, List.getElem?_cons_zero, List.getElem?_cons_succ] at a0 a1 a2 a3 a4 a5 a6 a7 a8 a9
          go_simp
        simp only [Act.put, List.setIfInBounds_toArray, List.set_cons_zero, List.set_cons_succ]
        refine wpR_pu 6 #[true, true, true, false, true, true, true, false, false, false, false, false, false] rfl onlyN_noPanic (by kernel_rfl) (fun K hK => ?_); (go_simp; try go_bits); refine hK _ ?_; clear hK K
        refine wpR_keep #[true, true, true, true, true, true, true, false, false, false, false, false, false] (i := 3) rfl (by kernel_rfl) (fun K hK => ?_)
        go_simp
        refine (HG1 E _ _ (fun w h => ⟨HQ.out _ w h.right.right.right, h.right.row_cells⟩) (HD.out.perm (by ac_rfl : _ = HP.disk d A * (HP.pt bA (.cells #[.int .i64 seq, .int .i64 gen, .int .i64 lsn, .int .i64 seg, .int .i64 x, .int .i64 flo, .int .i64 new, .int .i64 keep, .int .i64 next, .int .i64 cur] 24) * (HP.row 33 8 (.slice V m cv) (m) ((LF).flatMap Ftr.vals) * (HP.rdisk y A * q))))) ).out.mono ?_
        rintro e w3 ⟨v3, rfl, h3⟩
        have h3T : Sat E w3 (HP.pt bA (.cells #[.int .i64 seq, .int .i64 gen, .int .i64 lsn, .int .i64 seg, .int .i64 x, .int .i64 flo, .int .i64 new, .int .i64 keep, .int .i64 next, .int .i64 cur] 24) * (HP.row 37 4 v3 (gg.length) ((gg).flatMap Sgp.vals) * (HP.disk d A * (HP.row 33 8 (.slice V m cv) (m) ((LF).flatMap Ftr.vals) * (HP.rdisk y A * q))))) := h3.perm (by ac_rfl)
        refine hK _ _ (Sat.anyQ_of h3T) ?_
        clear hK K h3T
        obtain ⟨V3, n3, rfl, -, -⟩ := h3.row_slice
        have HS3 : Aside (Sat E w3 (HP.rdisk y A * (HP.row 37 4 (.slice V3 gg.length n3) (gg.length) ((gg).flatMap Sgp.vals) * (HP.row 33 8 (.slice V m cv) (m) ((LF).flatMap Ftr.vals) * q)))) := ⟨(h3.perm (by ac_rfl : _ = HP.disk d A * (HP.pt bA (.cells #[.int .i64 seq, .int .i64 gen, .int .i64 lsn, .int .i64 seg, .int .i64 x, .int .i64 flo, .int .i64 new, .int .i64 keep, .int .i64 next, .int .i64 cur] 24) * (HP.rdisk y A * (HP.row 37 4 (.slice V3 gg.length n3) (gg.length) ((gg).flatMap Sgp.vals) * (HP.row 33 8 (.slice V m cv) (m) ((LF).flatMap Ftr.vals) * q)))))).right.right⟩
        clear h3 HD a0 a1 a2 a3 a4 a5 a6 a7 a8 a9
        refine wpR_eff #[true, true, true, true, true, true, true, true, false, false, false, false, false] (i := 7) rfl (by kernel_rfl) (fun K hK => ?_)
        go_simp
        refine (HG2 E _ _ (fun w h => h.right.row_cells) HS3.out).out.mono ?_
        rintro e w4 ⟨v4, rfl, h4⟩
        refine hK _ _ ?_
        clear hK K
        obtain ⟨V4, n4, rfl, -, -⟩ := h4.row_slice
        have HS4 : Aside (Sat E w4 (HP.row 37 4 (.slice V4 gg.length n4) (gg.length) ((gg).flatMap Sgp.vals) * (HP.row 37 4 (.slice V3 gg.length n3) (gg.length) ((gg).flatMap Sgp.vals) * q))) := ⟨(h4.perm (by ac_rfl : _ = HP.rdisk y A * (HP.row 33 8 (.slice V m cv) (m) ((LF).flatMap Ftr.vals) * (HP.row 37 4 (.slice V4 gg.length n4) (gg.length) ((gg).flatMap Sgp.vals) * (HP.row 37 4 (.slice V3 gg.length n3) (gg.length) ((gg).flatMap Sgp.vals) * q))))).right.right⟩
        clear h4 HS3
        refine wpR_eff #[true, true, true, true, true, true, true, true, true, false, false, false, false] (i := 8) rfl (by kernel_rfl) (fun K hK => ?_)
        go_simp
        refine (grps_equal E _ V3 V4 gg gg.length n3 n4 _ rfl (by have := HGL.out; omega) (fun w h => ⟨h.right.row_cells, h.row_cells⟩) HS4.out).mono ?_
        rintro e w5 ⟨rfl, h5⟩
        refine hK _ _ ?_
        clear hK K
        have HS5 := Aside.mk h5.right.right
        clear h5 HS4
        refine wpR_rd 9 #[true, true, true, true, true, true, true, true, true, true, false, false, false] rfl onlyN_noPanic (by kernel_rfl) (fun K hK => ?_); (go_simp; try go_bits); refine hK _ ?_; clear hK K
        refine wpR_eff #[true, true, true, true, true, true, true, true, true, true, true, false, false] (i := 10) rfl (by kernel_rfl) (fun K hK => ?_)
        go_simp
        refine (awake20_ok E q _ (fun w h => HQ.out _ w h) HS5.out).mono ?_
        rintro e w6 ⟨rfl, h6⟩
        refine hK _ _ ?_
        clear hK K
        have HS6 := Aside.mk h6
        clear h6 HS5
        refine wpR_rd 11 #[true, true, true, true, true, true, true, true, true, true, true, true, false] rfl onlyN_noPanic (by kernel_rfl) (fun K hK => ?_); (go_simp; try go_bits); refine hK _ ?_; clear hK K
        refine wpR_rd 12 #[true, true, true, true, true, true, true, true, true, true, true, true, true] rfl onlyN_noPanic (by kernel_rfl) (fun K hK => ?_); (go_simp; try go_bits); refine hK _ ?_; clear hK K
        refine wpR_done (by kernel_rfl) ?_ _
        simp only [OnlyN]
        go_wp2
        go_ret
        exact ⟨rfl, HS6.out⟩
end Go.Proofs.YtnpinegpajbkeaaGreatDoor
namespace Go.Proofs.YtnpinegpajbkeaaGreatDoor
open Go.ChangeShapes Go.WideShapes Go.ChangeAt Go.WideMaps Go.WideElems Go.RowKit HP
theorem pow10_tab : (Rows.laid_internal_strconv_uint64pow10 : DataW Unit) = Lib.tabData .u64 Lib.pow10Tab := by kernel_rfl
theorem pow10_of_reads {W : World} (h : Lib.VarReads Tryz.prog W "internal/strconv.uint64pow10" Rows.laid_internal_strconv_uint64pow10) : Lib.TabIs Tryz.prog W "internal/strconv.uint64pow10" .u64 Lib.pow10Tab := by
  obtain ⟨g0, t0, cs0, f0, p0, hg0, ht0, hv0, hd0⟩ := h
  have hg : Tryz.prog.globalNamed "internal/strconv.uint64pow10" = some 0 := by kernel_rfl
  have ht : (Tryz.prog.globals[0]?).map (·.type) = some 245 := by kernel_rfl
  obtain rfl := Option.some.inj (hg.symm.trans hg0)
  obtain rfl := Option.some.inj (ht.symm.trans ht0)
  unfold Lib.TabIs
  rw [hv0, ← Lib.cells_of_tab Tryz.underlying245 Tryz.underlying167 (by kernel_rfl) (by kernel_rfl) (pow10_tab ▸ hd0)]
def laid3 : List (String × DataW Unit) := [("math/bits.deBruijn32tab", Rows.laid_math_bits_deBruijn32tab), ("math/bits.deBruijn64tab", Rows.laid_math_bits_deBruijn64tab), ("internal/strconv.uint64pow10", Rows.laid_internal_strconv_uint64pow10)]
theorem door_met3 (os : Os) (args : Array Value) : laidMetH Tryz.prog laid3 ((World.doorLaid Tryz.prog 400 os).forCall (fun _ _ => 0) ⟨#[], args, []⟩).memory :=
  laidMetH_of_parts3 (fuel := 8) (laidMet_of_run' 8 (by kernel_rfl) (by kernel_rfl)) (by kernel_rfl) (by kernel_rfl)
theorem laid3_reads {W : World} (h : laidMetH Tryz.prog laid3 W) : Lib.TabIs Tryz.prog W "internal/strconv.uint64pow10" .u64 Lib.pow10Tab := by
  rw [MakeChecks.laidMetH_plain _ _ _ (by kernel_rfl)] at h
  obtain ⟨ps, hL, -⟩ := h
  exact pow10_of_reads (Lib.LaidVars_reads hL _ _ (by simp [laid3]))
end Go.Proofs.YtnpinegpajbkeaaGreatDoor
namespace Go.Proofs.YtnpinegpajbkeaaGreatDoor
open Go.ChangeShapes Go.WideShapes Go.ChangeAt Go.RowKit HP
theorem rdSteps_at : (rdSl rdStep).At Tryz.prog 22 := rdSl_at (n := 8) Tryz.underlying22 (by kernel_rfl) rdStep_at
structure StepsOk (W : World) (s : Sl StepV) : Prop where
  len : s.l.length ≤ s.cap
  cap : s.cap ≤ maxLen
  cells : Cells W s.A (s.l.flatMap StepV.vals)
  each : ∀ x ∈ s.l, x.Ok W
theorem steps_ok {W : World} {s : Sl StepV} (h : (rdSl rdStep).ok W s) : StepsOk W s := ⟨h.1, h.2.1, h.2.2.1, fun x hx => step_ok (h.2.2.2 x hx)⟩
theorem steps_old {W : World} {s : Sl StepV} (h : (rdSl rdStep).ok W s) : Steps (HP.old W) s :=
  ⟨Nat.le_trans (steps_ok h).len (steps_ok h).cap, fun x hx => ((steps_ok h).each x hx).wf, fun E w hw => ⟨(steps_ok h).cells.carry (old_carry hw), fun x hx => ⟨((steps_ok h).each x hx).b.2.2.1.carry (old_carry hw), ((steps_ok h).each x hx).kept.2.2.1.carry (old_carry hw)⟩⟩⟩
end Go.Proofs.YtnpinegpajbkeaaGreatDoor
