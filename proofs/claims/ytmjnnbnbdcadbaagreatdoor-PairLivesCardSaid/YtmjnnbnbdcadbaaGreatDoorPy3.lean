/- PairLives: the walk. -/
import Derived.Test.YtmjnnbnbdcadbaaGreatDoorPy2
namespace Go.Proofs.YtmjnnbnbdcadbaaGreatDoor
open Go.RowKit HP
set_option linter.unusedSimpArgs false
set_option linter.unusedVariables false

/-- A call of a pair. -/
structure DoV where
  op : Int
  i : Int
  gen : Int
  name : ByteArray
  b : Sl Int
  s : StepV
def DoV.vals (k : DoV) : List Value := [.int .i64 k.op, .int .i64 k.i, .int .i64 k.gen, .string k.name, .slice k.b.A k.b.l.length k.b.cap, .int .i64 k.s.op, .int .i64 k.s.i, .int .i64 k.s.at_, .int .i64 k.s.n, .string k.s.name, .slice k.s.b.A k.s.b.l.length k.s.b.cap, .int .u8 k.s.mask, .slice k.s.kept.A k.s.kept.l.length k.s.kept.cap]
structure DoOk (k : DoV) : Prop where
  op : wf64 k.op
  i : wf64 k.i
  gen : wf64 k.gen
  name : k.name.size ≤ 140737488351232
  le : k.b.l.length ≤ k.b.cap
  cap : k.b.cap ≤ 140737488351232
  bytes : Bytes k.b.l
  step : k.s.Wf
/-- The calls of a list, read. -/
structure DosIn (q : HP) (l : Sl DoV) : Prop where
  len : l.l.length ≤ maxLen
  ok : ∀ k ∈ l.l, DoOk k
  cells : ∀ E w, Sat E w q → Cells w l.A (l.l.flatMap DoV.vals) ∧ ∀ k ∈ l.l, Cells w k.b.A (b8s k.b.l) ∧ Cells w k.s.b.A (b8s k.s.b.l) ∧ Cells w k.s.kept.A (kepCells k.s.kept.l)
theorem DosIn.at_ {q : HP} {l : Sl DoV} (h : DosIn q l) {E : Env} {w : World} (hw : Sat E w q) {j : Nat} {k : DoV} (hs : l.l[j]? = some k) :
    ∃ g o, l.A = some ⟨g, o, none⟩ ∧ w.cell? ⟨g, o + j * 13, none⟩ = some (.int .i64 k.op) ∧ w.cell? ⟨g, o + j * 13 + 1, none⟩ = some (.int .i64 k.i) ∧ w.cell? ⟨g, o + j * 13 + 2, none⟩ = some (.int .i64 k.gen) ∧ w.cell? ⟨g, o + j * 13 + 3, none⟩ = some (.string k.name) ∧ w.cell? ⟨g, o + j * 13 + 4, none⟩ = some (.slice k.b.A k.b.l.length k.b.cap) ∧ w.cell? ⟨g, o + j * 13 + 5, none⟩ = some (.int .i64 k.s.op) ∧ w.cell? ⟨g, o + j * 13 + 6, none⟩ = some (.int .i64 k.s.i) ∧ w.cell? ⟨g, o + j * 13 + 7, none⟩ = some (.int .i64 k.s.at_) ∧ w.cell? ⟨g, o + j * 13 + 8, none⟩ = some (.int .i64 k.s.n) ∧ w.cell? ⟨g, o + j * 13 + 9, none⟩ = some (.string k.s.name) ∧ w.cell? ⟨g, o + j * 13 + 10, none⟩ = some (.slice k.s.b.A k.s.b.l.length k.s.b.cap) ∧ w.cell? ⟨g, o + j * 13 + 11, none⟩ = some (.int .u8 k.s.mask) ∧ w.cell? ⟨g, o + j * 13 + 12, none⟩ = some (.slice k.s.kept.A k.s.kept.l.length k.s.kept.cap) := by
  have hcm := (h.cells _ _ hw).1
  have hg := fun i (hi : i < 13) => flat_get DoV.vals 13 l.l (fun _ => rfl) j i k hs hi
  have g0 := hg 0 (by omega)
  obtain ⟨pa, hpa, -⟩ := hcm _ _ g0
  obtain ⟨g, o, rfl⟩ : ∃ g o, pa = ⟨g, o, none⟩ := slice_addr hcm hpa (List.getElem?_eq_some_iff.1 g0).1
  rw [hpa] at hcm
  have f : ∀ i, i < 13 → ∀ u, k.vals[i]? = some u → w.cell? ⟨g, o + j * 13 + i, none⟩ = some u := fun i hi u hu => by
    have h1 := hcm.some_ (j * 13 + i) u ((hg i hi).trans hu)
    rw [addr_add, ← Nat.add_assoc] at h1
    exact h1
  exact ⟨g, o, hpa, f 0 (by omega) _ rfl, f 1 (by omega) _ rfl, f 2 (by omega) _ rfl, f 3 (by omega) _ rfl, f 4 (by omega) _ rfl, f 5 (by omega) _ rfl, f 6 (by omega) _ rfl, f 7 (by omega) _ rfl, f 8 (by omega) _ rfl, f 9 (by omega) _ rfl, f 10 (by omega) _ rfl, f 11 (by omega) _ rfl, f 12 (by omega) _ rfl⟩
theorem Sat.anyP_of {E : Env} {w : World} {p q : HP} (h : Sat E w (p * q)) : Sat E w (p * HP.any) := Sat.any_of h
theorem do_box {E : Env} {w : World} {BX : Nat} {k : DoV} {q : HP} (h : Sat E w (HP.pt BX (.cells k.vals.toArray 45) * q)) :
    w.cell? ⟨BX, 0, none⟩ = some (.int .i64 k.op) ∧ w.cell? ⟨BX, 1, none⟩ = some (.int .i64 k.i) ∧ w.cell? ⟨BX, 2, none⟩ = some (.int .i64 k.gen) ∧ w.cell? ⟨BX, 3, none⟩ = some (.string k.name) ∧ w.cell? ⟨BX, 4, none⟩ = some (.slice k.b.A k.b.l.length k.b.cap) := by
  have g := fun j => h.cell j
  exact ⟨by rw [g 0]; rfl, by rw [g 1]; rfl, by rw [g 2]; rfl, by rw [g 3]; rfl, by rw [g 4]; rfl⟩
theorem do_box2 {E : Env} {w : World} {BX : Nat} {k : DoV} {q : HP} (h : Sat E w (HP.pt BX (.cells k.vals.toArray 45) * q)) :
    w.cell? ⟨BX, 5, none⟩ = some (.int .i64 k.s.op) ∧ w.cell? ⟨BX, 6, none⟩ = some (.int .i64 k.s.i) ∧ w.cell? ⟨BX, 7, none⟩ = some (.int .i64 k.s.at_) ∧ w.cell? ⟨BX, 8, none⟩ = some (.int .i64 k.s.n) ∧ w.cell? ⟨BX, 9, none⟩ = some (.string k.s.name) ∧ w.cell? ⟨BX, 10, none⟩ = some (.slice k.s.b.A k.s.b.l.length k.s.b.cap) ∧ w.cell? ⟨BX, 11, none⟩ = some (.int .u8 k.s.mask) ∧ w.cell? ⟨BX, 12, none⟩ = some (.slice k.s.kept.A k.s.kept.l.length k.s.kept.cap) := by
  have g := fun j => h.cell j
  exact ⟨by rw [g 5]; rfl, by rw [g 6]; rfl, by rw [g 7]; rfl, by rw [g 8]; rfl, by rw [g 9]; rfl, by rw [g 10]; rfl, by rw [g 11]; rfl, by rw [g 12]; rfl⟩
set_option maxHeartbeats 16000000 in
set_option maxRecDepth 100000 in
theorem pairLives_ok (E : Env) (q : HP) (l : Sl StepV) (more : Sl DoV) (w : World) (hst : Steps q l) (hm : DosIn q more) (hq : ∀ E w, Sat E w q → Quarter w) (hw : Sat E w q) :
    Calls Tryz.prog 4 #[l.val, more.val] w fun e w' => e = .returned (.bool true) ∧ Sat E w' q := by
  unfold Sl.val
  have HST := Aside.mk hst
  have HQ := Aside.mk hq
  have HAN := Aside.mk hm
  have HW0 := Aside.mk hw
  have hlen := hm.len
  have hlen3 := hst.len
  unfold maxLen at hlen hlen3
  generalize hN : more.l.length = n at *
  have HN := Aside.mk hN
  clear hN hq hst hm hw
  go_enter Tryz.func4, Tryz.ntmps4
  go_wp2_with fail
  refine (disks_ok E q 60 l _ ⟨by omega, by omega⟩ HST.out HW0.out).mono ?_
  rintro e w1 ⟨d, y, A0, rfl, hb1, hroom, h1⟩
  have H1 := Aside.mk h1
  have HB1 := Aside.mk hb1
  clear h1 hb1 hroom HW0
  go_wp2
  go_loopw [36] (fun v36 wr => ∃ (kx : Nat) (A : Dk), v36 = .int .i64 kx ∧ kx ≤ n ∧ Aside A.Byt ∧ Aside (Sat E wr (HP.disk d A * (HP.rdisk y A * q)))) (fun x _ => n - (intOf x).toNat)
  case atStart => exact ⟨0, A0, rfl, Nat.zero_le _, HB1, H1⟩
  case round =>
    clear H1 HB1
    obtain ⟨kx, A, rfl, hk, HB, HS⟩ := hrel
    by_cases hlt : kx < n
    · obtain ⟨k, ha⟩ : ∃ k, more.l[kx]? = some k := ⟨_, List.getElem?_eq_getElem (by rw [HN.out]; exact hlt)⟩
      have ham : k ∈ more.l := List.mem_of_getElem? ha
      have HOK := Aside.mk (HAN.out.ok k ham)
      have HIN : Aside (∀ E w, Sat E w q → Cells w k.b.A (b8s k.b.l) ∧ Cells w k.s.b.A (b8s k.s.b.l) ∧ Cells w k.s.kept.A (kepCells k.s.kept.l)) := ⟨fun E w h => (HAN.out.cells E w h).2 k ham⟩
      have HNM : Aside (k.name.size + 2 ≤ maxLen) := ⟨by have := HOK.out.name; unfold maxLen; omega⟩
      have HC64 : Aside (k.b.l.length ≤ 140737488351232 ∧ k.b.cap ≤ maxLen) := ⟨by have := HOK.out.le; have := HOK.out.cap; unfold maxLen; omega⟩
      obtain ⟨g, o, hA, g0, g1, g2, g3, g4, g5, g6, g7, g8, g9, g10, g11, g12⟩ := HAN.out.at_ HS.out.right.right ha
      rw [hA]
      have hk0 : (0 : Int) ≤ (kx : Int) := by omega
      have hk1 : (kx : Int) < (n : Int) := by omega
      by_cases h20 : 20 < kx
      · have h20b : (20 : Int) < (kx : Int) := by omega
        have H2 := Aside.mk (HS.out.alloc (.cells #[.int .i64 k.op, .int .i64 k.i, .int .i64 k.gen, .string k.name, .slice k.b.A k.b.l.length k.b.cap, .int .i64 k.s.op, .int .i64 k.s.i, .int .i64 k.s.at_, .int .i64 k.s.n, .string k.s.name, .slice k.s.b.A k.s.b.l.length k.s.b.cap, .int .u8 k.s.mask, .slice k.s.kept.A k.s.kept.l.length k.s.kept.cap] 45)).right.right.right
        clear ha ham hA HS
        go_wp2_with fail
        refine (awake5_ok E q _ (fun w h => HQ.out _ w h) H2.out).mono ?_
        rintro e w2 ⟨rfl, h2⟩
        go_wp2
        go_ret
        exact ⟨rfl, h2⟩
      · have h20b : ¬ (20 : Int) < (kx : Int) := by omega
        have H2 := Aside.mk (HS.out.alloc (.cells #[.int .i64 k.op, .int .i64 k.i, .int .i64 k.gen, .string k.name, .slice k.b.A k.b.l.length k.b.cap, .int .i64 k.s.op, .int .i64 k.s.i, .int .i64 k.s.at_, .int .i64 k.s.n, .string k.s.name, .slice k.s.b.A k.s.b.l.length k.s.b.cap, .int .u8 k.s.mask, .slice k.s.kept.A k.s.kept.l.length k.s.kept.cap] 45))
        obtain ⟨kk, hkk5, hzk⟩ : ∃ kk : Nat, kk < 5 ∧ wrap64 ((IntKind.u64.wrap k.op).tmod 5) = (kk : Int) := by
          rw [IntKind.wrap_u64, tmod_of_emod]
          refine ⟨(k.op % 18446744073709551616 % 5).toNat, by omega, ?_⟩
          rw [Int.toNat_of_nonneg (by omega)]
          unfold wrap64
          omega
        clear ha ham hA HS
        go_wp2_with fail
        refine (bytesClone_ok E _ k.b.A k.b.l k.b.l.length k.b.cap _ rfl HC64.out.1 H2.out (HIN.out _ _ H2.out.right.right.right).1).mono ?_
        rintro e w2 ⟨vg, rfl, h3⟩
        obtain ⟨Ag, cg, rfl, hcg, hcgm⟩ := h3.row_slice
        have HCG := Aside.mk (And.intro hcg hcgm)
        clear hcg hcgm
        obtain ⟨BX, hBX⟩ : ∃ BX, BX = wr.heap.size := ⟨_, rfl⟩
        rw [← hBX] at h3 ⊢
        have HS : Aside (Sat E w2 (HP.pt BX (.cells k.vals.toArray 45) * (HP.disk d A * (HP.rdisk y A * (HP.row 5 1 (.slice Ag k.b.l.length cg) k.b.l.length (b8s k.b.l) * q))))) := ⟨h3.perm (by show _ = _; unfold DoV.vals; ac_rfl)⟩
        obtain ⟨c0, c1, c2, c3, c4⟩ := do_box HS.out
        clear h3 H2 g0 g1 g2 g3 g4 g5 g6 g7 g8 g9 g10 g11 g12 hBX
        by_cases q0 : kk = 0
        · subst q0
          go_upto_region 13 with fail
          clear c0 c1 c2 c3 c4
          refine region_R [6, 14] [6] (fun W => Sat E W (HP.pt BX (.cells k.vals.toArray 45) * HP.any)) #[false, false, false, false, false, false, false, false, false, false, false, false, false, false, false, false, false] (by kernel_rfl) rfl rfl ?_
          have HT : Aside ((fun W => Sat E W (HP.pt BX (.cells k.vals.toArray 45) * HP.any)) _) := ⟨(Sat.anyP_of HS.out).drew⟩
          refine wpR_rd 0 #[true, false, false, false, false, false, false, false, false, false, false, false, false, false, false, false, false] rfl onlyN_noPanic (by kernel_rfl) (fun K hK => ?_); (go_simp; try go_bits); refine hK _ ?_; clear hK K
          refine wpR_rd 1 #[true, true, false, false, false, false, false, false, false, false, false, false, false, false, false, false, false] rfl onlyN_noPanic (by kernel_rfl) (fun K hK => ?_); (go_simp; try go_bits); refine hK _ ?_; clear hK K
          refine wpR_held (i := 2) (v := .string k.name) #[true, true, true, false, false, false, false, false, false, false, false, false, false, false, false, false, false] rfl onlyN_noPanic (by kernel_rfl) HT.out (.inl ⟨rfl, fun w' hT => ?_⟩) ?_
          · obtain ⟨c0, c1, c2, c3, c4⟩ := do_box hT; go_simp
          simp only [Act.put, List.setIfInBounds_toArray, List.set_cons_zero, List.set_cons_succ]
          refine wpR_rd 3 #[true, true, true, true, false, false, false, false, false, false, false, false, false, false, false, false, false] rfl onlyN_noPanic (by kernel_rfl) (fun K hK => ?_); (go_simp; try go_bits); refine hK _ ?_; clear hK K
          refine wpR_held (i := 4) (v := .int .i64 k.gen) #[true, true, true, true, true, false, false, false, false, false, false, false, false, false, false, false, false] rfl onlyN_noPanic (by kernel_rfl) HT.out (.inl ⟨rfl, fun w' hT => ?_⟩) ?_
          · obtain ⟨c0, c1, c2, c3, c4⟩ := do_box hT; go_simp
          simp only [Act.put, List.setIfInBounds_toArray, List.set_cons_zero, List.set_cons_succ]
          refine wpR_rd 5 #[true, true, true, true, true, true, false, false, false, false, false, false, false, false, false, false, false] rfl onlyN_noPanic (by kernel_rfl) (fun K hK => ?_); (go_simp; try go_bits); refine hK _ ?_; clear hK K
          refine wpR_pu 7 #[true, true, true, true, true, true, false, true, false, false, false, false, false, false, false, false, false] rfl onlyN_noPanic (by kernel_rfl) (fun K hK => ?_); (go_simp; try go_bits); refine hK _ ?_; clear hK K
          refine wpR_pu 8 #[true, true, true, true, true, true, false, true, true, false, false, false, false, false, false, false, false] rfl onlyN_noPanic (by kernel_rfl) (fun K hK => ?_); (go_simp; try go_bits); refine hK _ ?_; clear hK K
          refine wpR_held (i := 9) (v := .string k.name) #[true, true, true, true, true, true, false, true, true, true, false, false, false, false, false, false, false] rfl onlyN_noPanic (by kernel_rfl) HT.out (.inl ⟨rfl, fun w' hT => ?_⟩) ?_
          · obtain ⟨c0, c1, c2, c3, c4⟩ := do_box hT; go_simp
          simp only [Act.put, List.setIfInBounds_toArray, List.set_cons_zero, List.set_cons_succ]
          refine wpR_pu 10 #[true, true, true, true, true, true, false, true, true, true, true, false, false, false, false, false, false] rfl onlyN_noPanic (by kernel_rfl) (fun K hK => ?_); (go_simp; try go_bits); refine hK _ ?_; clear hK K
          refine wpR_held (i := 11) (v := .int .i64 k.gen) #[true, true, true, true, true, true, false, true, true, true, true, true, false, false, false, false, false] rfl onlyN_noPanic (by kernel_rfl) HT.out (.inl ⟨rfl, fun w' hT => ?_⟩) ?_
          · obtain ⟨c0, c1, c2, c3, c4⟩ := do_box hT; go_simp
          simp only [Act.put, List.setIfInBounds_toArray, List.set_cons_zero, List.set_cons_succ]
          refine wpR_pu 12 #[true, true, true, true, true, true, false, true, true, true, true, true, true, false, false, false, false] rfl onlyN_noPanic (by kernel_rfl) (fun K hK => ?_); (go_simp; try go_bits); refine hK _ ?_; clear hK K
          refine wpR_held (i := 13) (v := .slice k.b.A k.b.l.length k.b.cap) #[true, true, true, true, true, true, false, true, true, true, true, true, true, true, false, false, false] rfl onlyN_noPanic (by kernel_rfl) HT.out (.inl ⟨rfl, fun w' hT => ?_⟩) ?_
          · obtain ⟨c0, c1, c2, c3, c4⟩ := do_box hT; go_simp
          simp only [Act.put, List.setIfInBounds_toArray, List.set_cons_zero, List.set_cons_succ]
          clear HT
          have HS0 := Aside.mk HS.out.drew
          clear HS
          revert HS0
          generalize World.drew w2 = W0
          intro HS0
          refine wpR_keep #[true, true, true, true, true, true, true, true, true, true, true, true, true, true, false, false, false] (i := 6) rfl (by kernel_rfl) (fun K hK => ?_)
          go_simp
          refine (pair_store_any E _ d A k.name k.gen Ag k.b.l k.b.l.length cg _ HNM.out rfl HCG.out.1 HCG.out.2 HC64.out.1 HOK.out.bytes (fun w h => ⟨HQ.out _ w h.right.right.right, h.right.right.row_cells⟩) (HS0.out.s2)).mono ?_
          rintro e W1 ⟨rfl, hn1a⟩
          have hn1 : Sat E W1 (HP.pt BX (.cells k.vals.toArray 45) * (HP.disk d (storeA A k.name k.gen k.b.l).2 * (HP.rdisk y A * (HP.row 5 1 (.slice Ag k.b.l.length cg) k.b.l.length (b8s k.b.l) * q)))) := hn1a.s2
          refine hK _ _ (Sat.anyP_of hn1) ?_
          clear hK K hn1a
          have HS1 : Aside (Sat E W1 (HP.pt BX (.cells k.vals.toArray 45) * (HP.disk d (storeA A k.name k.gen k.b.l).2 * (HP.rdisk y A * (HP.row 5 1 (.slice Ag k.b.l.length cg) k.b.l.length (b8s k.b.l) * q))))) := ⟨hn1.perm (by ac_rfl)⟩
          clear hn1
          refine wpR_eff #[true, true, true, true, true, true, true, true, true, true, true, true, true, true, true, false, false] (i := 14) rfl (by kernel_rfl) (fun K hK => ?_)
          go_simp
          refine (ref_store_any E _ y A k.name k.gen k.b.A k.b.l k.b.l.length k.b.cap _ HNM.out rfl HOK.out.le HC64.out.2 HC64.out.1 HOK.out.bytes (fun w h => (HIN.out _ w h.right.right.right).1) (HS1.out.s3)).mono ?_
          rintro e W2 ⟨rfl, hn2a⟩
          have hn2 : Sat E W2 (HP.pt BX (.cells k.vals.toArray 45) * (HP.disk d (storeA A k.name k.gen k.b.l).2 * (HP.rdisk y (storeA A k.name k.gen k.b.l).2 * (HP.row 5 1 (.slice Ag k.b.l.length cg) k.b.l.length (b8s k.b.l) * q)))) := hn2a.perm (by ac_rfl)
          refine hK _ _ ?_
          clear hK K hn2a
          have HS2 : Aside (Sat E W2 (HP.pt BX (.cells k.vals.toArray 45) * (HP.disk d (storeA A k.name k.gen k.b.l).2 * (HP.rdisk y (storeA A k.name k.gen k.b.l).2 * (HP.row 5 1 (.slice Ag k.b.l.length cg) k.b.l.length (b8s k.b.l) * q))))) := ⟨hn2.perm (by ac_rfl)⟩
          clear hn2 HS1
          refine wpR_rd 15 #[true, true, true, true, true, true, true, true, true, true, true, true, true, true, true, true, false] rfl onlyN_noPanic (by kernel_rfl) (fun K hK => ?_); (go_simp; try go_bits); refine hK _ ?_; clear hK K
          refine wpR_rd 16 #[true, true, true, true, true, true, true, true, true, true, true, true, true, true, true, true, true] rfl onlyN_noPanic (by kernel_rfl) (fun K hK => ?_); (go_simp; try go_bits); refine hK _ ?_; clear hK K
          refine wpR_done (by kernel_rfl) ?_ _
          simp only [OnlyN]
          have HS9 := HS2
          clear HS2
          have HB3 : Aside (Dk.Byt (storeA A k.name k.gen k.b.l).2) := ⟨HB.out.storeA k.name k.gen HOK.out.bytes⟩
          generalize (storeA A k.name k.gen k.b.l).2 = B3 at *
          have hcc := do_box HS9.out
          obtain ⟨c0, c1, c2, c3, c4⟩ := hcc
          have H8 : Aside (Sat E W2 (HP.disk d B3 * (HP.rdisk y B3 * (HP.pt BX (.cells k.vals.toArray 45) * (HP.row 5 1 (.slice Ag k.b.l.length cg) k.b.l.length (b8s k.b.l) * q))))) := ⟨HS9.out.perm (by ac_rfl)⟩
          clear HS9
          go_wp2_with fail
          refine (bytesEq_ok Ag k.b.A k.b.l k.b.l k.b.l.length k.b.l.length cg k.b.cap _ rfl rfl H8.out.right.right.right.row_cells (HIN.out _ _ H8.out.right.right.right.right).1 HOK.out.bytes HOK.out.bytes).mono ?_
          rintro e w9 ⟨rfl, hw9⟩
          subst w9
          rw [decide_eq_true rfl]
          clear c0 c1 c2 c3 c4
          go_wp2_with fail
          refine (same_ok E _ d y B3 _ HB3.out H8.out).mono ?_
          rintro e w10 ⟨rfl, h10⟩
          obtain ⟨c0, c1, c2, c3, c4⟩ := do_box (h10.right.right)
          have H10 := Aside.mk h10
          clear h10 H8
          go_wp2_with fail
          refine (pair_load E _ d B3 k.name k.gen _ HNM.out (fun f hf i c hc => HB3.out.reads f i c hc) (fun w h => HQ.out _ w h.right.right.right) H10.out).mono ?_
          intro e w11 h11
          obtain ⟨A1, n1, cc1, X1, rfl, l1, x1, h11⟩ := loadEnd_uni h11
          clear c0 c1 c2 c3 c4
          obtain ⟨c0, c1, c2, c3, c4⟩ := do_box (h11.right.right.right)
          have H11 : Aside (Sat E w11 (HP.rdisk y B3 * (X1 * (HP.disk d B3 * (HP.pt BX (.cells k.vals.toArray 45) * (HP.row 5 1 (.slice Ag k.b.l.length cg) k.b.l.length (b8s k.b.l) * q)))))) := ⟨h11.perm (by ac_rfl)⟩
          have H1 := Aside.mk (And.intro l1 x1)
          obtain ⟨er, her⟩ : ∃ er : Int, er = (if (loadP B3 k.name k.gen).isNone = true then 50 else 0) := ⟨_, rfl⟩
          rw [← her]
          have HER := Aside.mk her
          clear h11 l1 x1 her H10
          go_wp2_with fail
          refine (ref_loadp E _ y B3 k.name k.gen _ HNM.out (fun f hf i c hc => HB3.out.reads f i c hc) (fun s => at_small (H11.out.right.right).disk_fine s) H11.out).mono ?_
          intro e w12 h12
          obtain ⟨A2, n2, cc2, X2, rfl, l2, x2, h12⟩ := loadEnd_uni h12
          rw [← HER.out]
          clear c0 c1 c2 c3 c4
          obtain ⟨c0, c1, c2, c3, c4⟩ := do_box (h12.right.right.right.right)
          have H12 : Aside (Sat E w12 (HP.disk d B3 * (X2 * (X1 * (HP.rdisk y B3 * (HP.pt BX (.cells k.vals.toArray 45) * (HP.row 5 1 (.slice Ag k.b.l.length cg) k.b.l.length (b8s k.b.l) * q))))))) := ⟨h12.perm (by ac_rfl)⟩
          have H2 := Aside.mk (And.intro l2 x2)
          clear h12 l2 x2 H11
          go_wp2_with fail
          refine (pair_get E _ d B3 k.name k.i _ HNM.out (fun f hf c hc => HB3.out.reads f _ c hc) (fun w h => HQ.out _ w h.right.right.right.right.right) H12.out).mono ?_
          rintro e w13 ⟨v13, he, h13⟩
          obtain ⟨A3, n3, cc3, X3, rfl, l3, x3, h13⟩ := getEnd_uni he h13
          clear c0 c1 c2 c3 c4 he
          obtain ⟨c0, c1, c2, c3, c4⟩ := do_box (h13.right.right.right.right.right)
          have H13 : Aside (Sat E w13 (HP.rdisk y B3 * (X3 * (X2 * (X1 * (HP.disk d B3 * (HP.pt BX (.cells k.vals.toArray 45) * (HP.row 5 1 (.slice Ag k.b.l.length cg) k.b.l.length (b8s k.b.l) * q)))))))) := ⟨h13.perm (by ac_rfl)⟩
          have H3 := Aside.mk (And.intro l3 x3)
          obtain ⟨gg, hgg⟩ : ∃ gg : Int, gg = (if (getP B3 k.name k.i).1 < 0 then 0 else (getP B3 k.name k.i).1) := ⟨_, rfl⟩
          obtain ⟨eg, heg⟩ : ∃ eg : Int, eg = (if (getP B3 k.name k.i).1 < 0 then 50 else 0) := ⟨_, rfl⟩
          rw [← hgg, ← heg]
          have HGG := Aside.mk (And.intro hgg heg)
          clear h13 l3 x3 hgg heg H12
          go_wp2_with fail
          refine (ref_getp E _ y B3 k.name k.i _ HNM.out (fun f hf c hc => HB3.out.reads f _ c hc) H13.out).mono ?_
          rintro e w14 ⟨v14, he, h14⟩
          obtain ⟨A4, n4, cc4, X4, rfl, l4, x4, h14⟩ := getEnd_uni he h14
          rw [← HGG.out.1, ← HGG.out.2]
          have HL := Aside.mk (loadP_byt HB3.out k.name k.gen)
          have HG := Aside.mk (gotL_byt HB3.out k.name k.i)
          obtain ⟨L, hL⟩ : ∃ L, L = (loadP B3 k.name k.gen).getD [] := ⟨_, rfl⟩
          obtain ⟨M, hM⟩ : ∃ M, M = gotL (getP B3 k.name k.i) := ⟨_, rfl⟩
          rw [← hL] at H1 H2 HL
          rw [← hM] at H3 HG l4 x4
          have y1 : Cells w14 A1 (b8s L) := H1.out.2 E w14 _ (h14.perm (by ac_rfl : _ = X1 * (X4 * (HP.rdisk y B3 * (X3 * (X2 * (HP.disk d B3 * (HP.pt BX (.cells k.vals.toArray 45) * (HP.row 5 1 (.slice Ag k.b.l.length cg) k.b.l.length (b8s k.b.l) * q)))))))))
          have y2 : Cells w14 A2 (b8s L) := H2.out.2 E w14 _ (h14.perm (by ac_rfl : _ = X2 * (X4 * (HP.rdisk y B3 * (X3 * (X1 * (HP.disk d B3 * (HP.pt BX (.cells k.vals.toArray 45) * (HP.row 5 1 (.slice Ag k.b.l.length cg) k.b.l.length (b8s k.b.l) * q)))))))))
          have y3 : Cells w14 A3 (b8s M) := H3.out.2 E w14 _ (h14.perm (by ac_rfl : _ = X3 * (X4 * (HP.rdisk y B3 * (X2 * (X1 * (HP.disk d B3 * (HP.pt BX (.cells k.vals.toArray 45) * (HP.row 5 1 (.slice Ag k.b.l.length cg) k.b.l.length (b8s k.b.l) * q)))))))))
          have y4 : Cells w14 A4 (b8s M) := x4 E w14 _ h14
          have HY := Aside.mk (And.intro y1 (And.intro y2 (And.intro y3 (And.intro y4 l4))))
          have H14 : Aside (Sat E w14 (HP.disk d B3 * (HP.rdisk y B3 * q))) := ⟨(h14.perm (by ac_rfl : _ = X4 * (X3 * (X2 * (X1 * (HP.pt BX (.cells k.vals.toArray 45) * (HP.row 5 1 (.slice Ag k.b.l.length cg) k.b.l.length (b8s k.b.l) * (HP.disk d B3 * (HP.rdisk y B3 * q))))))))).right.right.right.right.right.right⟩
          clear c0 c1 c2 c3 c4 he h14 l4 x4 y1 y2 y3 y4 H13 hL hM
          go_wp2_with fail
          refine (bytesEq_ok A1 A2 L L n1 n2 cc1 cc2 _ H1.out.1 H2.out.1 HY.out.1 HY.out.2.1 HL.out HL.out).mono ?_
          rintro e w15 ⟨rfl, hw15⟩
          subst w15
          rw [decide_eq_true rfl]
          go_wp2_with fail
          refine (bytesEq_ok A3 A4 M M n3 n4 cc3 cc4 _ H3.out.1 HY.out.2.2.2.2 HY.out.2.2.1 HY.out.2.2.2.1 HG.out HG.out).mono ?_
          rintro e w15 ⟨rfl, hw15⟩
          subst w15
          rw [decide_eq_true rfl]
          clear HY H1 H2 H3 HL HG HGG HER
          go_wp2
          go_roundw
          case rel => exact ⟨kx + 1, B3, by go_num, by omega, HB3, H14⟩
          case measure => simp [intOf]; omega
        by_cases q1 : kk = 1
        · subst q1
          go_upto_region 15 with fail
          clear c0 c1 c2 c3 c4
          refine region_R [8, 18] [8] (fun W => Sat E W (HP.pt BX (.cells k.vals.toArray 45) * HP.any)) #[false, false, false, false, false, false, false, false, false, false, false, false, false, false, false, false, false, false, false, false, false] (by kernel_rfl) rfl rfl ?_
          have HT : Aside ((fun W => Sat E W (HP.pt BX (.cells k.vals.toArray 45) * HP.any)) _) := ⟨(Sat.anyP_of HS.out).drew⟩
          refine wpR_rd 0 #[true, false, false, false, false, false, false, false, false, false, false, false, false, false, false, false, false, false, false, false, false] rfl onlyN_noPanic (by kernel_rfl) (fun K hK => ?_); (go_simp; try go_bits); refine hK _ ?_; clear hK K
          refine wpR_rd 1 #[true, true, false, false, false, false, false, false, false, false, false, false, false, false, false, false, false, false, false, false, false] rfl onlyN_noPanic (by kernel_rfl) (fun K hK => ?_); (go_simp; try go_bits); refine hK _ ?_; clear hK K
          refine wpR_held (i := 2) (v := .string k.name) #[true, true, true, false, false, false, false, false, false, false, false, false, false, false, false, false, false, false, false, false, false] rfl onlyN_noPanic (by kernel_rfl) HT.out (.inl ⟨rfl, fun w' hT => ?_⟩) ?_
          · obtain ⟨c0, c1, c2, c3, c4⟩ := do_box hT; go_simp
          simp only [Act.put, List.setIfInBounds_toArray, List.set_cons_zero, List.set_cons_succ]
          refine wpR_rd 3 #[true, true, true, true, false, false, false, false, false, false, false, false, false, false, false, false, false, false, false, false, false] rfl onlyN_noPanic (by kernel_rfl) (fun K hK => ?_); (go_simp; try go_bits); refine hK _ ?_; clear hK K
          refine wpR_held (i := 4) (v := .int .i64 k.i) #[true, true, true, true, true, false, false, false, false, false, false, false, false, false, false, false, false, false, false, false, false] rfl onlyN_noPanic (by kernel_rfl) HT.out (.inl ⟨rfl, fun w' hT => ?_⟩) ?_
          · obtain ⟨c0, c1, c2, c3, c4⟩ := do_box hT; go_simp
          simp only [Act.put, List.setIfInBounds_toArray, List.set_cons_zero, List.set_cons_succ]
          refine wpR_rd 5 #[true, true, true, true, true, true, false, false, false, false, false, false, false, false, false, false, false, false, false, false, false] rfl onlyN_noPanic (by kernel_rfl) (fun K hK => ?_); (go_simp; try go_bits); refine hK _ ?_; clear hK K
          refine wpR_held (i := 6) (v := .int .i64 k.gen) #[true, true, true, true, true, true, true, false, false, false, false, false, false, false, false, false, false, false, false, false, false] rfl onlyN_noPanic (by kernel_rfl) HT.out (.inl ⟨rfl, fun w' hT => ?_⟩) ?_
          · obtain ⟨c0, c1, c2, c3, c4⟩ := do_box hT; go_simp
          simp only [Act.put, List.setIfInBounds_toArray, List.set_cons_zero, List.set_cons_succ]
          refine wpR_rd 7 #[true, true, true, true, true, true, true, true, false, false, false, false, false, false, false, false, false, false, false, false, false] rfl onlyN_noPanic (by kernel_rfl) (fun K hK => ?_); (go_simp; try go_bits); refine hK _ ?_; clear hK K
          refine wpR_pu 9 #[true, true, true, true, true, true, true, true, false, true, false, false, false, false, false, false, false, false, false, false, false] rfl onlyN_noPanic (by kernel_rfl) (fun K hK => ?_); (go_simp; try go_bits); refine hK _ ?_; clear hK K
          refine wpR_pu 10 #[true, true, true, true, true, true, true, true, false, true, true, false, false, false, false, false, false, false, false, false, false] rfl onlyN_noPanic (by kernel_rfl) (fun K hK => ?_); (go_simp; try go_bits); refine hK _ ?_; clear hK K
          refine wpR_held (i := 11) (v := .string k.name) #[true, true, true, true, true, true, true, true, false, true, true, true, false, false, false, false, false, false, false, false, false] rfl onlyN_noPanic (by kernel_rfl) HT.out (.inl ⟨rfl, fun w' hT => ?_⟩) ?_
          · obtain ⟨c0, c1, c2, c3, c4⟩ := do_box hT; go_simp
          simp only [Act.put, List.setIfInBounds_toArray, List.set_cons_zero, List.set_cons_succ]
          refine wpR_pu 12 #[true, true, true, true, true, true, true, true, false, true, true, true, true, false, false, false, false, false, false, false, false] rfl onlyN_noPanic (by kernel_rfl) (fun K hK => ?_); (go_simp; try go_bits); refine hK _ ?_; clear hK K
          refine wpR_held (i := 13) (v := .int .i64 k.i) #[true, true, true, true, true, true, true, true, false, true, true, true, true, true, false, false, false, false, false, false, false] rfl onlyN_noPanic (by kernel_rfl) HT.out (.inl ⟨rfl, fun w' hT => ?_⟩) ?_
          · obtain ⟨c0, c1, c2, c3, c4⟩ := do_box hT; go_simp
          simp only [Act.put, List.setIfInBounds_toArray, List.set_cons_zero, List.set_cons_succ]
          refine wpR_pu 14 #[true, true, true, true, true, true, true, true, false, true, true, true, true, true, true, false, false, false, false, false, false] rfl onlyN_noPanic (by kernel_rfl) (fun K hK => ?_); (go_simp; try go_bits); refine hK _ ?_; clear hK K
          refine wpR_held (i := 15) (v := .int .i64 k.gen) #[true, true, true, true, true, true, true, true, false, true, true, true, true, true, true, true, false, false, false, false, false] rfl onlyN_noPanic (by kernel_rfl) HT.out (.inl ⟨rfl, fun w' hT => ?_⟩) ?_
          · obtain ⟨c0, c1, c2, c3, c4⟩ := do_box hT; go_simp
          simp only [Act.put, List.setIfInBounds_toArray, List.set_cons_zero, List.set_cons_succ]
          refine wpR_pu 16 #[true, true, true, true, true, true, true, true, false, true, true, true, true, true, true, true, true, false, false, false, false] rfl onlyN_noPanic (by kernel_rfl) (fun K hK => ?_); (go_simp; try go_bits); refine hK _ ?_; clear hK K
          refine wpR_held (i := 17) (v := .slice k.b.A k.b.l.length k.b.cap) #[true, true, true, true, true, true, true, true, false, true, true, true, true, true, true, true, true, true, false, false, false] rfl onlyN_noPanic (by kernel_rfl) HT.out (.inl ⟨rfl, fun w' hT => ?_⟩) ?_
          · obtain ⟨c0, c1, c2, c3, c4⟩ := do_box hT; go_simp
          simp only [Act.put, List.setIfInBounds_toArray, List.set_cons_zero, List.set_cons_succ]
          clear HT
          have HS0 := Aside.mk HS.out.drew
          clear HS
          revert HS0
          generalize World.drew w2 = W0
          intro HS0
          refine wpR_keep #[true, true, true, true, true, true, true, true, true, true, true, true, true, true, true, true, true, true, false, false, false] (i := 8) rfl (by kernel_rfl) (fun K hK => ?_)
          go_simp
          refine (pair_put E _ d A k.name k.i k.gen Ag k.b.l k.b.l.length cg _ HNM.out rfl HCG.out.1 HOK.out.bytes (fun w h => ⟨HQ.out _ w h.right.right.right, h.right.right.row_cells⟩) (HS0.out.s2)).mono ?_
          rintro e W1 ⟨rfl, hn1a⟩
          have hn1 : Sat E W1 (HP.pt BX (.cells k.vals.toArray 45) * (HP.disk d (putP A k.name k.i k.gen k.b.l).2 * (HP.rdisk y A * (HP.row 5 1 (.slice Ag k.b.l.length cg) k.b.l.length (b8s k.b.l) * q)))) := hn1a.s2
          refine hK _ _ (Sat.anyP_of hn1) ?_
          clear hK K hn1a
          have HS1 : Aside (Sat E W1 (HP.pt BX (.cells k.vals.toArray 45) * (HP.disk d (putP A k.name k.i k.gen k.b.l).2 * (HP.rdisk y A * (HP.row 5 1 (.slice Ag k.b.l.length cg) k.b.l.length (b8s k.b.l) * q))))) := ⟨hn1.perm (by ac_rfl)⟩
          clear hn1
          refine wpR_eff #[true, true, true, true, true, true, true, true, true, true, true, true, true, true, true, true, true, true, true, false, false] (i := 18) rfl (by kernel_rfl) (fun K hK => ?_)
          go_simp
          refine (ref_putp E _ y A k.name k.i k.gen k.b.A k.b.l k.b.l.length k.b.cap _ HNM.out rfl HOK.out.le HOK.out.bytes (fun w h => (HIN.out _ w h.right.right.right).1) (HS1.out.s3)).mono ?_
          rintro e W2 ⟨rfl, hn2a⟩
          have hn2 : Sat E W2 (HP.pt BX (.cells k.vals.toArray 45) * (HP.disk d (putP A k.name k.i k.gen k.b.l).2 * (HP.rdisk y (putP A k.name k.i k.gen k.b.l).2 * (HP.row 5 1 (.slice Ag k.b.l.length cg) k.b.l.length (b8s k.b.l) * q)))) := hn2a.perm (by ac_rfl)
          refine hK _ _ ?_
          clear hK K hn2a
          have HS2 : Aside (Sat E W2 (HP.pt BX (.cells k.vals.toArray 45) * (HP.disk d (putP A k.name k.i k.gen k.b.l).2 * (HP.rdisk y (putP A k.name k.i k.gen k.b.l).2 * (HP.row 5 1 (.slice Ag k.b.l.length cg) k.b.l.length (b8s k.b.l) * q))))) := ⟨hn2.perm (by ac_rfl)⟩
          clear hn2 HS1
          refine wpR_rd 19 #[true, true, true, true, true, true, true, true, true, true, true, true, true, true, true, true, true, true, true, true, false] rfl onlyN_noPanic (by kernel_rfl) (fun K hK => ?_); (go_simp; try go_bits); refine hK _ ?_; clear hK K
          refine wpR_rd 20 #[true, true, true, true, true, true, true, true, true, true, true, true, true, true, true, true, true, true, true, true, true] rfl onlyN_noPanic (by kernel_rfl) (fun K hK => ?_); (go_simp; try go_bits); refine hK _ ?_; clear hK K
          refine wpR_done (by kernel_rfl) ?_ _
          simp only [OnlyN]
          have HS9 := HS2
          clear HS2
          have HB3 : Aside (Dk.Byt (putP A k.name k.i k.gen k.b.l).2) := ⟨HB.out.putP k.name k.i k.gen HOK.out.bytes⟩
          generalize (putP A k.name k.i k.gen k.b.l).2 = B3 at *
          have hcc := do_box HS9.out
          obtain ⟨c0, c1, c2, c3, c4⟩ := hcc
          have H8 : Aside (Sat E W2 (HP.disk d B3 * (HP.rdisk y B3 * (HP.pt BX (.cells k.vals.toArray 45) * (HP.row 5 1 (.slice Ag k.b.l.length cg) k.b.l.length (b8s k.b.l) * q))))) := ⟨HS9.out.perm (by ac_rfl)⟩
          clear HS9
          go_wp2_with fail
          refine (bytesEq_ok Ag k.b.A k.b.l k.b.l k.b.l.length k.b.l.length cg k.b.cap _ rfl rfl H8.out.right.right.right.row_cells (HIN.out _ _ H8.out.right.right.right.right).1 HOK.out.bytes HOK.out.bytes).mono ?_
          rintro e w9 ⟨rfl, hw9⟩
          subst w9
          rw [decide_eq_true rfl]
          clear c0 c1 c2 c3 c4
          go_wp2_with fail
          refine (same_ok E _ d y B3 _ HB3.out H8.out).mono ?_
          rintro e w10 ⟨rfl, h10⟩
          obtain ⟨c0, c1, c2, c3, c4⟩ := do_box (h10.right.right)
          have H10 := Aside.mk h10
          clear h10 H8
          go_wp2_with fail
          refine (pair_load E _ d B3 k.name k.gen _ HNM.out (fun f hf i c hc => HB3.out.reads f i c hc) (fun w h => HQ.out _ w h.right.right.right) H10.out).mono ?_
          intro e w11 h11
          obtain ⟨A1, n1, cc1, X1, rfl, l1, x1, h11⟩ := loadEnd_uni h11
          clear c0 c1 c2 c3 c4
          obtain ⟨c0, c1, c2, c3, c4⟩ := do_box (h11.right.right.right)
          have H11 : Aside (Sat E w11 (HP.rdisk y B3 * (X1 * (HP.disk d B3 * (HP.pt BX (.cells k.vals.toArray 45) * (HP.row 5 1 (.slice Ag k.b.l.length cg) k.b.l.length (b8s k.b.l) * q)))))) := ⟨h11.perm (by ac_rfl)⟩
          have H1 := Aside.mk (And.intro l1 x1)
          obtain ⟨er, her⟩ : ∃ er : Int, er = (if (loadP B3 k.name k.gen).isNone = true then 50 else 0) := ⟨_, rfl⟩
          rw [← her]
          have HER := Aside.mk her
          clear h11 l1 x1 her H10
          go_wp2_with fail
          refine (ref_loadp E _ y B3 k.name k.gen _ HNM.out (fun f hf i c hc => HB3.out.reads f i c hc) (fun s => at_small (H11.out.right.right).disk_fine s) H11.out).mono ?_
          intro e w12 h12
          obtain ⟨A2, n2, cc2, X2, rfl, l2, x2, h12⟩ := loadEnd_uni h12
          rw [← HER.out]
          clear c0 c1 c2 c3 c4
          obtain ⟨c0, c1, c2, c3, c4⟩ := do_box (h12.right.right.right.right)
          have H12 : Aside (Sat E w12 (HP.disk d B3 * (X2 * (X1 * (HP.rdisk y B3 * (HP.pt BX (.cells k.vals.toArray 45) * (HP.row 5 1 (.slice Ag k.b.l.length cg) k.b.l.length (b8s k.b.l) * q))))))) := ⟨h12.perm (by ac_rfl)⟩
          have H2 := Aside.mk (And.intro l2 x2)
          clear h12 l2 x2 H11
          go_wp2_with fail
          refine (pair_get E _ d B3 k.name k.i _ HNM.out (fun f hf c hc => HB3.out.reads f _ c hc) (fun w h => HQ.out _ w h.right.right.right.right.right) H12.out).mono ?_
          rintro e w13 ⟨v13, he, h13⟩
          obtain ⟨A3, n3, cc3, X3, rfl, l3, x3, h13⟩ := getEnd_uni he h13
          clear c0 c1 c2 c3 c4 he
          obtain ⟨c0, c1, c2, c3, c4⟩ := do_box (h13.right.right.right.right.right)
          have H13 : Aside (Sat E w13 (HP.rdisk y B3 * (X3 * (X2 * (X1 * (HP.disk d B3 * (HP.pt BX (.cells k.vals.toArray 45) * (HP.row 5 1 (.slice Ag k.b.l.length cg) k.b.l.length (b8s k.b.l) * q)))))))) := ⟨h13.perm (by ac_rfl)⟩
          have H3 := Aside.mk (And.intro l3 x3)
          obtain ⟨gg, hgg⟩ : ∃ gg : Int, gg = (if (getP B3 k.name k.i).1 < 0 then 0 else (getP B3 k.name k.i).1) := ⟨_, rfl⟩
          obtain ⟨eg, heg⟩ : ∃ eg : Int, eg = (if (getP B3 k.name k.i).1 < 0 then 50 else 0) := ⟨_, rfl⟩
          rw [← hgg, ← heg]
          have HGG := Aside.mk (And.intro hgg heg)
          clear h13 l3 x3 hgg heg H12
          go_wp2_with fail
          refine (ref_getp E _ y B3 k.name k.i _ HNM.out (fun f hf c hc => HB3.out.reads f _ c hc) H13.out).mono ?_
          rintro e w14 ⟨v14, he, h14⟩
          obtain ⟨A4, n4, cc4, X4, rfl, l4, x4, h14⟩ := getEnd_uni he h14
          rw [← HGG.out.1, ← HGG.out.2]
          have HL := Aside.mk (loadP_byt HB3.out k.name k.gen)
          have HG := Aside.mk (gotL_byt HB3.out k.name k.i)
          obtain ⟨L, hL⟩ : ∃ L, L = (loadP B3 k.name k.gen).getD [] := ⟨_, rfl⟩
          obtain ⟨M, hM⟩ : ∃ M, M = gotL (getP B3 k.name k.i) := ⟨_, rfl⟩
          rw [← hL] at H1 H2 HL
          rw [← hM] at H3 HG l4 x4
          have y1 : Cells w14 A1 (b8s L) := H1.out.2 E w14 _ (h14.perm (by ac_rfl : _ = X1 * (X4 * (HP.rdisk y B3 * (X3 * (X2 * (HP.disk d B3 * (HP.pt BX (.cells k.vals.toArray 45) * (HP.row 5 1 (.slice Ag k.b.l.length cg) k.b.l.length (b8s k.b.l) * q)))))))))
          have y2 : Cells w14 A2 (b8s L) := H2.out.2 E w14 _ (h14.perm (by ac_rfl : _ = X2 * (X4 * (HP.rdisk y B3 * (X3 * (X1 * (HP.disk d B3 * (HP.pt BX (.cells k.vals.toArray 45) * (HP.row 5 1 (.slice Ag k.b.l.length cg) k.b.l.length (b8s k.b.l) * q)))))))))
          have y3 : Cells w14 A3 (b8s M) := H3.out.2 E w14 _ (h14.perm (by ac_rfl : _ = X3 * (X4 * (HP.rdisk y B3 * (X2 * (X1 * (HP.disk d B3 * (HP.pt BX (.cells k.vals.toArray 45) * (HP.row 5 1 (.slice Ag k.b.l.length cg) k.b.l.length (b8s k.b.l) * q)))))))))
          have y4 : Cells w14 A4 (b8s M) := x4 E w14 _ h14
          have HY := Aside.mk (And.intro y1 (And.intro y2 (And.intro y3 (And.intro y4 l4))))
          have H14 : Aside (Sat E w14 (HP.disk d B3 * (HP.rdisk y B3 * q))) := ⟨(h14.perm (by ac_rfl : _ = X4 * (X3 * (X2 * (X1 * (HP.pt BX (.cells k.vals.toArray 45) * (HP.row 5 1 (.slice Ag k.b.l.length cg) k.b.l.length (b8s k.b.l) * (HP.disk d B3 * (HP.rdisk y B3 * q))))))))).right.right.right.right.right.right⟩
          clear c0 c1 c2 c3 c4 he h14 l4 x4 y1 y2 y3 y4 H13 hL hM
          go_wp2_with fail
          refine (bytesEq_ok A1 A2 L L n1 n2 cc1 cc2 _ H1.out.1 H2.out.1 HY.out.1 HY.out.2.1 HL.out HL.out).mono ?_
          rintro e w15 ⟨rfl, hw15⟩
          subst w15
          rw [decide_eq_true rfl]
          go_wp2_with fail
          refine (bytesEq_ok A3 A4 M M n3 n4 cc3 cc4 _ H3.out.1 HY.out.2.2.2.2 HY.out.2.2.1 HY.out.2.2.2.1 HG.out HG.out).mono ?_
          rintro e w15 ⟨rfl, hw15⟩
          subst w15
          rw [decide_eq_true rfl]
          clear HY H1 H2 H3 HL HG HGG HER
          go_wp2
          go_roundw
          case rel => exact ⟨kx + 1, B3, by go_num, by omega, HB3, H14⟩
          case measure => simp [intOf]; omega
        by_cases q3 : kk = 3
        · subst q3
          go_upto_region 21 with fail
          clear c0 c1 c2 c3 c4
          refine region_R [3, 7] [3] (fun W => Sat E W (HP.pt BX (.cells k.vals.toArray 45) * HP.any)) #[false, false, false, false, false, false, false, false, false, false] (by kernel_rfl) rfl rfl ?_
          have HT : Aside ((fun W => Sat E W (HP.pt BX (.cells k.vals.toArray 45) * HP.any)) _) := ⟨(Sat.anyP_of HS.out).drew⟩
          refine wpR_rd 0 #[true, false, false, false, false, false, false, false, false, false] rfl onlyN_noPanic (by kernel_rfl) (fun K hK => ?_); (go_simp; try go_bits); refine hK _ ?_; clear hK K
          refine wpR_rd 1 #[true, true, false, false, false, false, false, false, false, false] rfl onlyN_noPanic (by kernel_rfl) (fun K hK => ?_); (go_simp; try go_bits); refine hK _ ?_; clear hK K
          refine wpR_held (i := 2) (v := .string k.name) #[true, true, true, false, false, false, false, false, false, false] rfl onlyN_noPanic (by kernel_rfl) HT.out (.inl ⟨rfl, fun w' hT => ?_⟩) ?_
          · obtain ⟨c0, c1, c2, c3, c4⟩ := do_box hT; go_simp
          simp only [Act.put, List.setIfInBounds_toArray, List.set_cons_zero, List.set_cons_succ]
          refine wpR_pu 4 #[true, true, true, false, true, false, false, false, false, false] rfl onlyN_noPanic (by kernel_rfl) (fun K hK => ?_); (go_simp; try go_bits); refine hK _ ?_; clear hK K
          refine wpR_pu 5 #[true, true, true, false, true, true, false, false, false, false] rfl onlyN_noPanic (by kernel_rfl) (fun K hK => ?_); (go_simp; try go_bits); refine hK _ ?_; clear hK K
          refine wpR_held (i := 6) (v := .string k.name) #[true, true, true, false, true, true, true, false, false, false] rfl onlyN_noPanic (by kernel_rfl) HT.out (.inl ⟨rfl, fun w' hT => ?_⟩) ?_
          · obtain ⟨c0, c1, c2, c3, c4⟩ := do_box hT; go_simp
          simp only [Act.put, List.setIfInBounds_toArray, List.set_cons_zero, List.set_cons_succ]
          clear HT
          have HS0 := Aside.mk HS.out.drew
          clear HS
          revert HS0
          generalize World.drew w2 = W0
          intro HS0
          refine wpR_keep #[true, true, true, true, true, true, true, false, false, false] (i := 3) rfl (by kernel_rfl) (fun K hK => ?_)
          go_simp
          refine (pair_drop E _ d A k.name _ HNM.out (HS0.out.s2)).mono ?_
          rintro e W1 ⟨rfl, hn1a⟩
          have hn1 : Sat E W1 (HP.pt BX (.cells k.vals.toArray 45) * (HP.disk d (dropP A k.name).2 * (HP.rdisk y A * (HP.row 5 1 (.slice Ag k.b.l.length cg) k.b.l.length (b8s k.b.l) * q)))) := hn1a.s2
          refine hK _ _ (Sat.anyP_of hn1) ?_
          clear hK K hn1a
          have HS1 : Aside (Sat E W1 (HP.pt BX (.cells k.vals.toArray 45) * (HP.disk d (dropP A k.name).2 * (HP.rdisk y A * (HP.row 5 1 (.slice Ag k.b.l.length cg) k.b.l.length (b8s k.b.l) * q))))) := ⟨hn1.perm (by ac_rfl)⟩
          clear hn1
          refine wpR_eff #[true, true, true, true, true, true, true, true, false, false] (i := 7) rfl (by kernel_rfl) (fun K hK => ?_)
          go_simp
          refine (ref_dropp E _ y A k.name _ HNM.out (HS1.out.s3)).mono ?_
          rintro e W2 ⟨rfl, hn2a⟩
          have hn2 : Sat E W2 (HP.pt BX (.cells k.vals.toArray 45) * (HP.disk d (dropP A k.name).2 * (HP.rdisk y (dropP A k.name).2 * (HP.row 5 1 (.slice Ag k.b.l.length cg) k.b.l.length (b8s k.b.l) * q)))) := hn2a.perm (by ac_rfl)
          refine hK _ _ ?_
          clear hK K hn2a
          have HS2 : Aside (Sat E W2 (HP.pt BX (.cells k.vals.toArray 45) * (HP.disk d (dropP A k.name).2 * (HP.rdisk y (dropP A k.name).2 * (HP.row 5 1 (.slice Ag k.b.l.length cg) k.b.l.length (b8s k.b.l) * q))))) := ⟨hn2.perm (by ac_rfl)⟩
          clear hn2 HS1
          refine wpR_rd 8 #[true, true, true, true, true, true, true, true, true, false] rfl onlyN_noPanic (by kernel_rfl) (fun K hK => ?_); (go_simp; try go_bits); refine hK _ ?_; clear hK K
          refine wpR_rd 9 #[true, true, true, true, true, true, true, true, true, true] rfl onlyN_noPanic (by kernel_rfl) (fun K hK => ?_); (go_simp; try go_bits); refine hK _ ?_; clear hK K
          refine wpR_done (by kernel_rfl) ?_ _
          simp only [OnlyN]
          have HS9 := HS2
          clear HS2
          have HB3 : Aside (Dk.Byt (dropP A k.name).2) := ⟨(Dk.Byt.dropL _ HB.out : (dropP A k.name).2.Byt)⟩
          generalize (dropP A k.name).2 = B3 at *
          have hcc := do_box HS9.out
          obtain ⟨c0, c1, c2, c3, c4⟩ := hcc
          have H8 : Aside (Sat E W2 (HP.disk d B3 * (HP.rdisk y B3 * (HP.pt BX (.cells k.vals.toArray 45) * (HP.row 5 1 (.slice Ag k.b.l.length cg) k.b.l.length (b8s k.b.l) * q))))) := ⟨HS9.out.perm (by ac_rfl)⟩
          clear HS9
          go_wp2_with fail
          refine (bytesEq_ok Ag k.b.A k.b.l k.b.l k.b.l.length k.b.l.length cg k.b.cap _ rfl rfl H8.out.right.right.right.row_cells (HIN.out _ _ H8.out.right.right.right.right).1 HOK.out.bytes HOK.out.bytes).mono ?_
          rintro e w9 ⟨rfl, hw9⟩
          subst w9
          rw [decide_eq_true rfl]
          clear c0 c1 c2 c3 c4
          go_wp2_with fail
          refine (same_ok E _ d y B3 _ HB3.out H8.out).mono ?_
          rintro e w10 ⟨rfl, h10⟩
          obtain ⟨c0, c1, c2, c3, c4⟩ := do_box (h10.right.right)
          have H10 := Aside.mk h10
          clear h10 H8
          go_wp2_with fail
          refine (pair_load E _ d B3 k.name k.gen _ HNM.out (fun f hf i c hc => HB3.out.reads f i c hc) (fun w h => HQ.out _ w h.right.right.right) H10.out).mono ?_
          intro e w11 h11
          obtain ⟨A1, n1, cc1, X1, rfl, l1, x1, h11⟩ := loadEnd_uni h11
          clear c0 c1 c2 c3 c4
          obtain ⟨c0, c1, c2, c3, c4⟩ := do_box (h11.right.right.right)
          have H11 : Aside (Sat E w11 (HP.rdisk y B3 * (X1 * (HP.disk d B3 * (HP.pt BX (.cells k.vals.toArray 45) * (HP.row 5 1 (.slice Ag k.b.l.length cg) k.b.l.length (b8s k.b.l) * q)))))) := ⟨h11.perm (by ac_rfl)⟩
          have H1 := Aside.mk (And.intro l1 x1)
          obtain ⟨er, her⟩ : ∃ er : Int, er = (if (loadP B3 k.name k.gen).isNone = true then 50 else 0) := ⟨_, rfl⟩
          rw [← her]
          have HER := Aside.mk her
          clear h11 l1 x1 her H10
          go_wp2_with fail
          refine (ref_loadp E _ y B3 k.name k.gen _ HNM.out (fun f hf i c hc => HB3.out.reads f i c hc) (fun s => at_small (H11.out.right.right).disk_fine s) H11.out).mono ?_
          intro e w12 h12
          obtain ⟨A2, n2, cc2, X2, rfl, l2, x2, h12⟩ := loadEnd_uni h12
          rw [← HER.out]
          clear c0 c1 c2 c3 c4
          obtain ⟨c0, c1, c2, c3, c4⟩ := do_box (h12.right.right.right.right)
          have H12 : Aside (Sat E w12 (HP.disk d B3 * (X2 * (X1 * (HP.rdisk y B3 * (HP.pt BX (.cells k.vals.toArray 45) * (HP.row 5 1 (.slice Ag k.b.l.length cg) k.b.l.length (b8s k.b.l) * q))))))) := ⟨h12.perm (by ac_rfl)⟩
          have H2 := Aside.mk (And.intro l2 x2)
          clear h12 l2 x2 H11
          go_wp2_with fail
          refine (pair_get E _ d B3 k.name k.i _ HNM.out (fun f hf c hc => HB3.out.reads f _ c hc) (fun w h => HQ.out _ w h.right.right.right.right.right) H12.out).mono ?_
          rintro e w13 ⟨v13, he, h13⟩
          obtain ⟨A3, n3, cc3, X3, rfl, l3, x3, h13⟩ := getEnd_uni he h13
          clear c0 c1 c2 c3 c4 he
          obtain ⟨c0, c1, c2, c3, c4⟩ := do_box (h13.right.right.right.right.right)
          have H13 : Aside (Sat E w13 (HP.rdisk y B3 * (X3 * (X2 * (X1 * (HP.disk d B3 * (HP.pt BX (.cells k.vals.toArray 45) * (HP.row 5 1 (.slice Ag k.b.l.length cg) k.b.l.length (b8s k.b.l) * q)))))))) := ⟨h13.perm (by ac_rfl)⟩
          have H3 := Aside.mk (And.intro l3 x3)
          obtain ⟨gg, hgg⟩ : ∃ gg : Int, gg = (if (getP B3 k.name k.i).1 < 0 then 0 else (getP B3 k.name k.i).1) := ⟨_, rfl⟩
          obtain ⟨eg, heg⟩ : ∃ eg : Int, eg = (if (getP B3 k.name k.i).1 < 0 then 50 else 0) := ⟨_, rfl⟩
          rw [← hgg, ← heg]
          have HGG := Aside.mk (And.intro hgg heg)
          clear h13 l3 x3 hgg heg H12
          go_wp2_with fail
          refine (ref_getp E _ y B3 k.name k.i _ HNM.out (fun f hf c hc => HB3.out.reads f _ c hc) H13.out).mono ?_
          rintro e w14 ⟨v14, he, h14⟩
          obtain ⟨A4, n4, cc4, X4, rfl, l4, x4, h14⟩ := getEnd_uni he h14
          rw [← HGG.out.1, ← HGG.out.2]
          have HL := Aside.mk (loadP_byt HB3.out k.name k.gen)
          have HG := Aside.mk (gotL_byt HB3.out k.name k.i)
          obtain ⟨L, hL⟩ : ∃ L, L = (loadP B3 k.name k.gen).getD [] := ⟨_, rfl⟩
          obtain ⟨M, hM⟩ : ∃ M, M = gotL (getP B3 k.name k.i) := ⟨_, rfl⟩
          rw [← hL] at H1 H2 HL
          rw [← hM] at H3 HG l4 x4
          have y1 : Cells w14 A1 (b8s L) := H1.out.2 E w14 _ (h14.perm (by ac_rfl : _ = X1 * (X4 * (HP.rdisk y B3 * (X3 * (X2 * (HP.disk d B3 * (HP.pt BX (.cells k.vals.toArray 45) * (HP.row 5 1 (.slice Ag k.b.l.length cg) k.b.l.length (b8s k.b.l) * q)))))))))
          have y2 : Cells w14 A2 (b8s L) := H2.out.2 E w14 _ (h14.perm (by ac_rfl : _ = X2 * (X4 * (HP.rdisk y B3 * (X3 * (X1 * (HP.disk d B3 * (HP.pt BX (.cells k.vals.toArray 45) * (HP.row 5 1 (.slice Ag k.b.l.length cg) k.b.l.length (b8s k.b.l) * q)))))))))
          have y3 : Cells w14 A3 (b8s M) := H3.out.2 E w14 _ (h14.perm (by ac_rfl : _ = X3 * (X4 * (HP.rdisk y B3 * (X2 * (X1 * (HP.disk d B3 * (HP.pt BX (.cells k.vals.toArray 45) * (HP.row 5 1 (.slice Ag k.b.l.length cg) k.b.l.length (b8s k.b.l) * q)))))))))
          have y4 : Cells w14 A4 (b8s M) := x4 E w14 _ h14
          have HY := Aside.mk (And.intro y1 (And.intro y2 (And.intro y3 (And.intro y4 l4))))
          have H14 : Aside (Sat E w14 (HP.disk d B3 * (HP.rdisk y B3 * q))) := ⟨(h14.perm (by ac_rfl : _ = X4 * (X3 * (X2 * (X1 * (HP.pt BX (.cells k.vals.toArray 45) * (HP.row 5 1 (.slice Ag k.b.l.length cg) k.b.l.length (b8s k.b.l) * (HP.disk d B3 * (HP.rdisk y B3 * q))))))))).right.right.right.right.right.right⟩
          clear c0 c1 c2 c3 c4 he h14 l4 x4 y1 y2 y3 y4 H13 hL hM
          go_wp2_with fail
          refine (bytesEq_ok A1 A2 L L n1 n2 cc1 cc2 _ H1.out.1 H2.out.1 HY.out.1 HY.out.2.1 HL.out HL.out).mono ?_
          rintro e w15 ⟨rfl, hw15⟩
          subst w15
          rw [decide_eq_true rfl]
          go_wp2_with fail
          refine (bytesEq_ok A3 A4 M M n3 n4 cc3 cc4 _ H3.out.1 HY.out.2.2.2.2 HY.out.2.2.1 HY.out.2.2.2.1 HG.out HG.out).mono ?_
          rintro e w15 ⟨rfl, hw15⟩
          subst w15
          rw [decide_eq_true rfl]
          clear HY H1 H2 H3 HL HG HGG HER
          go_wp2
          go_roundw
          case rel => exact ⟨kx + 1, B3, by go_num, by omega, HB3, H14⟩
          case measure => simp [intOf]; omega
        by_cases q2 : kk = 2
        · subst q2
          have HSO := Aside.mk HS.out.s2.disk_fine.sorted
          have HS2 := Aside.mk HS.out.s2
          clear HS
          go_wp2_with fail
          refine (pair_mend E _ d A k.name k.i _ HNM.out (fun f hf c hc => HB.out.reads f _ c hc) (fun w h => HQ.out _ w h.right.right.right) HS2.out).mono ?_
          rintro e w5 ⟨rfl, h5⟩
          obtain ⟨⟨wr1, er1⟩, B, hmd⟩ : ∃ r B, mendP A k.name k.i = (r, B) := ⟨_, _, rfl⟩
          have HMD := Aside.mk hmd
          have HB3 : Aside B.Byt := ⟨by have := HB.out.mendP k.name k.i; rw [hmd] at this; exact this⟩
          rw [hmd] at h5 ⊢
          clear hmd c0 c1 c2 c3 c4 HS2
          dsimp only at h5 ⊢
          obtain ⟨c0, c1, c2, c3, c4⟩ := do_box h5.right
          have H5 : Aside (Sat E w5 (HP.rdisk y A * (HP.pt BX (.cells k.vals.toArray 45) * (HP.disk d B * (HP.row 5 1 (.slice Ag k.b.l.length cg) k.b.l.length (b8s k.b.l) * q))))) := ⟨h5.perm (by ac_rfl)⟩
          clear h5
          go_wp2_with fail
          refine (ref_mendp E _ y A k.name k.i _ HNM.out (fun f hf c hc => HB.out.reads f _ c hc) HSO.out H5.out).mono ?_
          rintro e w6 ⟨rfl, h6⟩
          rw [HMD.out] at h6 ⊢
          dsimp only at h6 ⊢
          have HS9 : Aside (Sat E w6 (HP.pt BX (.cells k.vals.toArray 45) * (HP.disk d B * (HP.rdisk y B * (HP.row 5 1 (.slice Ag k.b.l.length cg) k.b.l.length (b8s k.b.l) * q))))) := ⟨h6.perm (by ac_rfl)⟩
          clear h6 H5 HMD c0 c1 c2 c3 c4
          have hcc := do_box HS9.out
          obtain ⟨c0, c1, c2, c3, c4⟩ := hcc
          have H8 : Aside (Sat E w6 (HP.disk d B * (HP.rdisk y B * (HP.pt BX (.cells k.vals.toArray 45) * (HP.row 5 1 (.slice Ag k.b.l.length cg) k.b.l.length (b8s k.b.l) * q))))) := ⟨HS9.out.perm (by ac_rfl)⟩
          clear HS9
          go_wp2_with fail
          refine (bytesEq_ok Ag k.b.A k.b.l k.b.l k.b.l.length k.b.l.length cg k.b.cap _ rfl rfl H8.out.right.right.right.row_cells (HIN.out _ _ H8.out.right.right.right.right).1 HOK.out.bytes HOK.out.bytes).mono ?_
          rintro e w9 ⟨rfl, hw9⟩
          subst w9
          rw [decide_eq_true rfl]
          clear c0 c1 c2 c3 c4
          go_wp2_with fail
          refine (same_ok E _ d y B _ HB3.out H8.out).mono ?_
          rintro e w10 ⟨rfl, h10⟩
          obtain ⟨c0, c1, c2, c3, c4⟩ := do_box (h10.right.right)
          have H10 := Aside.mk h10
          clear h10 H8
          go_wp2_with fail
          refine (pair_load E _ d B k.name k.gen _ HNM.out (fun f hf i c hc => HB3.out.reads f i c hc) (fun w h => HQ.out _ w h.right.right.right) H10.out).mono ?_
          intro e w11 h11
          obtain ⟨A1, n1, cc1, X1, rfl, l1, x1, h11⟩ := loadEnd_uni h11
          clear c0 c1 c2 c3 c4
          obtain ⟨c0, c1, c2, c3, c4⟩ := do_box (h11.right.right.right)
          have H11 : Aside (Sat E w11 (HP.rdisk y B * (X1 * (HP.disk d B * (HP.pt BX (.cells k.vals.toArray 45) * (HP.row 5 1 (.slice Ag k.b.l.length cg) k.b.l.length (b8s k.b.l) * q)))))) := ⟨h11.perm (by ac_rfl)⟩
          have H1 := Aside.mk (And.intro l1 x1)
          obtain ⟨er, her⟩ : ∃ er : Int, er = (if (loadP B k.name k.gen).isNone = true then 50 else 0) := ⟨_, rfl⟩
          rw [← her]
          have HER := Aside.mk her
          clear h11 l1 x1 her H10
          go_wp2_with fail
          refine (ref_loadp E _ y B k.name k.gen _ HNM.out (fun f hf i c hc => HB3.out.reads f i c hc) (fun s => at_small (H11.out.right.right).disk_fine s) H11.out).mono ?_
          intro e w12 h12
          obtain ⟨A2, n2, cc2, X2, rfl, l2, x2, h12⟩ := loadEnd_uni h12
          rw [← HER.out]
          clear c0 c1 c2 c3 c4
          obtain ⟨c0, c1, c2, c3, c4⟩ := do_box (h12.right.right.right.right)
          have H12 : Aside (Sat E w12 (HP.disk d B * (X2 * (X1 * (HP.rdisk y B * (HP.pt BX (.cells k.vals.toArray 45) * (HP.row 5 1 (.slice Ag k.b.l.length cg) k.b.l.length (b8s k.b.l) * q))))))) := ⟨h12.perm (by ac_rfl)⟩
          have H2 := Aside.mk (And.intro l2 x2)
          clear h12 l2 x2 H11
          go_wp2_with fail
          refine (pair_get E _ d B k.name k.i _ HNM.out (fun f hf c hc => HB3.out.reads f _ c hc) (fun w h => HQ.out _ w h.right.right.right.right.right) H12.out).mono ?_
          rintro e w13 ⟨v13, he, h13⟩
          obtain ⟨A3, n3, cc3, X3, rfl, l3, x3, h13⟩ := getEnd_uni he h13
          clear c0 c1 c2 c3 c4 he
          obtain ⟨c0, c1, c2, c3, c4⟩ := do_box (h13.right.right.right.right.right)
          have H13 : Aside (Sat E w13 (HP.rdisk y B * (X3 * (X2 * (X1 * (HP.disk d B * (HP.pt BX (.cells k.vals.toArray 45) * (HP.row 5 1 (.slice Ag k.b.l.length cg) k.b.l.length (b8s k.b.l) * q)))))))) := ⟨h13.perm (by ac_rfl)⟩
          have H3 := Aside.mk (And.intro l3 x3)
          obtain ⟨gg, hgg⟩ : ∃ gg : Int, gg = (if (getP B k.name k.i).1 < 0 then 0 else (getP B k.name k.i).1) := ⟨_, rfl⟩
          obtain ⟨eg, heg⟩ : ∃ eg : Int, eg = (if (getP B k.name k.i).1 < 0 then 50 else 0) := ⟨_, rfl⟩
          rw [← hgg, ← heg]
          have HGG := Aside.mk (And.intro hgg heg)
          clear h13 l3 x3 hgg heg H12
          go_wp2_with fail
          refine (ref_getp E _ y B k.name k.i _ HNM.out (fun f hf c hc => HB3.out.reads f _ c hc) H13.out).mono ?_
          rintro e w14 ⟨v14, he, h14⟩
          obtain ⟨A4, n4, cc4, X4, rfl, l4, x4, h14⟩ := getEnd_uni he h14
          rw [← HGG.out.1, ← HGG.out.2]
          have HL := Aside.mk (loadP_byt HB3.out k.name k.gen)
          have HG := Aside.mk (gotL_byt HB3.out k.name k.i)
          obtain ⟨L, hL⟩ : ∃ L, L = (loadP B k.name k.gen).getD [] := ⟨_, rfl⟩
          obtain ⟨M, hM⟩ : ∃ M, M = gotL (getP B k.name k.i) := ⟨_, rfl⟩
          rw [← hL] at H1 H2 HL
          rw [← hM] at H3 HG l4 x4
          have y1 : Cells w14 A1 (b8s L) := H1.out.2 E w14 _ (h14.perm (by ac_rfl : _ = X1 * (X4 * (HP.rdisk y B * (X3 * (X2 * (HP.disk d B * (HP.pt BX (.cells k.vals.toArray 45) * (HP.row 5 1 (.slice Ag k.b.l.length cg) k.b.l.length (b8s k.b.l) * q)))))))))
          have y2 : Cells w14 A2 (b8s L) := H2.out.2 E w14 _ (h14.perm (by ac_rfl : _ = X2 * (X4 * (HP.rdisk y B * (X3 * (X1 * (HP.disk d B * (HP.pt BX (.cells k.vals.toArray 45) * (HP.row 5 1 (.slice Ag k.b.l.length cg) k.b.l.length (b8s k.b.l) * q)))))))))
          have y3 : Cells w14 A3 (b8s M) := H3.out.2 E w14 _ (h14.perm (by ac_rfl : _ = X3 * (X4 * (HP.rdisk y B * (X2 * (X1 * (HP.disk d B * (HP.pt BX (.cells k.vals.toArray 45) * (HP.row 5 1 (.slice Ag k.b.l.length cg) k.b.l.length (b8s k.b.l) * q)))))))))
          have y4 : Cells w14 A4 (b8s M) := x4 E w14 _ h14
          have HY := Aside.mk (And.intro y1 (And.intro y2 (And.intro y3 (And.intro y4 l4))))
          have H14 : Aside (Sat E w14 (HP.disk d B * (HP.rdisk y B * q))) := ⟨(h14.perm (by ac_rfl : _ = X4 * (X3 * (X2 * (X1 * (HP.pt BX (.cells k.vals.toArray 45) * (HP.row 5 1 (.slice Ag k.b.l.length cg) k.b.l.length (b8s k.b.l) * (HP.disk d B * (HP.rdisk y B * q))))))))).right.right.right.right.right.right⟩
          clear c0 c1 c2 c3 c4 he h14 l4 x4 y1 y2 y3 y4 H13 hL hM
          go_wp2_with fail
          refine (bytesEq_ok A1 A2 L L n1 n2 cc1 cc2 _ H1.out.1 H2.out.1 HY.out.1 HY.out.2.1 HL.out HL.out).mono ?_
          rintro e w15 ⟨rfl, hw15⟩
          subst w15
          rw [decide_eq_true rfl]
          go_wp2_with fail
          refine (bytesEq_ok A3 A4 M M n3 n4 cc3 cc4 _ H3.out.1 HY.out.2.2.2.2 HY.out.2.2.1 HY.out.2.2.2.1 HG.out HG.out).mono ?_
          rintro e w15 ⟨rfl, hw15⟩
          subst w15
          rw [decide_eq_true rfl]
          clear HY H1 H2 H3 HL HG HGG HER
          go_wp2
          go_roundw
          case rel => exact ⟨kx + 1, B, by go_num, by omega, HB3, H14⟩
          case measure => simp [intOf]; omega
        have q4 : kk = 4 := by omega
        subst q4
        clear q0 q1 q2 q3
        obtain ⟨c5, c6, c7, c8, c9, c10, c11, c12⟩ := do_box2 HS.out
        have HS2 : Aside (Sat E w2 (HP.disk d A * (HP.rdisk y A * (HP.pt BX (.cells k.vals.toArray 45) * (HP.row 5 1 (.slice Ag k.b.l.length cg) k.b.l.length (b8s k.b.l) * q))))) := ⟨HS.out.perm (by ac_rfl)⟩
        clear HS
        go_wp2_with fail
        refine (do_ok E _ d y A k.s _ HOK.out.step (fun E w h => (HIN.out E w h.right.right).2) HS2.out).mono ?_
        rintro e w7 ⟨rfl, h7⟩
        have HB3 := Aside.mk (HB.out.stepK HOK.out.step (opK k.s.op))
        have HS9 : Aside (Sat E w7 (HP.pt BX (.cells k.vals.toArray 45) * (HP.disk d (A.stepK k.s (opK k.s.op)) * (HP.rdisk y (A.stepK k.s (opK k.s.op)) * (HP.row 5 1 (.slice Ag k.b.l.length cg) k.b.l.length (b8s k.b.l) * q))))) := ⟨h7.perm (by ac_rfl)⟩
        generalize A.stepK k.s (opK k.s.op) = B3 at *
        clear h7 HS2 c0 c1 c2 c3 c4 c5 c6 c7 c8 c9 c10 c11 c12
        have hcc := do_box HS9.out
        obtain ⟨c0, c1, c2, c3, c4⟩ := hcc
        have H8 : Aside (Sat E w7 (HP.disk d B3 * (HP.rdisk y B3 * (HP.pt BX (.cells k.vals.toArray 45) * (HP.row 5 1 (.slice Ag k.b.l.length cg) k.b.l.length (b8s k.b.l) * q))))) := ⟨HS9.out.perm (by ac_rfl)⟩
        clear HS9
        go_wp2_with fail
        refine (bytesEq_ok Ag k.b.A k.b.l k.b.l k.b.l.length k.b.l.length cg k.b.cap _ rfl rfl H8.out.right.right.right.row_cells (HIN.out _ _ H8.out.right.right.right.right).1 HOK.out.bytes HOK.out.bytes).mono ?_
        rintro e w9 ⟨rfl, hw9⟩
        subst w9
        rw [decide_eq_true rfl]
        clear c0 c1 c2 c3 c4
        go_wp2_with fail
        refine (same_ok E _ d y B3 _ HB3.out H8.out).mono ?_
        rintro e w10 ⟨rfl, h10⟩
        obtain ⟨c0, c1, c2, c3, c4⟩ := do_box (h10.right.right)
        have H10 := Aside.mk h10
        clear h10 H8
        go_wp2_with fail
        refine (pair_load E _ d B3 k.name k.gen _ HNM.out (fun f hf i c hc => HB3.out.reads f i c hc) (fun w h => HQ.out _ w h.right.right.right) H10.out).mono ?_
        intro e w11 h11
        obtain ⟨A1, n1, cc1, X1, rfl, l1, x1, h11⟩ := loadEnd_uni h11
        clear c0 c1 c2 c3 c4
        obtain ⟨c0, c1, c2, c3, c4⟩ := do_box (h11.right.right.right)
        have H11 : Aside (Sat E w11 (HP.rdisk y B3 * (X1 * (HP.disk d B3 * (HP.pt BX (.cells k.vals.toArray 45) * (HP.row 5 1 (.slice Ag k.b.l.length cg) k.b.l.length (b8s k.b.l) * q)))))) := ⟨h11.perm (by ac_rfl)⟩
        have H1 := Aside.mk (And.intro l1 x1)
        obtain ⟨er, her⟩ : ∃ er : Int, er = (if (loadP B3 k.name k.gen).isNone = true then 50 else 0) := ⟨_, rfl⟩
        rw [← her]
        have HER := Aside.mk her
        clear h11 l1 x1 her H10
        go_wp2_with fail
        refine (ref_loadp E _ y B3 k.name k.gen _ HNM.out (fun f hf i c hc => HB3.out.reads f i c hc) (fun s => at_small (H11.out.right.right).disk_fine s) H11.out).mono ?_
        intro e w12 h12
        obtain ⟨A2, n2, cc2, X2, rfl, l2, x2, h12⟩ := loadEnd_uni h12
        rw [← HER.out]
        clear c0 c1 c2 c3 c4
        obtain ⟨c0, c1, c2, c3, c4⟩ := do_box (h12.right.right.right.right)
        have H12 : Aside (Sat E w12 (HP.disk d B3 * (X2 * (X1 * (HP.rdisk y B3 * (HP.pt BX (.cells k.vals.toArray 45) * (HP.row 5 1 (.slice Ag k.b.l.length cg) k.b.l.length (b8s k.b.l) * q))))))) := ⟨h12.perm (by ac_rfl)⟩
        have H2 := Aside.mk (And.intro l2 x2)
        clear h12 l2 x2 H11
        go_wp2_with fail
        refine (pair_get E _ d B3 k.name k.i _ HNM.out (fun f hf c hc => HB3.out.reads f _ c hc) (fun w h => HQ.out _ w h.right.right.right.right.right) H12.out).mono ?_
        rintro e w13 ⟨v13, he, h13⟩
        obtain ⟨A3, n3, cc3, X3, rfl, l3, x3, h13⟩ := getEnd_uni he h13
        clear c0 c1 c2 c3 c4 he
        obtain ⟨c0, c1, c2, c3, c4⟩ := do_box (h13.right.right.right.right.right)
        have H13 : Aside (Sat E w13 (HP.rdisk y B3 * (X3 * (X2 * (X1 * (HP.disk d B3 * (HP.pt BX (.cells k.vals.toArray 45) * (HP.row 5 1 (.slice Ag k.b.l.length cg) k.b.l.length (b8s k.b.l) * q)))))))) := ⟨h13.perm (by ac_rfl)⟩
        have H3 := Aside.mk (And.intro l3 x3)
        obtain ⟨gg, hgg⟩ : ∃ gg : Int, gg = (if (getP B3 k.name k.i).1 < 0 then 0 else (getP B3 k.name k.i).1) := ⟨_, rfl⟩
        obtain ⟨eg, heg⟩ : ∃ eg : Int, eg = (if (getP B3 k.name k.i).1 < 0 then 50 else 0) := ⟨_, rfl⟩
        rw [← hgg, ← heg]
        have HGG := Aside.mk (And.intro hgg heg)
        clear h13 l3 x3 hgg heg H12
        go_wp2_with fail
        refine (ref_getp E _ y B3 k.name k.i _ HNM.out (fun f hf c hc => HB3.out.reads f _ c hc) H13.out).mono ?_
        rintro e w14 ⟨v14, he, h14⟩
        obtain ⟨A4, n4, cc4, X4, rfl, l4, x4, h14⟩ := getEnd_uni he h14
        rw [← HGG.out.1, ← HGG.out.2]
        have HL := Aside.mk (loadP_byt HB3.out k.name k.gen)
        have HG := Aside.mk (gotL_byt HB3.out k.name k.i)
        obtain ⟨L, hL⟩ : ∃ L, L = (loadP B3 k.name k.gen).getD [] := ⟨_, rfl⟩
        obtain ⟨M, hM⟩ : ∃ M, M = gotL (getP B3 k.name k.i) := ⟨_, rfl⟩
        rw [← hL] at H1 H2 HL
        rw [← hM] at H3 HG l4 x4
        have y1 : Cells w14 A1 (b8s L) := H1.out.2 E w14 _ (h14.perm (by ac_rfl : _ = X1 * (X4 * (HP.rdisk y B3 * (X3 * (X2 * (HP.disk d B3 * (HP.pt BX (.cells k.vals.toArray 45) * (HP.row 5 1 (.slice Ag k.b.l.length cg) k.b.l.length (b8s k.b.l) * q)))))))))
        have y2 : Cells w14 A2 (b8s L) := H2.out.2 E w14 _ (h14.perm (by ac_rfl : _ = X2 * (X4 * (HP.rdisk y B3 * (X3 * (X1 * (HP.disk d B3 * (HP.pt BX (.cells k.vals.toArray 45) * (HP.row 5 1 (.slice Ag k.b.l.length cg) k.b.l.length (b8s k.b.l) * q)))))))))
        have y3 : Cells w14 A3 (b8s M) := H3.out.2 E w14 _ (h14.perm (by ac_rfl : _ = X3 * (X4 * (HP.rdisk y B3 * (X2 * (X1 * (HP.disk d B3 * (HP.pt BX (.cells k.vals.toArray 45) * (HP.row 5 1 (.slice Ag k.b.l.length cg) k.b.l.length (b8s k.b.l) * q)))))))))
        have y4 : Cells w14 A4 (b8s M) := x4 E w14 _ h14
        have HY := Aside.mk (And.intro y1 (And.intro y2 (And.intro y3 (And.intro y4 l4))))
        have H14 : Aside (Sat E w14 (HP.disk d B3 * (HP.rdisk y B3 * q))) := ⟨(h14.perm (by ac_rfl : _ = X4 * (X3 * (X2 * (X1 * (HP.pt BX (.cells k.vals.toArray 45) * (HP.row 5 1 (.slice Ag k.b.l.length cg) k.b.l.length (b8s k.b.l) * (HP.disk d B3 * (HP.rdisk y B3 * q))))))))).right.right.right.right.right.right⟩
        clear c0 c1 c2 c3 c4 he h14 l4 x4 y1 y2 y3 y4 H13 hL hM
        go_wp2_with fail
        refine (bytesEq_ok A1 A2 L L n1 n2 cc1 cc2 _ H1.out.1 H2.out.1 HY.out.1 HY.out.2.1 HL.out HL.out).mono ?_
        rintro e w15 ⟨rfl, hw15⟩
        subst w15
        rw [decide_eq_true rfl]
        go_wp2_with fail
        refine (bytesEq_ok A3 A4 M M n3 n4 cc3 cc4 _ H3.out.1 HY.out.2.2.2.2 HY.out.2.2.1 HY.out.2.2.2.1 HG.out HG.out).mono ?_
        rintro e w15 ⟨rfl, hw15⟩
        subst w15
        rw [decide_eq_true rfl]
        clear HY H1 H2 H3 HL HG HGG HER
        go_wp2
        go_roundw
        case rel => exact ⟨kx + 1, B3, by go_num, by omega, HB3, H14⟩
        case measure => simp [intOf]; omega
    · obtain rfl : kx = n := by omega
      have H2 := Aside.mk HS.out.right.right
      clear HS
      go_wp2_with fail
      refine (awake5_ok E q _ (fun w h => HQ.out _ w h) H2.out).mono ?_
      rintro e w2 ⟨rfl, h2⟩
      go_wp2
      go_ret
      exact ⟨rfl, h2⟩
end Go.Proofs.YtmjnnbnbdcadbaaGreatDoor
