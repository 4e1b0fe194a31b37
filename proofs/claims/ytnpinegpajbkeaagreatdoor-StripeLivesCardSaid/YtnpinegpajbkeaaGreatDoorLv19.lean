/- Texts of one claim, one behind the other: SLvW, LaidU, StpT, SLvX. -/
import Derived.Test.YtnpinegpajbkeaaGreatDoorLv18
import Derived.Lib.LaidU8
import Derived.Lib.LaidTab
import Derived.Lay
set_option linter.unusedSimpArgs false
set_option linter.unusedVariables false
namespace Go.Proofs.YtnpinegpajbkeaaGreatDoor
open Go.RowKit HP
structure DoS where
  op : Int
  i : Int
  gen : Int
  fr : Int
  size : Int
  name : ByteArray
  b : Sl Int
  s : StepV
def DoS.vals (k : DoS) : List Value := [.int .i64 k.op, .int .i64 k.i, .int .i64 k.gen, .int .i64 k.fr, .int .i64 k.size, .string k.name, .slice k.b.A k.b.l.length k.b.cap, .int .i64 k.s.op, .int .i64 k.s.i, .int .i64 k.s.at_, .int .i64 k.s.n, .string k.s.name, .slice k.s.b.A k.s.b.l.length k.s.b.cap, .int .u8 k.s.mask, .slice k.s.kept.A k.s.kept.l.length k.s.kept.cap]
structure DoOkS (k : DoS) : Prop where
  op : wf64 k.op
  i : wf64 k.i
  gen : wf64 k.gen
  fr : wf64 k.fr
  size : wf64 k.size
  name : k.name.size ≤ 140737488351232
  le : k.b.l.length ≤ k.b.cap
  cap : k.b.cap ≤ 140737488351232
  bytes : Bytes k.b.l
  step : k.s.Wf
structure DosInS (q : HP) (l : Sl DoS) : Prop where
  len : l.l.length ≤ maxLen
  ok : ∀ k ∈ l.l, DoOkS k
  cells : ∀ E w, Sat E w q → Cells w l.A (l.l.flatMap DoS.vals) ∧ ∀ k ∈ l.l, Cells w k.b.A (b8s k.b.l) ∧ Cells w k.s.b.A (b8s k.s.b.l) ∧ Cells w k.s.kept.A (kepCells k.s.kept.l)
theorem DosInS.at_ {q : HP} {l : Sl DoS} (h : DosInS q l) {E : Env} {w : World} (hw : Sat E w q) {j : Nat} {k : DoS} (hs : l.l[j]? = some k) :
    ∃ g o, l.A = some ⟨g, o, none⟩ ∧ w.cell? ⟨g, o + j * 15, none⟩ = some (.int .i64 k.op) ∧ w.cell? ⟨g, o + j * 15 + 1, none⟩ = some (.int .i64 k.i) ∧ w.cell? ⟨g, o + j * 15 + 2, none⟩ = some (.int .i64 k.gen) ∧ w.cell? ⟨g, o + j * 15 + 3, none⟩ = some (.int .i64 k.fr) ∧ w.cell? ⟨g, o + j * 15 + 4, none⟩ = some (.int .i64 k.size) ∧ w.cell? ⟨g, o + j * 15 + 5, none⟩ = some (.string k.name) ∧ w.cell? ⟨g, o + j * 15 + 6, none⟩ = some (.slice k.b.A k.b.l.length k.b.cap) ∧ w.cell? ⟨g, o + j * 15 + 7, none⟩ = some (.int .i64 k.s.op) ∧ w.cell? ⟨g, o + j * 15 + 8, none⟩ = some (.int .i64 k.s.i) ∧ w.cell? ⟨g, o + j * 15 + 9, none⟩ = some (.int .i64 k.s.at_) ∧ w.cell? ⟨g, o + j * 15 + 10, none⟩ = some (.int .i64 k.s.n) ∧ w.cell? ⟨g, o + j * 15 + 11, none⟩ = some (.string k.s.name) ∧ w.cell? ⟨g, o + j * 15 + 12, none⟩ = some (.slice k.s.b.A k.s.b.l.length k.s.b.cap) ∧ w.cell? ⟨g, o + j * 15 + 13, none⟩ = some (.int .u8 k.s.mask) ∧ w.cell? ⟨g, o + j * 15 + 14, none⟩ = some (.slice k.s.kept.A k.s.kept.l.length k.s.kept.cap) := by
  have hcm := (h.cells _ _ hw).1
  have hg := fun i (hi : i < 15) => flat_get DoS.vals 15 l.l (fun _ => rfl) j i k hs hi
  have g0 := hg 0 (by omega)
  obtain ⟨pa, hpa, -⟩ := hcm _ _ g0
  obtain ⟨g, o, rfl⟩ : ∃ g o, pa = ⟨g, o, none⟩ := slice_addr hcm hpa (List.getElem?_eq_some_iff.1 g0).1
  rw [hpa] at hcm
  have f : ∀ i, i < 15 → ∀ u, k.vals[i]? = some u → w.cell? ⟨g, o + j * 15 + i, none⟩ = some u := fun i hi u hu => by
    have h1 := hcm.some_ (j * 15 + i) u ((hg i hi).trans hu)
    rw [addr_add, ← Nat.add_assoc] at h1
    exact h1
  exact ⟨g, o, hpa, f 0 (by omega) _ rfl, f 1 (by omega) _ rfl, f 2 (by omega) _ rfl, f 3 (by omega) _ rfl, f 4 (by omega) _ rfl, f 5 (by omega) _ rfl, f 6 (by omega) _ rfl, f 7 (by omega) _ rfl, f 8 (by omega) _ rfl, f 9 (by omega) _ rfl, f 10 (by omega) _ rfl, f 11 (by omega) _ rfl, f 12 (by omega) _ rfl, f 13 (by omega) _ rfl, f 14 (by omega) _ rfl⟩
theorem Sat.anyS_of {E : Env} {w : World} {p q : HP} (h : Sat E w (p * q)) : Sat E w (p * HP.any) := Sat.any_of h
theorem dos_box {E : Env} {w : World} {BX : Nat} {k : DoS} {q : HP} (h : Sat E w (HP.pt BX (.cells k.vals.toArray 48) * q)) :
    w.cell? ⟨BX, 0, none⟩ = some (.int .i64 k.op) ∧ w.cell? ⟨BX, 1, none⟩ = some (.int .i64 k.i) ∧ w.cell? ⟨BX, 2, none⟩ = some (.int .i64 k.gen) ∧ w.cell? ⟨BX, 3, none⟩ = some (.int .i64 k.fr) ∧ w.cell? ⟨BX, 4, none⟩ = some (.int .i64 k.size) ∧ w.cell? ⟨BX, 5, none⟩ = some (.string k.name) ∧ w.cell? ⟨BX, 6, none⟩ = some (.slice k.b.A k.b.l.length k.b.cap) := by
  have g := fun j => h.cell j
  exact ⟨by rw [g 0]; rfl, by rw [g 1]; rfl, by rw [g 2]; rfl, by rw [g 3]; rfl, by rw [g 4]; rfl, by rw [g 5]; rfl, by rw [g 6]; rfl⟩
theorem dos_box2 {E : Env} {w : World} {BX : Nat} {k : DoS} {q : HP} (h : Sat E w (HP.pt BX (.cells k.vals.toArray 48) * q)) :
    w.cell? ⟨BX, 7, none⟩ = some (.int .i64 k.s.op) ∧ w.cell? ⟨BX, 8, none⟩ = some (.int .i64 k.s.i) ∧ w.cell? ⟨BX, 9, none⟩ = some (.int .i64 k.s.at_) ∧ w.cell? ⟨BX, 10, none⟩ = some (.int .i64 k.s.n) ∧ w.cell? ⟨BX, 11, none⟩ = some (.string k.s.name) ∧ w.cell? ⟨BX, 12, none⟩ = some (.slice k.s.b.A k.s.b.l.length k.s.b.cap) ∧ w.cell? ⟨BX, 13, none⟩ = some (.int .u8 k.s.mask) ∧ w.cell? ⟨BX, 14, none⟩ = some (.slice k.s.kept.A k.s.kept.l.length k.s.kept.cap) := by
  have g := fun j => h.cell j
  exact ⟨by rw [g 7]; rfl, by rw [g 8]; rfl, by rw [g 9]; rfl, by rw [g 10]; rfl, by rw [g 11]; rfl, by rw [g 12]; rfl, by rw [g 13]; rfl, by rw [g 14]; rfl⟩
set_option maxHeartbeats 16000000 in
set_option maxRecDepth 100000 in
theorem stripeLives_ok (E : Env) (q : HP) (l : Sl StepV) (more : Sl DoS) (w : World) (hst : Steps q l) (hm : DosInS q more) (hq : ∀ E w, Sat E w q → Quarter w) (hw : Sat E w q) :
    Calls Tryz.prog 4 #[l.val, more.val] w fun e w' => e = .returned (.bool true) ∧ Sat E w' q := by
  unfold Sl.val
  have HST := Aside.mk hst
  have HQ := Aside.mk hq
  have HAN := Aside.mk hm
  have HW0 := Aside.mk hw
  have hlen := hm.len
  have hlen3 := hst.len
  unfold maxLen at hlen hlen3
  generalize hN : more.l.length = n at *
  have HN := Aside.mk hN
  clear hN hq hst hm hw
  go_enter Tryz.func4, Tryz.ntmps4
  go_wp2_with fail
  refine (disks_ok E q 80 l _ ⟨by omega, by omega⟩ HST.out HW0.out).mono ?_
  rintro e w1 ⟨d, y, A0, rfl, hb1, hroom, h1⟩
  have H1 := Aside.mk h1
  have HB1 := Aside.mk hb1
  clear h1 hb1 hroom HW0
  go_wp2
  go_loopw [30] (fun v30 wr => ∃ (kx : Nat) (A : Dk), v30 = .int .i64 kx ∧ kx ≤ n ∧ Aside A.Byt ∧ Aside (Sat E wr (HP.disk d A * (HP.rdisk y A * q)))) (fun x _ => n - (intOf x).toNat)
  case atStart => exact ⟨0, A0, rfl, Nat.zero_le _, HB1, H1⟩
  case round =>
    clear H1 HB1
    obtain ⟨kx, A, rfl, hk, HB, HS⟩ := hrel
    by_cases hlt : kx < n
    · obtain ⟨k, ha⟩ : ∃ k, more.l[kx]? = some k := ⟨_, List.getElem?_eq_getElem (by rw [HN.out]; exact hlt)⟩
      have ham : k ∈ more.l := List.mem_of_getElem? ha
      have HOK := Aside.mk (HAN.out.ok k ham)
      have HIN : Aside (∀ E w, Sat E w q → Cells w k.b.A (b8s k.b.l) ∧ Cells w k.s.b.A (b8s k.s.b.l) ∧ Cells w k.s.kept.A (kepCells k.s.kept.l)) := ⟨fun E w h => (HAN.out.cells E w h).2 k ham⟩
      have HNM : Aside (k.name.size + 2 ≤ maxLen) := ⟨by have := HOK.out.name; unfold maxLen; omega⟩
      have HC64 : Aside (k.b.l.length ≤ 140737488351232 ∧ k.b.cap ≤ maxLen) := ⟨by have := HOK.out.le; have := HOK.out.cap; unfold maxLen; omega⟩
      obtain ⟨g, o, hA, g0, g1, g2, g3, g4, g5, g6, g7, g8, g9, g10, g11, g12, g13, g14⟩ := HAN.out.at_ HS.out.right.right ha
      rw [hA]
      have hk0 : (0 : Int) ≤ (kx : Int) := by omega
      have hk1 : (kx : Int) < (n : Int) := by omega
      by_cases h20 : 20 < kx
      · have h20b : (20 : Int) < (kx : Int) := by omega
        have H2 := Aside.mk (HS.out.alloc (.cells #[.int .i64 k.op, .int .i64 k.i, .int .i64 k.gen, .int .i64 k.fr, .int .i64 k.size, .string k.name, .slice k.b.A k.b.l.length k.b.cap, .int .i64 k.s.op, .int .i64 k.s.i, .int .i64 k.s.at_, .int .i64 k.s.n, .string k.s.name, .slice k.s.b.A k.s.b.l.length k.s.b.cap, .int .u8 k.s.mask, .slice k.s.kept.A k.s.kept.l.length k.s.kept.cap] 48)).right.right.right
        clear ha ham hA HS
        go_wp2_with fail
        refine (awake6_ok E q _ (fun w h => HQ.out _ w h) H2.out).mono ?_
        rintro e w2 ⟨rfl, h2⟩
        go_wp2
        go_ret
        exact ⟨rfl, h2⟩
      · have h20b : ¬ (20 : Int) < (kx : Int) := by omega
        have H2 := Aside.mk (HS.out.alloc (.cells #[.int .i64 k.op, .int .i64 k.i, .int .i64 k.gen, .int .i64 k.fr, .int .i64 k.size, .string k.name, .slice k.b.A k.b.l.length k.b.cap, .int .i64 k.s.op, .int .i64 k.s.i, .int .i64 k.s.at_, .int .i64 k.s.n, .string k.s.name, .slice k.s.b.A k.s.b.l.length k.s.b.cap, .int .u8 k.s.mask, .slice k.s.kept.A k.s.kept.l.length k.s.kept.cap] 48))
        obtain ⟨kk, hkk5, hzk⟩ : ∃ kk : Nat, kk < 5 ∧ wrap64 ((IntKind.u64.wrap k.op).tmod 5) = (kk : Int) := by
          rw [IntKind.wrap_u64, tmod_of_emod]
          refine ⟨(k.op % 18446744073709551616 % 5).toNat, by omega, ?_⟩
          rw [Int.toNat_of_nonneg (by omega)]
          unfold wrap64
          omega
        clear ha ham hA HS
        go_wp2_with fail
        refine (bytesClone_ok E _ k.b.A k.b.l k.b.l.length k.b.cap _ rfl HC64.out.1 H2.out (HIN.out _ _ H2.out.right.right.right).1).mono ?_
        rintro e w2 ⟨vg, rfl, h3⟩
        obtain ⟨Ag, cg, rfl, hcg, hcgm⟩ := h3.row_slice
        have HCG := Aside.mk (And.intro hcg hcgm)
        clear hcg hcgm
        obtain ⟨BX, hBX⟩ : ∃ BX, BX = wr.heap.size := ⟨_, rfl⟩
        rw [← hBX] at h3 ⊢
        have HS : Aside (Sat E w2 (HP.pt BX (.cells k.vals.toArray 48) * (HP.disk d A * (HP.rdisk y A * (HP.row 5 1 (.slice Ag k.b.l.length cg) k.b.l.length (b8s k.b.l) * q))))) := ⟨h3.perm (by show _ = _; unfold DoS.vals; ac_rfl)⟩
        obtain ⟨c0, c1, c2, c3, c4, c5, c6⟩ := dos_box HS.out
        clear h3 H2 g0 g1 g2 g3 g4 g5 g6 g7 g8 g9 g10 g11 g12 g13 g14 hBX
        by_cases q0 : kk = 0
        · subst q0
          go_upto_region 14 with fail
          clear c0 c1 c2 c3 c4 c5 c6
          refine region_R [6, 14] [6] (fun W => Sat E W (HP.pt BX (.cells k.vals.toArray 48) * HP.any)) #[false, false, false, false, false, false, false, false, false, false, false, false, false, false, false, false, false] (by kernel_rfl) rfl rfl ?_
          have HT : Aside ((fun W => Sat E W (HP.pt BX (.cells k.vals.toArray 48) * HP.any)) _) := ⟨(Sat.anyS_of HS.out).drew⟩
          refine wpR_rd 0 #[true, false, false, false, false, false, false, false, false, false, false, false, false, false, false, false, false] rfl onlyN_noPanic (by kernel_rfl) (fun K hK => ?_); (go_simp; try go_bits); refine hK _ ?_; clear hK K
          refine wpR_rd 1 #[true, true, false, false, false, false, false, false, false, false, false, false, false, false, false, false, false] rfl onlyN_noPanic (by kernel_rfl) (fun K hK => ?_); (go_simp; try go_bits); refine hK _ ?_; clear hK K
          refine wpR_held (i := 2) (v := .string k.name) #[true, true, true, false, false, false, false, false, false, false, false, false, false, false, false, false, false] rfl onlyN_noPanic (by kernel_rfl) HT.out (.inl ⟨rfl, fun w' hT => ?_⟩) ?_
          · obtain ⟨c0, c1, c2, c3, c4, c5, c6⟩ := dos_box hT; go_simp
          simp only [Act.put, List.setIfInBounds_toArray, List.set_cons_zero, List.set_cons_succ]
          refine wpR_rd 3 #[true, true, true, true, false, false, false, false, false, false, false, false, false, false, false, false, false] rfl onlyN_noPanic (by kernel_rfl) (fun K hK => ?_); (go_simp; try go_bits); refine hK _ ?_; clear hK K
          refine wpR_held (i := 4) (v := .int .i64 k.gen) #[true, true, true, true, true, false, false, false, false, false, false, false, false, false, false, false, false] rfl onlyN_noPanic (by kernel_rfl) HT.out (.inl ⟨rfl, fun w' hT => ?_⟩) ?_
          · obtain ⟨c0, c1, c2, c3, c4, c5, c6⟩ := dos_box hT; go_simp
          simp only [Act.put, List.setIfInBounds_toArray, List.set_cons_zero, List.set_cons_succ]
          refine wpR_rd 5 #[true, true, true, true, true, true, false, false, false, false, false, false, false, false, false, false, false] rfl onlyN_noPanic (by kernel_rfl) (fun K hK => ?_); (go_simp; try go_bits); refine hK _ ?_; clear hK K
          refine wpR_pu 7 #[true, true, true, true, true, true, false, true, false, false, false, false, false, false, false, false, false] rfl onlyN_noPanic (by kernel_rfl) (fun K hK => ?_); (go_simp; try go_bits); refine hK _ ?_; clear hK K
          refine wpR_pu 8 #[true, true, true, true, true, true, false, true, true, false, false, false, false, false, false, false, false] rfl onlyN_noPanic (by kernel_rfl) (fun K hK => ?_); (go_simp; try go_bits); refine hK _ ?_; clear hK K
          refine wpR_held (i := 9) (v := .string k.name) #[true, true, true, true, true, true, false, true, true, true, false, false, false, false, false, false, false] rfl onlyN_noPanic (by kernel_rfl) HT.out (.inl ⟨rfl, fun w' hT => ?_⟩) ?_
          · obtain ⟨c0, c1, c2, c3, c4, c5, c6⟩ := dos_box hT; go_simp
          simp only [Act.put, List.setIfInBounds_toArray, List.set_cons_zero, List.set_cons_succ]
          refine wpR_pu 10 #[true, true, true, true, true, true, false, true, true, true, true, false, false, false, false, false, false] rfl onlyN_noPanic (by kernel_rfl) (fun K hK => ?_); (go_simp; try go_bits); refine hK _ ?_; clear hK K
          refine wpR_held (i := 11) (v := .int .i64 k.gen) #[true, true, true, true, true, true, false, true, true, true, true, true, false, false, false, false, false] rfl onlyN_noPanic (by kernel_rfl) HT.out (.inl ⟨rfl, fun w' hT => ?_⟩) ?_
          · obtain ⟨c0, c1, c2, c3, c4, c5, c6⟩ := dos_box hT; go_simp
          simp only [Act.put, List.setIfInBounds_toArray, List.set_cons_zero, List.set_cons_succ]
          refine wpR_pu 12 #[true, true, true, true, true, true, false, true, true, true, true, true, true, false, false, false, false] rfl onlyN_noPanic (by kernel_rfl) (fun K hK => ?_); (go_simp; try go_bits); refine hK _ ?_; clear hK K
          refine wpR_held (i := 13) (v := .slice k.b.A k.b.l.length k.b.cap) #[true, true, true, true, true, true, false, true, true, true, true, true, true, true, false, false, false] rfl onlyN_noPanic (by kernel_rfl) HT.out (.inl ⟨rfl, fun w' hT => ?_⟩) ?_
          · obtain ⟨c0, c1, c2, c3, c4, c5, c6⟩ := dos_box hT; go_simp
          simp only [Act.put, List.setIfInBounds_toArray, List.set_cons_zero, List.set_cons_succ]
          clear HT
          have HS0 := Aside.mk HS.out.drew
          clear HS
          revert HS0
          generalize World.drew w2 = W0
          intro HS0
          refine wpR_keep #[true, true, true, true, true, true, true, true, true, true, true, true, true, true, false, false, false] (i := 6) rfl (by kernel_rfl) (fun K hK => ?_)
          go_simp
          refine (stripe_storex E _ d A k.name k.gen Ag k.b.l k.b.l.length cg _ HNM.out rfl HCG.out.1 HCG.out.2 HC64.out.1 HOK.out.bytes (fun w h => ⟨HQ.out _ w h.right.right.right, h.right.right.row_cells⟩) (HS0.out.s2)).mono ?_
          rintro e W1 ⟨rfl, hn1a⟩
          have hn1 : Sat E W1 (HP.pt BX (.cells k.vals.toArray 48) * (HP.disk d (storeX A k.name k.gen k.b.l).2 * (HP.rdisk y A * (HP.row 5 1 (.slice Ag k.b.l.length cg) k.b.l.length (b8s k.b.l) * q)))) := hn1a.s2
          refine hK _ _ (Sat.anyS_of hn1) ?_
          clear hK K hn1a
          have HS1 : Aside (Sat E W1 (HP.pt BX (.cells k.vals.toArray 48) * (HP.disk d (storeX A k.name k.gen k.b.l).2 * (HP.rdisk y A * (HP.row 5 1 (.slice Ag k.b.l.length cg) k.b.l.length (b8s k.b.l) * q))))) := ⟨hn1.perm (by ac_rfl)⟩
          clear hn1
          refine wpR_eff #[true, true, true, true, true, true, true, true, true, true, true, true, true, true, true, false, false] (i := 14) rfl (by kernel_rfl) (fun K hK => ?_)
          go_simp
          refine (ref6_storex E _ y A k.name k.gen k.b.A k.b.l k.b.l.length k.b.cap _ HNM.out rfl HOK.out.le HC64.out.2 HC64.out.1 HOK.out.bytes (fun w h => (HIN.out _ w h.right.right.right).1) (HS1.out.s3)).mono ?_
          rintro e W2 ⟨rfl, hn2a⟩
          have hn2 : Sat E W2 (HP.pt BX (.cells k.vals.toArray 48) * (HP.disk d (storeX A k.name k.gen k.b.l).2 * (HP.rdisk y (storeX A k.name k.gen k.b.l).2 * (HP.row 5 1 (.slice Ag k.b.l.length cg) k.b.l.length (b8s k.b.l) * q)))) := hn2a.perm (by ac_rfl)
          refine hK _ _ ?_
          clear hK K hn2a
          have HS2 : Aside (Sat E W2 (HP.pt BX (.cells k.vals.toArray 48) * (HP.disk d (storeX A k.name k.gen k.b.l).2 * (HP.rdisk y (storeX A k.name k.gen k.b.l).2 * (HP.row 5 1 (.slice Ag k.b.l.length cg) k.b.l.length (b8s k.b.l) * q))))) := ⟨hn2.perm (by ac_rfl)⟩
          clear hn2 HS1
          refine wpR_rd 15 #[true, true, true, true, true, true, true, true, true, true, true, true, true, true, true, true, false] rfl onlyN_noPanic (by kernel_rfl) (fun K hK => ?_); (go_simp; try go_bits); refine hK _ ?_; clear hK K
          refine wpR_rd 16 #[true, true, true, true, true, true, true, true, true, true, true, true, true, true, true, true, true] rfl onlyN_noPanic (by kernel_rfl) (fun K hK => ?_); (go_simp; try go_bits); refine hK _ ?_; clear hK K
          refine wpR_done (by kernel_rfl) ?_ _
          simp only [OnlyN]
          have HS9 := HS2
          clear HS2
          have HB3 : Aside (Dk.Byt (storeX A k.name k.gen k.b.l).2) := ⟨HB.out.storeX k.name k.gen HOK.out.bytes⟩
          generalize (storeX A k.name k.gen k.b.l).2 = B3 at *
          have hcc := dos_box HS9.out
          obtain ⟨c0, c1, c2, c3, c4, c5, c6⟩ := hcc
          have H8 : Aside (Sat E W2 (HP.disk d B3 * (HP.rdisk y B3 * (HP.pt BX (.cells k.vals.toArray 48) * (HP.row 5 1 (.slice Ag k.b.l.length cg) k.b.l.length (b8s k.b.l) * q))))) := ⟨HS9.out.perm (by ac_rfl)⟩
          clear HS9
          go_wp2_with fail
          refine (bytesEq_ok Ag k.b.A k.b.l k.b.l k.b.l.length k.b.l.length cg k.b.cap _ rfl rfl H8.out.right.right.right.row_cells (HIN.out _ _ H8.out.right.right.right.right).1 HOK.out.bytes HOK.out.bytes).mono ?_
          rintro e w9 ⟨rfl, hw9⟩
          subst w9
          rw [decide_eq_true rfl]
          clear c0 c1 c2 c3 c4 c5 c6
          go_wp2_with fail
          refine (same_ok E _ d y B3 _ HB3.out H8.out).mono ?_
          rintro e w10 ⟨rfl, h10⟩
          obtain ⟨c0, c1, c2, c3, c4, c5, c6⟩ := dos_box (h10.right.right)
          have H10 := Aside.mk h10
          clear h10 H8
          go_wp2_with fail
          refine (stripe_partx E _ d B3 k.name k.gen k.fr k.size _ HNM.out HOK.out.fr HOK.out.size HB3.out (fun w h => HQ.out _ w h.right.right.right) H10.out).mono ?_
          rintro e w11 ⟨A1, n1, X1, rfl, l1, h11, x1⟩
          clear c0 c1 c2 c3 c4 c5 c6
          obtain ⟨c0, c1, c2, c3, c4, c5, c6⟩ := dos_box (h11.right.right.right)
          obtain ⟨P, ec, hpx⟩ : ∃ P ec, partX B3 k.name k.gen k.fr k.size = (P, ec) := ⟨_, _, rfl⟩
          have HPX := Aside.mk hpx
          rw [hpx] at l1 x1 ⊢
          dsimp only at l1 x1 ⊢
          have H11 : Aside (Sat E w11 (HP.rdisk y B3 * (X1 * (HP.disk d B3 * (HP.pt BX (.cells k.vals.toArray 48) * (HP.row 5 1 (.slice Ag k.b.l.length cg) k.b.l.length (b8s k.b.l) * q)))))) := ⟨h11.perm (by ac_rfl)⟩
          have H1 := Aside.mk x1
          clear h11 x1 hpx H10
          go_wp2_with fail
          refine (ref6_partx E _ y B3 k.name k.gen k.fr k.size _ HNM.out HOK.out.fr HOK.out.size HB3.out H11.out).mono ?_
          rintro e w12 ⟨A2, n2, X2, rfl, l2, h12, x2⟩
          rw [HPX.out] at l2 x2 ⊢
          dsimp only at l2 x2 ⊢
          have HPB : Aside (Bytes P) := ⟨by have := partX_byt HB3.out k.name k.gen k.fr k.size; rw [HPX.out] at this; exact this⟩
          have y1 : Cells w12 A1 (b8s P) := H1.out w12 _ (h12.perm (by ac_rfl : _ = X1 * (X2 * (HP.rdisk y B3 * (HP.disk d B3 * (HP.pt BX (.cells k.vals.toArray 48) * (HP.row 5 1 (.slice Ag k.b.l.length cg) k.b.l.length (b8s k.b.l) * q)))))))
          have y2 : Cells w12 A2 (b8s P) := x2 w12 _ h12
          have HY := Aside.mk (And.intro y1 y2)
          have H14 : Aside (Sat E w12 (HP.disk d B3 * (HP.rdisk y B3 * q))) := ⟨(h12.perm (by ac_rfl : _ = X2 * (X1 * (HP.pt BX (.cells k.vals.toArray 48) * (HP.row 5 1 (.slice Ag k.b.l.length cg) k.b.l.length (b8s k.b.l) * (HP.disk d B3 * (HP.rdisk y B3 * q))))))).right.right.right.right⟩
          clear c0 c1 c2 c3 c4 c5 c6 h12 x2 y1 y2 H11 H1 HPX
          go_wp2_with fail
          refine (bytesEq_ok A1 A2 P P P.length P.length n1 n2 _ rfl rfl HY.out.1 HY.out.2 HPB.out HPB.out).mono ?_
          rintro e w15 ⟨rfl, hw15⟩
          subst w15
          rw [decide_eq_true rfl]
          clear HY HPB
          go_wp2
          go_roundw
          case rel => exact ⟨kx + 1, B3, by go_num, by omega, HB3, H14⟩
          case measure => simp [intOf]; omega
        by_cases q1 : kk = 1
        · subst q1
          go_upto_region 14 with fail
          clear c0 c1 c2 c3 c4 c5 c6
          refine region_R [6, 14] [6] (fun W => Sat E W (HP.pt BX (.cells k.vals.toArray 48) * HP.any)) #[false, false, false, false, false, false, false, false, false, false, false, false, false, false, false, false, false] (by kernel_rfl) rfl rfl ?_
          have HT : Aside ((fun W => Sat E W (HP.pt BX (.cells k.vals.toArray 48) * HP.any)) _) := ⟨(Sat.anyS_of HS.out).drew⟩
          refine wpR_rd 0 #[true, false, false, false, false, false, false, false, false, false, false, false, false, false, false, false, false] rfl onlyN_noPanic (by kernel_rfl) (fun K hK => ?_); (go_simp; try go_bits); refine hK _ ?_; clear hK K
          refine wpR_rd 1 #[true, true, false, false, false, false, false, false, false, false, false, false, false, false, false, false, false] rfl onlyN_noPanic (by kernel_rfl) (fun K hK => ?_); (go_simp; try go_bits); refine hK _ ?_; clear hK K
          refine wpR_held (i := 2) (v := .string k.name) #[true, true, true, false, false, false, false, false, false, false, false, false, false, false, false, false, false] rfl onlyN_noPanic (by kernel_rfl) HT.out (.inl ⟨rfl, fun w' hT => ?_⟩) ?_
          · obtain ⟨c0, c1, c2, c3, c4, c5, c6⟩ := dos_box hT; go_simp
          simp only [Act.put, List.setIfInBounds_toArray, List.set_cons_zero, List.set_cons_succ]
          refine wpR_rd 3 #[true, true, true, true, false, false, false, false, false, false, false, false, false, false, false, false, false] rfl onlyN_noPanic (by kernel_rfl) (fun K hK => ?_); (go_simp; try go_bits); refine hK _ ?_; clear hK K
          refine wpR_held (i := 4) (v := .int .i64 k.gen) #[true, true, true, true, true, false, false, false, false, false, false, false, false, false, false, false, false] rfl onlyN_noPanic (by kernel_rfl) HT.out (.inl ⟨rfl, fun w' hT => ?_⟩) ?_
          · obtain ⟨c0, c1, c2, c3, c4, c5, c6⟩ := dos_box hT; go_simp
          simp only [Act.put, List.setIfInBounds_toArray, List.set_cons_zero, List.set_cons_succ]
          refine wpR_rd 5 #[true, true, true, true, true, true, false, false, false, false, false, false, false, false, false, false, false] rfl onlyN_noPanic (by kernel_rfl) (fun K hK => ?_); (go_simp; try go_bits); refine hK _ ?_; clear hK K
          refine wpR_pu 7 #[true, true, true, true, true, true, false, true, false, false, false, false, false, false, false, false, false] rfl onlyN_noPanic (by kernel_rfl) (fun K hK => ?_); (go_simp; try go_bits); refine hK _ ?_; clear hK K
          refine wpR_pu 8 #[true, true, true, true, true, true, false, true, true, false, false, false, false, false, false, false, false] rfl onlyN_noPanic (by kernel_rfl) (fun K hK => ?_); (go_simp; try go_bits); refine hK _ ?_; clear hK K
          refine wpR_held (i := 9) (v := .string k.name) #[true, true, true, true, true, true, false, true, true, true, false, false, false, false, false, false, false] rfl onlyN_noPanic (by kernel_rfl) HT.out (.inl ⟨rfl, fun w' hT => ?_⟩) ?_
          · obtain ⟨c0, c1, c2, c3, c4, c5, c6⟩ := dos_box hT; go_simp
          simp only [Act.put, List.setIfInBounds_toArray, List.set_cons_zero, List.set_cons_succ]
          refine wpR_pu 10 #[true, true, true, true, true, true, false, true, true, true, true, false, false, false, false, false, false] rfl onlyN_noPanic (by kernel_rfl) (fun K hK => ?_); (go_simp; try go_bits); refine hK _ ?_; clear hK K
          refine wpR_held (i := 11) (v := .int .i64 k.gen) #[true, true, true, true, true, true, false, true, true, true, true, true, false, false, false, false, false] rfl onlyN_noPanic (by kernel_rfl) HT.out (.inl ⟨rfl, fun w' hT => ?_⟩) ?_
          · obtain ⟨c0, c1, c2, c3, c4, c5, c6⟩ := dos_box hT; go_simp
          simp only [Act.put, List.setIfInBounds_toArray, List.set_cons_zero, List.set_cons_succ]
          refine wpR_pu 12 #[true, true, true, true, true, true, false, true, true, true, true, true, true, false, false, false, false] rfl onlyN_noPanic (by kernel_rfl) (fun K hK => ?_); (go_simp; try go_bits); refine hK _ ?_; clear hK K
          refine wpR_held (i := 13) (v := .slice k.b.A k.b.l.length k.b.cap) #[true, true, true, true, true, true, false, true, true, true, true, true, true, true, false, false, false] rfl onlyN_noPanic (by kernel_rfl) HT.out (.inl ⟨rfl, fun w' hT => ?_⟩) ?_
          · obtain ⟨c0, c1, c2, c3, c4, c5, c6⟩ := dos_box hT; go_simp
          simp only [Act.put, List.setIfInBounds_toArray, List.set_cons_zero, List.set_cons_succ]
          clear HT
          have HS0 := Aside.mk HS.out.drew
          clear HS
          revert HS0
          generalize World.drew w2 = W0
          intro HS0
          refine wpR_keep #[true, true, true, true, true, true, true, true, true, true, true, true, true, true, false, false, false] (i := 6) rfl (by kernel_rfl) (fun K hK => ?_)
          go_simp
          refine (stripe_storex E _ d A k.name k.gen Ag k.b.l k.b.l.length cg _ HNM.out rfl HCG.out.1 HCG.out.2 HC64.out.1 HOK.out.bytes (fun w h => ⟨HQ.out _ w h.right.right.right, h.right.right.row_cells⟩) (HS0.out.s2)).mono ?_
          rintro e W1 ⟨rfl, hn1a⟩
          have hn1 : Sat E W1 (HP.pt BX (.cells k.vals.toArray 48) * (HP.disk d (storeX A k.name k.gen k.b.l).2 * (HP.rdisk y A * (HP.row 5 1 (.slice Ag k.b.l.length cg) k.b.l.length (b8s k.b.l) * q)))) := hn1a.s2
          refine hK _ _ (Sat.anyS_of hn1) ?_
          clear hK K hn1a
          have HS1 : Aside (Sat E W1 (HP.pt BX (.cells k.vals.toArray 48) * (HP.disk d (storeX A k.name k.gen k.b.l).2 * (HP.rdisk y A * (HP.row 5 1 (.slice Ag k.b.l.length cg) k.b.l.length (b8s k.b.l) * q))))) := ⟨hn1.perm (by ac_rfl)⟩
          clear hn1
          refine wpR_eff #[true, true, true, true, true, true, true, true, true, true, true, true, true, true, true, false, false] (i := 14) rfl (by kernel_rfl) (fun K hK => ?_)
          go_simp
          refine (ref6_storex E _ y A k.name k.gen k.b.A k.b.l k.b.l.length k.b.cap _ HNM.out rfl HOK.out.le HC64.out.2 HC64.out.1 HOK.out.bytes (fun w h => (HIN.out _ w h.right.right.right).1) (HS1.out.s3)).mono ?_
          rintro e W2 ⟨rfl, hn2a⟩
          have hn2 : Sat E W2 (HP.pt BX (.cells k.vals.toArray 48) * (HP.disk d (storeX A k.name k.gen k.b.l).2 * (HP.rdisk y (storeX A k.name k.gen k.b.l).2 * (HP.row 5 1 (.slice Ag k.b.l.length cg) k.b.l.length (b8s k.b.l) * q)))) := hn2a.perm (by ac_rfl)
          refine hK _ _ ?_
          clear hK K hn2a
          have HS2 : Aside (Sat E W2 (HP.pt BX (.cells k.vals.toArray 48) * (HP.disk d (storeX A k.name k.gen k.b.l).2 * (HP.rdisk y (storeX A k.name k.gen k.b.l).2 * (HP.row 5 1 (.slice Ag k.b.l.length cg) k.b.l.length (b8s k.b.l) * q))))) := ⟨hn2.perm (by ac_rfl)⟩
          clear hn2 HS1
          refine wpR_rd 15 #[true, true, true, true, true, true, true, true, true, true, true, true, true, true, true, true, false] rfl onlyN_noPanic (by kernel_rfl) (fun K hK => ?_); (go_simp; try go_bits); refine hK _ ?_; clear hK K
          refine wpR_rd 16 #[true, true, true, true, true, true, true, true, true, true, true, true, true, true, true, true, true] rfl onlyN_noPanic (by kernel_rfl) (fun K hK => ?_); (go_simp; try go_bits); refine hK _ ?_; clear hK K
          refine wpR_done (by kernel_rfl) ?_ _
          simp only [OnlyN]
          have HS9 := HS2
          clear HS2
          have HB3 : Aside (Dk.Byt (storeX A k.name k.gen k.b.l).2) := ⟨HB.out.storeX k.name k.gen HOK.out.bytes⟩
          generalize (storeX A k.name k.gen k.b.l).2 = B3 at *
          have hcc := dos_box HS9.out
          obtain ⟨c0, c1, c2, c3, c4, c5, c6⟩ := hcc
          have H8 : Aside (Sat E W2 (HP.disk d B3 * (HP.rdisk y B3 * (HP.pt BX (.cells k.vals.toArray 48) * (HP.row 5 1 (.slice Ag k.b.l.length cg) k.b.l.length (b8s k.b.l) * q))))) := ⟨HS9.out.perm (by ac_rfl)⟩
          clear HS9
          go_wp2_with fail
          refine (bytesEq_ok Ag k.b.A k.b.l k.b.l k.b.l.length k.b.l.length cg k.b.cap _ rfl rfl H8.out.right.right.right.row_cells (HIN.out _ _ H8.out.right.right.right.right).1 HOK.out.bytes HOK.out.bytes).mono ?_
          rintro e w9 ⟨rfl, hw9⟩
          subst w9
          rw [decide_eq_true rfl]
          clear c0 c1 c2 c3 c4 c5 c6
          go_wp2_with fail
          refine (same_ok E _ d y B3 _ HB3.out H8.out).mono ?_
          rintro e w10 ⟨rfl, h10⟩
          obtain ⟨c0, c1, c2, c3, c4, c5, c6⟩ := dos_box (h10.right.right)
          have H10 := Aside.mk h10
          clear h10 H8
          go_wp2_with fail
          refine (stripe_partx E _ d B3 k.name k.gen k.fr k.size _ HNM.out HOK.out.fr HOK.out.size HB3.out (fun w h => HQ.out _ w h.right.right.right) H10.out).mono ?_
          rintro e w11 ⟨A1, n1, X1, rfl, l1, h11, x1⟩
          clear c0 c1 c2 c3 c4 c5 c6
          obtain ⟨c0, c1, c2, c3, c4, c5, c6⟩ := dos_box (h11.right.right.right)
          obtain ⟨P, ec, hpx⟩ : ∃ P ec, partX B3 k.name k.gen k.fr k.size = (P, ec) := ⟨_, _, rfl⟩
          have HPX := Aside.mk hpx
          rw [hpx] at l1 x1 ⊢
          dsimp only at l1 x1 ⊢
          have H11 : Aside (Sat E w11 (HP.rdisk y B3 * (X1 * (HP.disk d B3 * (HP.pt BX (.cells k.vals.toArray 48) * (HP.row 5 1 (.slice Ag k.b.l.length cg) k.b.l.length (b8s k.b.l) * q)))))) := ⟨h11.perm (by ac_rfl)⟩
          have H1 := Aside.mk x1
          clear h11 x1 hpx H10
          go_wp2_with fail
          refine (ref6_partx E _ y B3 k.name k.gen k.fr k.size _ HNM.out HOK.out.fr HOK.out.size HB3.out H11.out).mono ?_
          rintro e w12 ⟨A2, n2, X2, rfl, l2, h12, x2⟩
          rw [HPX.out] at l2 x2 ⊢
          dsimp only at l2 x2 ⊢
          have HPB : Aside (Bytes P) := ⟨by have := partX_byt HB3.out k.name k.gen k.fr k.size; rw [HPX.out] at this; exact this⟩
          have y1 : Cells w12 A1 (b8s P) := H1.out w12 _ (h12.perm (by ac_rfl : _ = X1 * (X2 * (HP.rdisk y B3 * (HP.disk d B3 * (HP.pt BX (.cells k.vals.toArray 48) * (HP.row 5 1 (.slice Ag k.b.l.length cg) k.b.l.length (b8s k.b.l) * q)))))))
          have y2 : Cells w12 A2 (b8s P) := x2 w12 _ h12
          have HY := Aside.mk (And.intro y1 y2)
          have H14 : Aside (Sat E w12 (HP.disk d B3 * (HP.rdisk y B3 * q))) := ⟨(h12.perm (by ac_rfl : _ = X2 * (X1 * (HP.pt BX (.cells k.vals.toArray 48) * (HP.row 5 1 (.slice Ag k.b.l.length cg) k.b.l.length (b8s k.b.l) * (HP.disk d B3 * (HP.rdisk y B3 * q))))))).right.right.right.right⟩
          clear c0 c1 c2 c3 c4 c5 c6 h12 x2 y1 y2 H11 H1 HPX
          go_wp2_with fail
          refine (bytesEq_ok A1 A2 P P P.length P.length n1 n2 _ rfl rfl HY.out.1 HY.out.2 HPB.out HPB.out).mono ?_
          rintro e w15 ⟨rfl, hw15⟩
          subst w15
          rw [decide_eq_true rfl]
          clear HY HPB
          go_wp2
          go_roundw
          case rel => exact ⟨kx + 1, B3, by go_num, by omega, HB3, H14⟩
          case measure => simp [intOf]; omega
        by_cases q3 : kk = 3
        · subst q3
          go_upto_region 20 with fail
          clear c0 c1 c2 c3 c4 c5 c6
          refine region_R [3, 7] [3] (fun W => Sat E W (HP.pt BX (.cells k.vals.toArray 48) * HP.any)) #[false, false, false, false, false, false, false, false, false, false] (by kernel_rfl) rfl rfl ?_
          have HT : Aside ((fun W => Sat E W (HP.pt BX (.cells k.vals.toArray 48) * HP.any)) _) := ⟨(Sat.anyS_of HS.out).drew⟩
          refine wpR_rd 0 #[true, false, false, false, false, false, false, false, false, false] rfl onlyN_noPanic (by kernel_rfl) (fun K hK => ?_); (go_simp; try go_bits); refine hK _ ?_; clear hK K
          refine wpR_rd 1 #[true, true, false, false, false, false, false, false, false, false] rfl onlyN_noPanic (by kernel_rfl) (fun K hK => ?_); (go_simp; try go_bits); refine hK _ ?_; clear hK K
          refine wpR_held (i := 2) (v := .string k.name) #[true, true, true, false, false, false, false, false, false, false] rfl onlyN_noPanic (by kernel_rfl) HT.out (.inl ⟨rfl, fun w' hT => ?_⟩) ?_
          · obtain ⟨c0, c1, c2, c3, c4, c5, c6⟩ := dos_box hT; go_simp
          simp only [Act.put, List.setIfInBounds_toArray, List.set_cons_zero, List.set_cons_succ]
          refine wpR_pu 4 #[true, true, true, false, true, false, false, false, false, false] rfl onlyN_noPanic (by kernel_rfl) (fun K hK => ?_); (go_simp; try go_bits); refine hK _ ?_; clear hK K
          refine wpR_pu 5 #[true, true, true, false, true, true, false, false, false, false] rfl onlyN_noPanic (by kernel_rfl) (fun K hK => ?_); (go_simp; try go_bits); refine hK _ ?_; clear hK K
          refine wpR_held (i := 6) (v := .string k.name) #[true, true, true, false, true, true, true, false, false, false] rfl onlyN_noPanic (by kernel_rfl) HT.out (.inl ⟨rfl, fun w' hT => ?_⟩) ?_
          · obtain ⟨c0, c1, c2, c3, c4, c5, c6⟩ := dos_box hT; go_simp
          simp only [Act.put, List.setIfInBounds_toArray, List.set_cons_zero, List.set_cons_succ]
          clear HT
          have HS0 := Aside.mk HS.out.drew
          clear HS
          revert HS0
          generalize World.drew w2 = W0
          intro HS0
          refine wpR_keep #[true, true, true, true, true, true, true, false, false, false] (i := 3) rfl (by kernel_rfl) (fun K hK => ?_)
          go_simp
          refine (stripe_drop E _ d A k.name _ HNM.out (HS0.out.s2)).mono ?_
          rintro e W1 ⟨rfl, hn1a⟩
          have hn1 : Sat E W1 (HP.pt BX (.cells k.vals.toArray 48) * (HP.disk d (dropS A k.name).2 * (HP.rdisk y A * (HP.row 5 1 (.slice Ag k.b.l.length cg) k.b.l.length (b8s k.b.l) * q)))) := hn1a.s2
          refine hK _ _ (Sat.anyS_of hn1) ?_
          clear hK K hn1a
          have HS1 : Aside (Sat E W1 (HP.pt BX (.cells k.vals.toArray 48) * (HP.disk d (dropS A k.name).2 * (HP.rdisk y A * (HP.row 5 1 (.slice Ag k.b.l.length cg) k.b.l.length (b8s k.b.l) * q))))) := ⟨hn1.perm (by ac_rfl)⟩
          clear hn1
          refine wpR_eff #[true, true, true, true, true, true, true, true, false, false] (i := 7) rfl (by kernel_rfl) (fun K hK => ?_)
          go_simp
          refine (ref6_drop E _ y A k.name _ HNM.out (HS1.out.s3)).mono ?_
          rintro e W2 ⟨rfl, hn2a⟩
          have hn2 : Sat E W2 (HP.pt BX (.cells k.vals.toArray 48) * (HP.disk d (dropS A k.name).2 * (HP.rdisk y (dropS A k.name).2 * (HP.row 5 1 (.slice Ag k.b.l.length cg) k.b.l.length (b8s k.b.l) * q)))) := hn2a.perm (by ac_rfl)
          refine hK _ _ ?_
          clear hK K hn2a
          have HS2 : Aside (Sat E W2 (HP.pt BX (.cells k.vals.toArray 48) * (HP.disk d (dropS A k.name).2 * (HP.rdisk y (dropS A k.name).2 * (HP.row 5 1 (.slice Ag k.b.l.length cg) k.b.l.length (b8s k.b.l) * q))))) := ⟨hn2.perm (by ac_rfl)⟩
          clear hn2 HS1
          refine wpR_rd 8 #[true, true, true, true, true, true, true, true, true, false] rfl onlyN_noPanic (by kernel_rfl) (fun K hK => ?_); (go_simp; try go_bits); refine hK _ ?_; clear hK K
          refine wpR_rd 9 #[true, true, true, true, true, true, true, true, true, true] rfl onlyN_noPanic (by kernel_rfl) (fun K hK => ?_); (go_simp; try go_bits); refine hK _ ?_; clear hK K
          refine wpR_done (by kernel_rfl) ?_ _
          simp only [OnlyN]
          have HS9 := HS2
          clear HS2
          have HB3 : Aside (Dk.Byt (dropS A k.name).2) := ⟨(Dk.Byt.dropT _ HB.out : (dropS A k.name).2.Byt)⟩
          generalize (dropS A k.name).2 = B3 at *
          have hcc := dos_box HS9.out
          obtain ⟨c0, c1, c2, c3, c4, c5, c6⟩ := hcc
          have H8 : Aside (Sat E W2 (HP.disk d B3 * (HP.rdisk y B3 * (HP.pt BX (.cells k.vals.toArray 48) * (HP.row 5 1 (.slice Ag k.b.l.length cg) k.b.l.length (b8s k.b.l) * q))))) := ⟨HS9.out.perm (by ac_rfl)⟩
          clear HS9
          go_wp2_with fail
          refine (bytesEq_ok Ag k.b.A k.b.l k.b.l k.b.l.length k.b.l.length cg k.b.cap _ rfl rfl H8.out.right.right.right.row_cells (HIN.out _ _ H8.out.right.right.right.right).1 HOK.out.bytes HOK.out.bytes).mono ?_
          rintro e w9 ⟨rfl, hw9⟩
          subst w9
          rw [decide_eq_true rfl]
          clear c0 c1 c2 c3 c4 c5 c6
          go_wp2_with fail
          refine (same_ok E _ d y B3 _ HB3.out H8.out).mono ?_
          rintro e w10 ⟨rfl, h10⟩
          obtain ⟨c0, c1, c2, c3, c4, c5, c6⟩ := dos_box (h10.right.right)
          have H10 := Aside.mk h10
          clear h10 H8
          go_wp2_with fail
          refine (stripe_partx E _ d B3 k.name k.gen k.fr k.size _ HNM.out HOK.out.fr HOK.out.size HB3.out (fun w h => HQ.out _ w h.right.right.right) H10.out).mono ?_
          rintro e w11 ⟨A1, n1, X1, rfl, l1, h11, x1⟩
          clear c0 c1 c2 c3 c4 c5 c6
          obtain ⟨c0, c1, c2, c3, c4, c5, c6⟩ := dos_box (h11.right.right.right)
          obtain ⟨P, ec, hpx⟩ : ∃ P ec, partX B3 k.name k.gen k.fr k.size = (P, ec) := ⟨_, _, rfl⟩
          have HPX := Aside.mk hpx
          rw [hpx] at l1 x1 ⊢
          dsimp only at l1 x1 ⊢
          have H11 : Aside (Sat E w11 (HP.rdisk y B3 * (X1 * (HP.disk d B3 * (HP.pt BX (.cells k.vals.toArray 48) * (HP.row 5 1 (.slice Ag k.b.l.length cg) k.b.l.length (b8s k.b.l) * q)))))) := ⟨h11.perm (by ac_rfl)⟩
          have H1 := Aside.mk x1
          clear h11 x1 hpx H10
          go_wp2_with fail
          refine (ref6_partx E _ y B3 k.name k.gen k.fr k.size _ HNM.out HOK.out.fr HOK.out.size HB3.out H11.out).mono ?_
          rintro e w12 ⟨A2, n2, X2, rfl, l2, h12, x2⟩
          rw [HPX.out] at l2 x2 ⊢
          dsimp only at l2 x2 ⊢
          have HPB : Aside (Bytes P) := ⟨by have := partX_byt HB3.out k.name k.gen k.fr k.size; rw [HPX.out] at this; exact this⟩
          have y1 : Cells w12 A1 (b8s P) := H1.out w12 _ (h12.perm (by ac_rfl : _ = X1 * (X2 * (HP.rdisk y B3 * (HP.disk d B3 * (HP.pt BX (.cells k.vals.toArray 48) * (HP.row 5 1 (.slice Ag k.b.l.length cg) k.b.l.length (b8s k.b.l) * q)))))))
          have y2 : Cells w12 A2 (b8s P) := x2 w12 _ h12
          have HY := Aside.mk (And.intro y1 y2)
          have H14 : Aside (Sat E w12 (HP.disk d B3 * (HP.rdisk y B3 * q))) := ⟨(h12.perm (by ac_rfl : _ = X2 * (X1 * (HP.pt BX (.cells k.vals.toArray 48) * (HP.row 5 1 (.slice Ag k.b.l.length cg) k.b.l.length (b8s k.b.l) * (HP.disk d B3 * (HP.rdisk y B3 * q))))))).right.right.right.right⟩
          clear c0 c1 c2 c3 c4 c5 c6 h12 x2 y1 y2 H11 H1 HPX
          go_wp2_with fail
          refine (bytesEq_ok A1 A2 P P P.length P.length n1 n2 _ rfl rfl HY.out.1 HY.out.2 HPB.out HPB.out).mono ?_
          rintro e w15 ⟨rfl, hw15⟩
          subst w15
          rw [decide_eq_true rfl]
          clear HY HPB
          go_wp2
          go_roundw
          case rel => exact ⟨kx + 1, B3, by go_num, by omega, HB3, H14⟩
          case measure => simp [intOf]; omega
        by_cases q2 : kk = 2
        · subst q2
          have HS2 := Aside.mk HS.out.s2
          clear HS
          go_wp2_with fail
          refine (stripe_mend E _ d A k.name k.gen k.i _ HNM.out HOK.out.i (fun kk hk ii c hc => HB.out.reads _ ii c hc) (fun w h => HQ.out _ w h.right.right.right) HS2.out).mono ?_
          rintro e w5 ⟨rfl, h5⟩
          obtain ⟨⟨wr1, er1⟩, B, hmd⟩ : ∃ r B, mendS A k.name k.gen k.i = (r, B) := ⟨_, _, rfl⟩
          have HMD := Aside.mk hmd
          have HB3 : Aside B.Byt := ⟨by have := HB.out.mendS k.name k.gen k.i; rw [hmd] at this; exact this⟩
          rw [hmd] at h5 ⊢
          clear hmd c0 c1 c2 c3 c4 HS2
          dsimp only at h5 ⊢
          obtain ⟨c0, c1, c2, c3, c4, c5, c6⟩ := dos_box h5.right
          have H5 : Aside (Sat E w5 (HP.rdisk y A * (HP.pt BX (.cells k.vals.toArray 48) * (HP.disk d B * (HP.row 5 1 (.slice Ag k.b.l.length cg) k.b.l.length (b8s k.b.l) * q))))) := ⟨h5.perm (by ac_rfl)⟩
          clear h5
          go_wp2_with fail
          refine (ref6_mend E _ y A k.name k.gen k.i _ HNM.out HOK.out.i (fun kk hk ii c hc => HB.out.reads _ ii c hc) (byt_slots HB.out k.name k.gen) H5.out).mono ?_
          rintro e w6 ⟨rfl, h6⟩
          rw [HMD.out] at h6 ⊢
          dsimp only at h6 ⊢
          have HS9 : Aside (Sat E w6 (HP.pt BX (.cells k.vals.toArray 48) * (HP.disk d B * (HP.rdisk y B * (HP.row 5 1 (.slice Ag k.b.l.length cg) k.b.l.length (b8s k.b.l) * q))))) := ⟨h6.perm (by ac_rfl)⟩
          clear h6 H5 HMD c0 c1 c2 c3 c4
          have hcc := dos_box HS9.out
          obtain ⟨c0, c1, c2, c3, c4, c5, c6⟩ := hcc
          have H8 : Aside (Sat E w6 (HP.disk d B * (HP.rdisk y B * (HP.pt BX (.cells k.vals.toArray 48) * (HP.row 5 1 (.slice Ag k.b.l.length cg) k.b.l.length (b8s k.b.l) * q))))) := ⟨HS9.out.perm (by ac_rfl)⟩
          clear HS9
          go_wp2_with fail
          refine (bytesEq_ok Ag k.b.A k.b.l k.b.l k.b.l.length k.b.l.length cg k.b.cap _ rfl rfl H8.out.right.right.right.row_cells (HIN.out _ _ H8.out.right.right.right.right).1 HOK.out.bytes HOK.out.bytes).mono ?_
          rintro e w9 ⟨rfl, hw9⟩
          subst w9
          rw [decide_eq_true rfl]
          clear c0 c1 c2 c3 c4 c5 c6
          go_wp2_with fail
          refine (same_ok E _ d y B _ HB3.out H8.out).mono ?_
          rintro e w10 ⟨rfl, h10⟩
          obtain ⟨c0, c1, c2, c3, c4, c5, c6⟩ := dos_box (h10.right.right)
          have H10 := Aside.mk h10
          clear h10 H8
          go_wp2_with fail
          refine (stripe_partx E _ d B k.name k.gen k.fr k.size _ HNM.out HOK.out.fr HOK.out.size HB3.out (fun w h => HQ.out _ w h.right.right.right) H10.out).mono ?_
          rintro e w11 ⟨A1, n1, X1, rfl, l1, h11, x1⟩
          clear c0 c1 c2 c3 c4 c5 c6
          obtain ⟨c0, c1, c2, c3, c4, c5, c6⟩ := dos_box (h11.right.right.right)
          obtain ⟨P, ec, hpx⟩ : ∃ P ec, partX B k.name k.gen k.fr k.size = (P, ec) := ⟨_, _, rfl⟩
          have HPX := Aside.mk hpx
          rw [hpx] at l1 x1 ⊢
          dsimp only at l1 x1 ⊢
          have H11 : Aside (Sat E w11 (HP.rdisk y B * (X1 * (HP.disk d B * (HP.pt BX (.cells k.vals.toArray 48) * (HP.row 5 1 (.slice Ag k.b.l.length cg) k.b.l.length (b8s k.b.l) * q)))))) := ⟨h11.perm (by ac_rfl)⟩
          have H1 := Aside.mk x1
          clear h11 x1 hpx H10
          go_wp2_with fail
          refine (ref6_partx E _ y B k.name k.gen k.fr k.size _ HNM.out HOK.out.fr HOK.out.size HB3.out H11.out).mono ?_
          rintro e w12 ⟨A2, n2, X2, rfl, l2, h12, x2⟩
          rw [HPX.out] at l2 x2 ⊢
          dsimp only at l2 x2 ⊢
          have HPB : Aside (Bytes P) := ⟨by have := partX_byt HB3.out k.name k.gen k.fr k.size; rw [HPX.out] at this; exact this⟩
          have y1 : Cells w12 A1 (b8s P) := H1.out w12 _ (h12.perm (by ac_rfl : _ = X1 * (X2 * (HP.rdisk y B * (HP.disk d B * (HP.pt BX (.cells k.vals.toArray 48) * (HP.row 5 1 (.slice Ag k.b.l.length cg) k.b.l.length (b8s k.b.l) * q)))))))
          have y2 : Cells w12 A2 (b8s P) := x2 w12 _ h12
          have HY := Aside.mk (And.intro y1 y2)
          have H14 : Aside (Sat E w12 (HP.disk d B * (HP.rdisk y B * q))) := ⟨(h12.perm (by ac_rfl : _ = X2 * (X1 * (HP.pt BX (.cells k.vals.toArray 48) * (HP.row 5 1 (.slice Ag k.b.l.length cg) k.b.l.length (b8s k.b.l) * (HP.disk d B * (HP.rdisk y B * q))))))).right.right.right.right⟩
          clear c0 c1 c2 c3 c4 c5 c6 h12 x2 y1 y2 H11 H1 HPX
          go_wp2_with fail
          refine (bytesEq_ok A1 A2 P P P.length P.length n1 n2 _ rfl rfl HY.out.1 HY.out.2 HPB.out HPB.out).mono ?_
          rintro e w15 ⟨rfl, hw15⟩
          subst w15
          rw [decide_eq_true rfl]
          clear HY HPB
          go_wp2
          go_roundw
          case rel => exact ⟨kx + 1, B, by go_num, by omega, HB3, H14⟩
          case measure => simp [intOf]; omega
        have q4 : kk = 4 := by omega
        subst q4
        clear q0 q1 q2 q3
        obtain ⟨c7, c8, c9, c10, c11, c12, c13, c14⟩ := dos_box2 HS.out
        have HS2 : Aside (Sat E w2 (HP.disk d A * (HP.rdisk y A * (HP.pt BX (.cells k.vals.toArray 48) * (HP.row 5 1 (.slice Ag k.b.l.length cg) k.b.l.length (b8s k.b.l) * q))))) := ⟨HS.out.perm (by ac_rfl)⟩
        clear HS
        go_wp2_with fail
        refine (do_ok E _ d y A k.s _ HOK.out.step (fun E w h => (HIN.out E w h.right.right).2) HS2.out).mono ?_
        rintro e w7 ⟨rfl, h7⟩
        have HB3 := Aside.mk (HB.out.stepK HOK.out.step (opK k.s.op))
        have HS9 : Aside (Sat E w7 (HP.pt BX (.cells k.vals.toArray 48) * (HP.disk d (A.stepK k.s (opK k.s.op)) * (HP.rdisk y (A.stepK k.s (opK k.s.op)) * (HP.row 5 1 (.slice Ag k.b.l.length cg) k.b.l.length (b8s k.b.l) * q))))) := ⟨h7.perm (by ac_rfl)⟩
        generalize A.stepK k.s (opK k.s.op) = B3 at *
        clear h7 HS2 c0 c1 c2 c3 c4 c5 c6 c7 c8 c9 c10 c11 c12
        have hcc := dos_box HS9.out
        obtain ⟨c0, c1, c2, c3, c4, c5, c6⟩ := hcc
        have H8 : Aside (Sat E w7 (HP.disk d B3 * (HP.rdisk y B3 * (HP.pt BX (.cells k.vals.toArray 48) * (HP.row 5 1 (.slice Ag k.b.l.length cg) k.b.l.length (b8s k.b.l) * q))))) := ⟨HS9.out.perm (by ac_rfl)⟩
        clear HS9
        go_wp2_with fail
        refine (bytesEq_ok Ag k.b.A k.b.l k.b.l k.b.l.length k.b.l.length cg k.b.cap _ rfl rfl H8.out.right.right.right.row_cells (HIN.out _ _ H8.out.right.right.right.right).1 HOK.out.bytes HOK.out.bytes).mono ?_
        rintro e w9 ⟨rfl, hw9⟩
        subst w9
        rw [decide_eq_true rfl]
        clear c0 c1 c2 c3 c4 c5 c6
        go_wp2_with fail
        refine (same_ok E _ d y B3 _ HB3.out H8.out).mono ?_
        rintro e w10 ⟨rfl, h10⟩
        obtain ⟨c0, c1, c2, c3, c4, c5, c6⟩ := dos_box (h10.right.right)
        have H10 := Aside.mk h10
        clear h10 H8
        go_wp2_with fail
        refine (stripe_partx E _ d B3 k.name k.gen k.fr k.size _ HNM.out HOK.out.fr HOK.out.size HB3.out (fun w h => HQ.out _ w h.right.right.right) H10.out).mono ?_
        rintro e w11 ⟨A1, n1, X1, rfl, l1, h11, x1⟩
        clear c0 c1 c2 c3 c4 c5 c6
        obtain ⟨c0, c1, c2, c3, c4, c5, c6⟩ := dos_box (h11.right.right.right)
        obtain ⟨P, ec, hpx⟩ : ∃ P ec, partX B3 k.name k.gen k.fr k.size = (P, ec) := ⟨_, _, rfl⟩
        have HPX := Aside.mk hpx
        rw [hpx] at l1 x1 ⊢
        dsimp only at l1 x1 ⊢
        have H11 : Aside (Sat E w11 (HP.rdisk y B3 * (X1 * (HP.disk d B3 * (HP.pt BX (.cells k.vals.toArray 48) * (HP.row 5 1 (.slice Ag k.b.l.length cg) k.b.l.length (b8s k.b.l) * q)))))) := ⟨h11.perm (by ac_rfl)⟩
        have H1 := Aside.mk x1
        clear h11 x1 hpx H10
        go_wp2_with fail
        refine (ref6_partx E _ y B3 k.name k.gen k.fr k.size _ HNM.out HOK.out.fr HOK.out.size HB3.out H11.out).mono ?_
        rintro e w12 ⟨A2, n2, X2, rfl, l2, h12, x2⟩
        rw [HPX.out] at l2 x2 ⊢
        dsimp only at l2 x2 ⊢
        have HPB : Aside (Bytes P) := ⟨by have := partX_byt HB3.out k.name k.gen k.fr k.size; rw [HPX.out] at this; exact this⟩
        have y1 : Cells w12 A1 (b8s P) := H1.out w12 _ (h12.perm (by ac_rfl : _ = X1 * (X2 * (HP.rdisk y B3 * (HP.disk d B3 * (HP.pt BX (.cells k.vals.toArray 48) * (HP.row 5 1 (.slice Ag k.b.l.length cg) k.b.l.length (b8s k.b.l) * q)))))))
        have y2 : Cells w12 A2 (b8s P) := x2 w12 _ h12
        have HY := Aside.mk (And.intro y1 y2)
        have H14 : Aside (Sat E w12 (HP.disk d B3 * (HP.rdisk y B3 * q))) := ⟨(h12.perm (by ac_rfl : _ = X2 * (X1 * (HP.pt BX (.cells k.vals.toArray 48) * (HP.row 5 1 (.slice Ag k.b.l.length cg) k.b.l.length (b8s k.b.l) * (HP.disk d B3 * (HP.rdisk y B3 * q))))))).right.right.right.right⟩
        clear c0 c1 c2 c3 c4 c5 c6 h12 x2 y1 y2 H11 H1 HPX
        go_wp2_with fail
        refine (bytesEq_ok A1 A2 P P P.length P.length n1 n2 _ rfl rfl HY.out.1 HY.out.2 HPB.out HPB.out).mono ?_
        rintro e w15 ⟨rfl, hw15⟩
        subst w15
        rw [decide_eq_true rfl]
        clear HY HPB
        go_wp2
        go_roundw
        case rel => exact ⟨kx + 1, B3, by go_num, by omega, HB3, H14⟩
        case measure => simp [intOf]; omega
    · obtain rfl : kx = n := by omega
      have H2 := Aside.mk HS.out.right.right
      clear HS
      go_wp2_with fail
      refine (awake6_ok E q _ (fun w h => HQ.out _ w h) H2.out).mono ?_
      rintro e w2 ⟨rfl, h2⟩
      go_wp2
      go_ret
      exact ⟨rfl, h2⟩
end Go.Proofs.YtnpinegpajbkeaaGreatDoor
namespace Go.Proofs.YtnpinegpajbkeaaGreatDoor
open Go.ChangeShapes Go.WideShapes Go.ChangeAt Go.WideMaps Go.WideElems Go.RowKit HP
theorem quarterU_of_reads {W : World} (h : Lib.VarReads Tryz.prog W "dryrot/crc.quarter" Rows.laid_dryrot_crc_quarter) : Quarter W := by
  obtain ⟨g0, t0, cs0, f0, p0, hg0, ht0, hv0, hd0⟩ := h
  obtain rfl := Option.some.inj (gQuarter.symm.trans hg0)
  obtain rfl := Option.some.inj (tQuarter.symm.trans ht0)
  obtain ⟨xs, m1, rfl, hx1, hlen, hn3, hel⟩ := DataW.trod_array Tryz.underlying247 hd0
  have c3 : Tryz.prog.cellsOf 168 = 1 := by kernel_rfl
  simp only [Prod.mk.injEq, DataW.agg.injEq, Rows.laid_dryrot_crc_quarter] at hx1
  intro i hi
  have hi' := hel i hi
  rw [c3, Nat.mul_one] at hi'
  have hxl : i < xs.length := by omega
  rw [List.getElem?_eq_getElem hxl] at hi'
  obtain ⟨k, e1, e2, _⟩ := DataW.trod_int Tryz.underlying168 hi'
  have e3 : (xs.map (·.1))[i]? = some (DataW.lit (.int .u32 k)) := by
    rw [List.getElem?_map, List.getElem?_eq_getElem hxl]
    simp [e2]
  rw [← hx1.1] at e3
  have hk : k = quarterN i := by
    match i, hi with
    | 0, _ => simpa [quarterN] using e3.symm
    | 1, _ => simpa [quarterN] using e3.symm
    | 2, _ => simpa [quarterN] using e3.symm
    | 3, _ => simpa [quarterN] using e3.symm
  have e4 := World.var?_cell hg0 hv0 i
  have e5 : cs0.toList[i]? = some (.int .u32 k) := by
    have := congrArg (fun l => l[0]?) e1
    simpa [List.getElem?_take] using this
  rw [Array.getElem?_toList, hk] at e5
  rw [← e5, ← e4]
def laidU : List (String × DataW Unit) := [("dryrot/crc.quarter", Rows.laid_dryrot_crc_quarter), ("unicode/utf8.acceptRanges", Rows.laid_unicode_utf8_acceptRanges), ("unicode/utf8.first", Rows.laid_unicode_utf8_first)]
theorem door_metU (os : Os) (args : Array Value) : laidMetH Tryz.prog laidU ((World.laidAll Tryz.prog os laidU).forCall (fun _ _ => 0) ⟨#[], args, []⟩).memory := by
  rw [MakeChecks.laidMetH_plain _ _ _ (by kernel_rfl)]
  exact laidMet_laidAll _ (by kernel_rfl) (by kernel_rfl)
theorem laidU_reads {W : World} (h : laidMetH Tryz.prog laidU W) : Quarter W := by
  rw [MakeChecks.laidMetH_plain _ _ _ (by kernel_rfl)] at h
  obtain ⟨ps, hL, -⟩ := h
  exact quarterU_of_reads (Lib.LaidVars_reads hL _ _ (by simp [laidU]))
end Go.Proofs.YtnpinegpajbkeaaGreatDoor
namespace Go.Proofs.YtnpinegpajbkeaaGreatDoor
open Go.ChangeShapes Go.WideShapes Go.ChangeAt Go.RowKit HP
theorem rdSteps_at : (rdSl rdStep).At Tryz.prog 22 := rdSl_at (n := 8) Tryz.underlying22 (by kernel_rfl) rdStep_at
structure StepsOk (W : World) (s : Sl StepV) : Prop where
  len : s.l.length ≤ s.cap
  cap : s.cap ≤ maxLen
  cells : Cells W s.A (s.l.flatMap StepV.vals)
  each : ∀ x ∈ s.l, x.Ok W
theorem steps_ok {W : World} {s : Sl StepV} (h : (rdSl rdStep).ok W s) : StepsOk W s := ⟨h.1, h.2.1, h.2.2.1, fun x hx => step_ok (h.2.2.2 x hx)⟩
theorem steps_old {W : World} {s : Sl StepV} (h : (rdSl rdStep).ok W s) : Steps (HP.old W) s :=
  ⟨Nat.le_trans (steps_ok h).len (steps_ok h).cap, fun x hx => ((steps_ok h).each x hx).wf, fun E w hw => ⟨(steps_ok h).cells.carry (old_carry hw), fun x hx => ⟨((steps_ok h).each x hx).b.2.2.1.carry (old_carry hw), ((steps_ok h).each x hx).kept.2.2.1.carry (old_carry hw)⟩⟩⟩
def rdDoS : Rd DoS := rdMap (rdPair (rdInt .i64) (rdPair (rdInt .i64) (rdPair (rdInt .i64) (rdPair (rdInt .i64) (rdPair (rdInt .i64) (rdPair rdStr (rdPair (rdSl (rdInt .u8)) (rdPair rdStep rdEnd))))))))
  (fun x => (⟨x.1, x.2.1, x.2.2.1, x.2.2.2.1, x.2.2.2.2.1, x.2.2.2.2.2.1, x.2.2.2.2.2.2.1, x.2.2.2.2.2.2.2.1⟩ : DoS)) (fun s => (s.op, s.i, s.gen, s.fr, s.size, s.name, s.b, s.s, ())) (fun a => rfl)
def DoS.sz (k : DoS) : List Nat := [] ++ ([] ++ ([] ++ ([] ++ ([] ++ ([k.name.size] ++ ((k.b.cap * 1 :: k.b.l.flatMap fun _ => []) ++ ([] ++ [])))))))
theorem rdDoS_atZ : rdDoS.AtZ DoS.sz Tryz.prog 48 :=
  rdStruct_atZ Tryz.underlying48 (total := 1 + (1 + (1 + (1 + (1 + (1 + (1 + (8 + 0)))))))) (by kernel_rfl) (rdPair_fsZ rfl (by kernel_rfl) (Rd.At.toZ (rdInt_at Tryz.underlying3)) (rdPair_fsZ rfl (by kernel_rfl) (Rd.At.toZ (rdInt_at Tryz.underlying3)) (rdPair_fsZ rfl (by kernel_rfl) (Rd.At.toZ (rdInt_at Tryz.underlying3)) (rdPair_fsZ rfl (by kernel_rfl) (Rd.At.toZ (rdInt_at Tryz.underlying3)) (rdPair_fsZ rfl (by kernel_rfl) (Rd.At.toZ (rdInt_at Tryz.underlying3))
    (rdPair_fsZ rfl (by kernel_rfl) (rdStr_atZ Tryz.underlying9) (rdPair_fsZ rfl (by kernel_rfl) (rdSl_atZ (n := 1) (b := 1) Tryz.underlying43 (by kernel_rfl) (by kernel_rfl) (Rd.At.toZ (rdInt_at Tryz.underlying5))) (rdPair_fsZ rfl (by kernel_rfl) (Rd.At.toZ rdStep_at) (rdEnd_fsZ _))))))))) _ _ _
theorem rdDosS_atZ : (rdSl rdDoS).AtZ (fun s => s.cap * 184 :: s.l.flatMap DoS.sz) Tryz.prog 42 := rdSl_atZ (n := 15) Tryz.underlying42 (by kernel_rfl) (by kernel_rfl) rdDoS_atZ
theorem dos_inS {W : World} {s : Sl DoS} (h : (rdSl rdDoS).ok W s) (hz : ∀ n ∈ s.cap * 184 :: s.l.flatMap DoS.sz, n ≤ reachBytes) : DosInS (HP.old W) s := by
  have hr : reachBytes = 140737488351232 := by decide
  have hk : ∀ k ∈ s.l, wf64 k.op ∧ wf64 k.i ∧ wf64 k.gen ∧ wf64 k.fr ∧ wf64 k.size ∧ (k.b.l.length ≤ k.b.cap ∧ k.b.cap ≤ maxLen ∧ Cells W k.b.A (b8s k.b.l) ∧ Bytes k.b.l) ∧ k.s.Ok W := fun k hk => by
    obtain ⟨h1, h2, h3, h4, h5, h6, h7, h8, -⟩ := h.2.2.2 k hk
    exact ⟨wf64_of h1, wf64_of h2, wf64_of h3, wf64_of h4, wf64_of h5, bytes_ok h7, step_ok h8⟩
  have hs : ∀ k ∈ s.l, k.name.size ≤ 140737488351232 ∧ k.b.cap ≤ 140737488351232 := fun k hk => by
    have f : ∀ n ∈ k.sz, n ≤ reachBytes := fun n hn => hz n (List.mem_cons_of_mem _ (List.mem_flatMap.2 ⟨k, hk, hn⟩))
    rw [hr] at f
    refine ⟨f _ (by simp [DoS.sz]), ?_⟩
    have := f (k.b.cap * 1) (by simp [DoS.sz])
    omega
  exact ⟨Nat.le_trans h.1 h.2.1, fun k hm => ⟨(hk k hm).1, (hk k hm).2.1, (hk k hm).2.2.1, (hk k hm).2.2.2.1, (hk k hm).2.2.2.2.1, (hs k hm).1, (hk k hm).2.2.2.2.2.1.1, (hs k hm).2, (hk k hm).2.2.2.2.2.1.2.2.2, (hk k hm).2.2.2.2.2.2.wf⟩,
    fun E w hw => ⟨Cells.carry (cs := s.l.flatMap DoS.vals) h.2.2.1 (old_carry hw), fun k hm => ⟨(hk k hm).2.2.2.2.2.1.2.2.1.carry (old_carry hw), (hk k hm).2.2.2.2.2.2.b.2.2.1.carry (old_carry hw), (hk k hm).2.2.2.2.2.2.kept.2.2.1.carry (old_carry hw)⟩⟩⟩
end Go.Proofs.YtnpinegpajbkeaaGreatDoor
