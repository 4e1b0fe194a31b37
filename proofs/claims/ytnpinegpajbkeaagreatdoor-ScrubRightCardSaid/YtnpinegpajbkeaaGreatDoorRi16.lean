/- Texts of one claim, one behind the other: Do3, SpEq, StrE, Same3, Disks3, DisksI, SpCo, Sane. -/
import Derived.Test.YtnpinegpajbkeaaGreatDoorRi15
set_option linter.unusedSimpArgs false
set_option linter.unusedVariables false
namespace Go.Proofs.YtnpinegpajbkeaaGreatDoor
open Go.RowKit HP
structure StepV.Wf (s : StepV) : Prop where
  op : wf64 s.op
  i : wf64 s.i
  at_ : wf64 s.at_
  n : wf64 s.n
  name : s.name.size ≤ maxLen
  mask : 0 ≤ s.mask ∧ s.mask ≤ 255
  b : s.b.l.length ≤ s.b.cap ∧ s.b.cap ≤ maxLen ∧ Bytes s.b.l
  kept : (s.kept.l.length ≤ s.kept.cap ∧ s.kept.cap ≤ maxLen) ∧ ∀ k ∈ s.kept.l, k.name.size ≤ maxLen ∧ wf64 k.index ∧ wf64 k.bytes
theorem StepV.Ok.wf {W : World} {s : StepV} (h : s.Ok W) : s.Wf := ⟨h.op, h.i, h.at_, h.n, h.name, h.mask, ⟨h.b.1, h.b.2.1, h.b.2.2.2⟩, ⟨⟨h.kept.1, h.kept.2.1⟩, h.kept.2.2.2⟩⟩
def fuseC (n : Int) : Int := if n < 0 then 1 else 0
def Dk.fuseK (A : Dk) (n : Int) : Dk := if n < 0 then A else { A with fuse := n }
def opK (op : Int) : Int := wrap64 ((IntKind.u64.wrap op).tmod 7)
theorem opK_range (op : Int) : 0 ≤ opK op ∧ opK op ≤ 6 := by
  unfold opK
  rw [IntKind.wrap_u64, Int.tmod_eq_emod_of_nonneg (by omega)]
  unfold wrap64
  omega
def Dk.stepK (A : Dk) (s : StepV) (k : Int) : Dk :=
  if k = 0 then (A.write s.name s.i (fullOf s.b.l)).2 else if k = 1 then (A.write s.name s.i s.b.l).2 else if k = 2 then (A.sync s.name).2
  else if k = 3 then (A.remove s.name).2 else if k = 4 then (A.rot s.name s.i s.at_ s.mask).2 else if k = 5 then A.crash s.kept.l else A.fuseK s.n
theorem Dk.Byt.stepK {A : Dk} (h : A.Byt) {s : StepV} (hs : s.Wf) (k : Int) : (A.stepK s k).Byt := by
  unfold Dk.stepK
  split
  · exact h.write _ _ (fullOf_bytes hs.b.2.2)
  split
  · exact h.write _ _ hs.b.2.2
  split
  · exact h.sync _
  split
  · exact h.remove _
  split
  · exact h.rot _ _ _ hs.mask.1 hs.mask.2
  split
  · exact h.crash _
  unfold Dk.fuseK
  split
  · exact h
  · exact h.fuse _
def HP.any : HP := fun _ => True
theorem Sat.any_of {E : Env} {w : World} {p q : HP} (h : Sat E w (p * q)) : Sat E w (p * HP.any) := by
  obtain ⟨he, k, hk, h1, h2, hd, hu, hp, -⟩ := h
  exact ⟨he, k, hk, h1, h2, hd, hu, hp, trivial⟩
theorem step_box {E : Env} {w : World} {BX : Nat} {s : StepV} {q : HP} (h : Sat E w (HP.pt BX (.cells s.vals.toArray 46) * q)) :
    w.cell? ⟨BX, 0, none⟩ = some (.int .i64 s.op) ∧ w.cell? ⟨BX, 1, none⟩ = some (.int .i64 s.i) ∧ w.cell? ⟨BX, 2, none⟩ = some (.int .i64 s.at_) ∧ w.cell? ⟨BX, 3, none⟩ = some (.int .i64 s.n) ∧ w.cell? ⟨BX, 4, none⟩ = some (.string s.name) ∧ w.cell? ⟨BX, 5, none⟩ = some (.slice s.b.A s.b.l.length s.b.cap) ∧ w.cell? ⟨BX, 6, none⟩ = some (.int .u8 s.mask) ∧ w.cell? ⟨BX, 7, none⟩ = some (.slice s.kept.A s.kept.l.length s.kept.cap) := by
  have g := fun j => h.cell j
  exact ⟨by rw [g 0]; rfl, by rw [g 1]; rfl, by rw [g 2]; rfl, by rw [g 3]; rfl, by rw [g 4]; rfl, by rw [g 5]; rfl, by rw [g 6]; rfl, by rw [g 7]; rfl⟩
theorem agStep : AgTy Tryz.prog 46 8 := ⟨⟨_, Tryz.underlying46, rfl⟩, by kernel_rfl⟩
theorem step_load {E : Env} {w : World} {BX : Nat} {s : StepV} {q : HP} (h : Sat E w (HP.pt BX (.cells s.vals.toArray 46) * q)) :
    (loadVar 46 ⟨BX, 0, none⟩).run Tryz.prog w = .ok (.agg #[.int .i64 s.op, .int .i64 s.i, .int .i64 s.at_, .int .i64 s.n, .string s.name, .slice s.b.A s.b.l.length s.b.cap, .int .u8 s.mask, .slice s.kept.A s.kept.l.length s.kept.cap]) w := by
  refine run_loadAgg (cs := s.vals) agStep rfl fun j u hj => ⟨_, rfl, ?_⟩
  rw [addr_add, Nat.zero_add, h.cell]
  simpa using hj
theorem fuse_d (E : Env) (q : HP) (d : Nat) (A : Dk) (n : Int) (w : World) (hn : wf64 n) (hw : Sat E w (HP.disk d A * q)) :
    Calls Tryz.prog 42 #[.pointer (some ⟨d, 0, none⟩), .int .i64 n] w fun e w' => e = .returned (.int .i64 (fuseC n)) ∧ Sat E w' (HP.disk d (A.fuseK n) * q) := by
  refine (disk_fuse_ok E q d A n w (by unfold wf64 at hn; omega) hw).mono fun e w' h => ?_
  unfold Dk.fuseK fuseC
  rcases h with ⟨h0, h1, h2⟩ | ⟨h0, h1, h2⟩
  · rw [if_pos h0, if_pos h0]; exact ⟨h1, h2⟩
  · rw [if_neg (by omega), if_neg (by omega)]; exact ⟨h1, h2⟩
theorem fuse_r (E : Env) (q : HP) (y : Nat) (A : Dk) (n : Int) (w : World) (hn : wf64 n) (hw : Sat E w (HP.rdisk y A * q)) :
    Calls Tryz.prog 83 #[.pointer (some ⟨y, 0, none⟩), .int .i64 n] w fun e w' => e = .returned (.int .i64 (fuseC n)) ∧ Sat E w' (HP.rdisk y (A.fuseK n) * q) := by
  refine (ref_fuse E q y A n w (by unfold wf64 at hn; omega) hw).mono fun e w' h => ?_
  unfold Dk.fuseK fuseC
  rcases h with ⟨h0, h1, h2⟩ | ⟨h0, h1, h2⟩
  · rw [if_pos h0, if_pos h0]; exact ⟨h1, h2⟩
  · rw [if_neg (by omega), if_neg (by omega)]; exact ⟨h1, h2⟩
set_option maxHeartbeats 8000000 in
set_option maxRecDepth 100000 in
theorem do_ok (E : Env) (q : HP) (d y : Nat) (A : Dk) (s : StepV) (w : World) (hok : s.Wf) (hq : ∀ E w, Sat E w q → Cells w s.b.A (b8s s.b.l) ∧ Cells w s.kept.A (kepCells s.kept.l)) (hw : Sat E w (HP.disk d A * (HP.rdisk y A * q))) :
    Calls Tryz.prog 20 #[.agg s.vals.toArray, .pointer (some ⟨d, 0, none⟩), .pointer (some ⟨y, 0, none⟩)] w fun e w' => e = .returned (.bool true) ∧ Sat E w' (HP.disk d (A.stepK s (opK s.op)) * (HP.rdisk y (A.stepK s (opK s.op)) * q)) := by
  have HOK := Aside.mk hok
  have HQ := Aside.mk hq
  have HBL : Aside (s.b.l.length ≤ maxLen) := ⟨Nat.le_trans hok.b.1 hok.b.2.1⟩
  have HKL : Aside (s.kept.l.length ≤ maxLen) := ⟨Nat.le_trans hok.kept.1.1 hok.kept.1.2⟩
  obtain ⟨AR, hAR⟩ : ∃ AR, AR = A.stepK s (opK s.op) := ⟨_, rfl⟩
  rw [← hAR]
  obtain ⟨kk, hkk⟩ : ∃ kk, kk = opK s.op := ⟨_, rfl⟩
  have hkr := opK_range s.op
  rw [← hkk] at hkr hAR
  unfold opK at hkk
  have hkk := hkk.symm
  have hB := hw.alloc (.cells s.vals.toArray 46)
  obtain ⟨BX, hBX⟩ : ∃ BX, BX = w.heap.size := ⟨_, rfl⟩
  rw [← hBX] at hB
  have HS := Aside.mk hB
  have HBX := Aside.mk hBX
  have HAR := Aside.mk hAR
  obtain ⟨c0, c1, c2, c3, c4, c5, c6, c7⟩ := step_box hB
  clear hok hq hB hBX hw hAR
  unfold StepV.vals Sl.val at c0 c1 c2 c3 c4 c5 c6 c7 ⊢
  go_enter Tryz.func20, Tryz.ntmps20
  go_upto_region 2 with fail
  rw [hkk, ← HBX.out]
  clear hkk
  obtain ⟨wb, hwb⟩ : ∃ wb, wb = World.alloc w (.cells #[.int .i64 s.op, .int .i64 s.i, .int .i64 s.at_, .int .i64 s.n, .string s.name, .slice s.b.A s.b.l.length s.b.cap, .int .u8 s.mask, .slice s.kept.A s.kept.l.length s.kept.cap] 46) := ⟨_, rfl⟩
  have HS2 : Aside (Sat E wb (HP.pt BX (.cells s.vals.toArray 46) * (HP.disk d A * (HP.rdisk y A * q)))) := ⟨by rw [hwb]; exact HS.out⟩
  rw [← hwb]
  rw [← hwb] at c0 c1 c2 c3 c4 c5 c6 c7
  clear hwb HS
  have HS := HS2
  clear HS2
  by_cases k2 : kk = 2
  · subst k2
    have HR : Aside (AR = (A.sync s.name).2) := ⟨by rw [HAR.out]; unfold Dk.stepK; simp⟩
    go_upto_region 10 with fail
    clear c0 c1 c2 c3 c4 c5 c6 c7
    refine region_R [3, 7] [3] (fun W => Sat E W (HP.pt BX (.cells s.vals.toArray 46) * HP.any)) #[false, false, false, false, false, false, false, false, false, false] (by kernel_rfl) rfl rfl ?_
    have HT : Aside ((fun W => Sat E W (HP.pt BX (.cells s.vals.toArray 46) * HP.any)) _) := ⟨(Sat.any_of HS.out).drew⟩
    refine wpR_rd 0 #[true, false, false, false, false, false, false, false, false, false] rfl onlyN_noPanic (by kernel_rfl) (fun K hK => ?_); (go_simp; try go_bits); refine hK _ ?_; clear hK K
    refine wpR_rd 1 #[true, true, false, false, false, false, false, false, false, false] rfl onlyN_noPanic (by kernel_rfl) (fun K hK => ?_); (go_simp; try go_bits); refine hK _ ?_; clear hK K
    refine wpR_held (i := 2) (v := .string s.name) #[true, true, true, false, false, false, false, false, false, false] rfl onlyN_noPanic (by kernel_rfl) HT.out (.inl ⟨rfl, fun w' hT => ?_⟩) ?_
    · obtain ⟨c0, c1, c2, c3, c4, c5, c6, c7⟩ := step_box hT; go_simp
    simp only [Act.put, List.setIfInBounds_toArray, List.set_cons_zero, List.set_cons_succ]
    refine wpR_pu 4 #[true, true, true, false, true, false, false, false, false, false] rfl onlyN_noPanic (by kernel_rfl) (fun K hK => ?_); (go_simp; try go_bits); refine hK _ ?_; clear hK K
    refine wpR_pu 5 #[true, true, true, false, true, true, false, false, false, false] rfl onlyN_noPanic (by kernel_rfl) (fun K hK => ?_); (go_simp; try go_bits); refine hK _ ?_; clear hK K
    refine wpR_held (i := 6) (v := .string s.name) #[true, true, true, false, true, true, true, false, false, false] rfl onlyN_noPanic (by kernel_rfl) HT.out (.inl ⟨rfl, fun w' hT => ?_⟩) ?_
    · obtain ⟨c0, c1, c2, c3, c4, c5, c6, c7⟩ := step_box hT; go_simp
    simp only [Act.put, List.setIfInBounds_toArray, List.set_cons_zero, List.set_cons_succ]
    clear HT
    have HS0 := Aside.mk HS.out.drew
    clear HS
    revert HS0
    generalize World.drew wb = W0
    intro HS0
    refine wpR_keep #[true, true, true, true, true, true, true, false, false, false] (i := 3) rfl (by kernel_rfl) (fun K hK => ?_)
    go_simp
    refine (disk_sync E _ d A s.name _ HOK.out.name (HS0.out.s2)).mono ?_
    rintro e W1 ⟨rfl, hn1a⟩
    have hn1 : Sat E W1 (HP.pt BX (.cells s.vals.toArray 46) * (HP.disk d (A.sync s.name).2 * (HP.rdisk y A * q))) := hn1a.s2
    refine hK _ _ (Sat.any_of hn1) ?_
    clear hK K hn1a
    have HS1 : Aside (Sat E W1 (HP.pt BX (.cells s.vals.toArray 46) * (HP.disk d (A.sync s.name).2 * (HP.rdisk y A * q)))) := ⟨hn1.perm (by ac_rfl)⟩
    clear hn1
    refine wpR_eff #[true, true, true, true, true, true, true, true, false, false] (i := 7) rfl (by kernel_rfl) (fun K hK => ?_)
    go_simp
    refine (ref_sync E _ y A s.name _ (HS1.out.s3)).mono ?_
    rintro e W2 ⟨rfl, hn2a⟩
    have hn2 : Sat E W2 (HP.pt BX (.cells s.vals.toArray 46) * (HP.disk d (A.sync s.name).2 * (HP.rdisk y (A.sync s.name).2 * q))) := hn2a.perm (by ac_rfl)
    refine hK _ _ ?_
    clear hK K hn2a
    have HS2 : Aside (Sat E W2 (HP.pt BX (.cells s.vals.toArray 46) * (HP.disk d (A.sync s.name).2 * (HP.rdisk y (A.sync s.name).2 * q)))) := ⟨hn2.perm (by ac_rfl)⟩
    clear hn2 HS1
    refine wpR_rd 8 #[true, true, true, true, true, true, true, true, true, false] rfl onlyN_noPanic (by kernel_rfl) (fun K hK => ?_); (go_simp; try go_bits); refine hK _ ?_; clear hK K
    refine wpR_rd 9 #[true, true, true, true, true, true, true, true, true, true] rfl onlyN_noPanic (by kernel_rfl) (fun K hK => ?_); (go_simp; try go_bits); refine hK _ ?_; clear hK K
    refine wpR_done (by kernel_rfl) ?_ _
    simp only [OnlyN]
    have HS9 := HS2
    clear HS2
    go_wp2
    go_ret
    refine ⟨by simp, ?_⟩
    rw [HR.out]
    exact HS9.out.right
  by_cases k3 : kk = 3
  · subst k3
    have HR : Aside (AR = (A.remove s.name).2) := ⟨by rw [HAR.out]; unfold Dk.stepK; simp⟩
    go_upto_region 12 with fail
    clear c0 c1 c2 c3 c4 c5 c6 c7
    refine region_R [3, 7] [3] (fun W => Sat E W (HP.pt BX (.cells s.vals.toArray 46) * HP.any)) #[false, false, false, false, false, false, false, false, false, false] (by kernel_rfl) rfl rfl ?_
    have HT : Aside ((fun W => Sat E W (HP.pt BX (.cells s.vals.toArray 46) * HP.any)) _) := ⟨(Sat.any_of HS.out).drew⟩
    refine wpR_rd 0 #[true, false, false, false, false, false, false, false, false, false] rfl onlyN_noPanic (by kernel_rfl) (fun K hK => ?_); (go_simp; try go_bits); refine hK _ ?_; clear hK K
    refine wpR_rd 1 #[true, true, false, false, false, false, false, false, false, false] rfl onlyN_noPanic (by kernel_rfl) (fun K hK => ?_); (go_simp; try go_bits); refine hK _ ?_; clear hK K
    refine wpR_held (i := 2) (v := .string s.name) #[true, true, true, false, false, false, false, false, false, false] rfl onlyN_noPanic (by kernel_rfl) HT.out (.inl ⟨rfl, fun w' hT => ?_⟩) ?_
    · obtain ⟨c0, c1, c2, c3, c4, c5, c6, c7⟩ := step_box hT; go_simp
    simp only [Act.put, List.setIfInBounds_toArray, List.set_cons_zero, List.set_cons_succ]
    refine wpR_pu 4 #[true, true, true, false, true, false, false, false, false, false] rfl onlyN_noPanic (by kernel_rfl) (fun K hK => ?_); (go_simp; try go_bits); refine hK _ ?_; clear hK K
    refine wpR_pu 5 #[true, true, true, false, true, true, false, false, false, false] rfl onlyN_noPanic (by kernel_rfl) (fun K hK => ?_); (go_simp; try go_bits); refine hK _ ?_; clear hK K
    refine wpR_held (i := 6) (v := .string s.name) #[true, true, true, false, true, true, true, false, false, false] rfl onlyN_noPanic (by kernel_rfl) HT.out (.inl ⟨rfl, fun w' hT => ?_⟩) ?_
    · obtain ⟨c0, c1, c2, c3, c4, c5, c6, c7⟩ := step_box hT; go_simp
    simp only [Act.put, List.setIfInBounds_toArray, List.set_cons_zero, List.set_cons_succ]
    clear HT
    have HS0 := Aside.mk HS.out.drew
    clear HS
    revert HS0
    generalize World.drew wb = W0
    intro HS0
    refine wpR_keep #[true, true, true, true, true, true, true, false, false, false] (i := 3) rfl (by kernel_rfl) (fun K hK => ?_)
    go_simp
    refine (disk_remove E _ d A s.name _ HOK.out.name (HS0.out.s2)).mono ?_
    rintro e W1 ⟨rfl, hn1a⟩
    have hn1 : Sat E W1 (HP.pt BX (.cells s.vals.toArray 46) * (HP.disk d (A.remove s.name).2 * (HP.rdisk y A * q))) := hn1a.s2
    refine hK _ _ (Sat.any_of hn1) ?_
    clear hK K hn1a
    have HS1 : Aside (Sat E W1 (HP.pt BX (.cells s.vals.toArray 46) * (HP.disk d (A.remove s.name).2 * (HP.rdisk y A * q)))) := ⟨hn1.perm (by ac_rfl)⟩
    clear hn1
    refine wpR_eff #[true, true, true, true, true, true, true, true, false, false] (i := 7) rfl (by kernel_rfl) (fun K hK => ?_)
    go_simp
    refine (ref_remove E _ y A s.name _ (HS1.out.s3)).mono ?_
    rintro e W2 ⟨rfl, hn2a⟩
    have hn2 : Sat E W2 (HP.pt BX (.cells s.vals.toArray 46) * (HP.disk d (A.remove s.name).2 * (HP.rdisk y (A.remove s.name).2 * q))) := hn2a.perm (by ac_rfl)
    refine hK _ _ ?_
    clear hK K hn2a
    have HS2 : Aside (Sat E W2 (HP.pt BX (.cells s.vals.toArray 46) * (HP.disk d (A.remove s.name).2 * (HP.rdisk y (A.remove s.name).2 * q)))) := ⟨hn2.perm (by ac_rfl)⟩
    clear hn2 HS1
    refine wpR_rd 8 #[true, true, true, true, true, true, true, true, true, false] rfl onlyN_noPanic (by kernel_rfl) (fun K hK => ?_); (go_simp; try go_bits); refine hK _ ?_; clear hK K
    refine wpR_rd 9 #[true, true, true, true, true, true, true, true, true, true] rfl onlyN_noPanic (by kernel_rfl) (fun K hK => ?_); (go_simp; try go_bits); refine hK _ ?_; clear hK K
    refine wpR_done (by kernel_rfl) ?_ _
    simp only [OnlyN]
    have HS9 := HS2
    clear HS2
    go_wp2
    go_ret
    refine ⟨by simp, ?_⟩
    rw [HR.out]
    exact HS9.out.right
  by_cases k4 : kk = 4
  · subst k4
    have HR : Aside (AR = (A.rot s.name s.i s.at_ s.mask).2) := ⟨by rw [HAR.out]; unfold Dk.stepK; simp⟩
    go_upto_region 14 with fail
    clear c0 c1 c2 c3 c4 c5 c6 c7
    refine region_R [9, 19] [9] (fun W => Sat E W (HP.pt BX (.cells s.vals.toArray 46) * HP.any)) #[false, false, false, false, false, false, false, false, false, false, false, false, false, false, false, false, false, false, false, false, false, false] (by kernel_rfl) rfl rfl ?_
    have HT : Aside ((fun W => Sat E W (HP.pt BX (.cells s.vals.toArray 46) * HP.any)) _) := ⟨(Sat.any_of HS.out).drew⟩
    refine wpR_rd 0 #[true, false, false, false, false, false, false, false, false, false, false, false, false, false, false, false, false, false, false, false, false, false] rfl onlyN_noPanic (by kernel_rfl) (fun K hK => ?_); (go_simp; try go_bits); refine hK _ ?_; clear hK K
    refine wpR_rd 1 #[true, true, false, false, false, false, false, false, false, false, false, false, false, false, false, false, false, false, false, false, false, false] rfl onlyN_noPanic (by kernel_rfl) (fun K hK => ?_); (go_simp; try go_bits); refine hK _ ?_; clear hK K
    refine wpR_held (i := 2) (v := .string s.name) #[true, true, true, false, false, false, false, false, false, false, false, false, false, false, false, false, false, false, false, false, false, false] rfl onlyN_noPanic (by kernel_rfl) HT.out (.inl ⟨rfl, fun w' hT => ?_⟩) ?_
    · obtain ⟨c0, c1, c2, c3, c4, c5, c6, c7⟩ := step_box hT; go_simp
    simp only [Act.put, List.setIfInBounds_toArray, List.set_cons_zero, List.set_cons_succ]
    refine wpR_rd 3 #[true, true, true, true, false, false, false, false, false, false, false, false, false, false, false, false, false, false, false, false, false, false] rfl onlyN_noPanic (by kernel_rfl) (fun K hK => ?_); (go_simp; try go_bits); refine hK _ ?_; clear hK K
    refine wpR_held (i := 4) (v := .int .i64 s.i) #[true, true, true, true, true, false, false, false, false, false, false, false, false, false, false, false, false, false, false, false, false, false] rfl onlyN_noPanic (by kernel_rfl) HT.out (.inl ⟨rfl, fun w' hT => ?_⟩) ?_
    · obtain ⟨c0, c1, c2, c3, c4, c5, c6, c7⟩ := step_box hT; go_simp
    simp only [Act.put, List.setIfInBounds_toArray, List.set_cons_zero, List.set_cons_succ]
    refine wpR_rd 5 #[true, true, true, true, true, true, false, false, false, false, false, false, false, false, false, false, false, false, false, false, false, false] rfl onlyN_noPanic (by kernel_rfl) (fun K hK => ?_); (go_simp; try go_bits); refine hK _ ?_; clear hK K
    refine wpR_held (i := 6) (v := .int .i64 s.at_) #[true, true, true, true, true, true, true, false, false, false, false, false, false, false, false, false, false, false, false, false, false, false] rfl onlyN_noPanic (by kernel_rfl) HT.out (.inl ⟨rfl, fun w' hT => ?_⟩) ?_
    · obtain ⟨c0, c1, c2, c3, c4, c5, c6, c7⟩ := step_box hT; go_simp
    simp only [Act.put, List.setIfInBounds_toArray, List.set_cons_zero, List.set_cons_succ]
    refine wpR_rd 7 #[true, true, true, true, true, true, true, true, false, false, false, false, false, false, false, false, false, false, false, false, false, false] rfl onlyN_noPanic (by kernel_rfl) (fun K hK => ?_); (go_simp; try go_bits); refine hK _ ?_; clear hK K
    refine wpR_held (i := 8) (v := .int .u8 s.mask) #[true, true, true, true, true, true, true, true, true, false, false, false, false, false, false, false, false, false, false, false, false, false] rfl onlyN_noPanic (by kernel_rfl) HT.out (.inl ⟨rfl, fun w' hT => ?_⟩) ?_
    · obtain ⟨c0, c1, c2, c3, c4, c5, c6, c7⟩ := step_box hT; go_simp
    simp only [Act.put, List.setIfInBounds_toArray, List.set_cons_zero, List.set_cons_succ]
    refine wpR_pu 10 #[true, true, true, true, true, true, true, true, true, false, true, false, false, false, false, false, false, false, false, false, false, false] rfl onlyN_noPanic (by kernel_rfl) (fun K hK => ?_); (go_simp; try go_bits); refine hK _ ?_; clear hK K
    refine wpR_pu 11 #[true, true, true, true, true, true, true, true, true, false, true, true, false, false, false, false, false, false, false, false, false, false] rfl onlyN_noPanic (by kernel_rfl) (fun K hK => ?_); (go_simp; try go_bits); refine hK _ ?_; clear hK K
    refine wpR_held (i := 12) (v := .string s.name) #[true, true, true, true, true, true, true, true, true, false, true, true, true, false, false, false, false, false, false, false, false, false] rfl onlyN_noPanic (by kernel_rfl) HT.out (.inl ⟨rfl, fun w' hT => ?_⟩) ?_
    · obtain ⟨c0, c1, c2, c3, c4, c5, c6, c7⟩ := step_box hT; go_simp
    simp only [Act.put, List.setIfInBounds_toArray, List.set_cons_zero, List.set_cons_succ]
    refine wpR_pu 13 #[true, true, true, true, true, true, true, true, true, false, true, true, true, true, false, false, false, false, false, false, false, false] rfl onlyN_noPanic (by kernel_rfl) (fun K hK => ?_); (go_simp; try go_bits); refine hK _ ?_; clear hK K
    refine wpR_held (i := 14) (v := .int .i64 s.i) #[true, true, true, true, true, true, true, true, true, false, true, true, true, true, true, false, false, false, false, false, false, false] rfl onlyN_noPanic (by kernel_rfl) HT.out (.inl ⟨rfl, fun w' hT => ?_⟩) ?_
    · obtain ⟨c0, c1, c2, c3, c4, c5, c6, c7⟩ := step_box hT; go_simp
    simp only [Act.put, List.setIfInBounds_toArray, List.set_cons_zero, List.set_cons_succ]
    refine wpR_pu 15 #[true, true, true, true, true, true, true, true, true, false, true, true, true, true, true, true, false, false, false, false, false, false] rfl onlyN_noPanic (by kernel_rfl) (fun K hK => ?_); (go_simp; try go_bits); refine hK _ ?_; clear hK K
    refine wpR_held (i := 16) (v := .int .i64 s.at_) #[true, true, true, true, true, true, true, true, true, false, true, true, true, true, true, true, true, false, false, false, false, false] rfl onlyN_noPanic (by kernel_rfl) HT.out (.inl ⟨rfl, fun w' hT => ?_⟩) ?_
    · obtain ⟨c0, c1, c2, c3, c4, c5, c6, c7⟩ := step_box hT; go_simp
    simp only [Act.put, List.setIfInBounds_toArray, List.set_cons_zero, List.set_cons_succ]
    refine wpR_pu 17 #[true, true, true, true, true, true, true, true, true, false, true, true, true, true, true, true, true, true, false, false, false, false] rfl onlyN_noPanic (by kernel_rfl) (fun K hK => ?_); (go_simp; try go_bits); refine hK _ ?_; clear hK K
    refine wpR_held (i := 18) (v := .int .u8 s.mask) #[true, true, true, true, true, true, true, true, true, false, true, true, true, true, true, true, true, true, true, false, false, false] rfl onlyN_noPanic (by kernel_rfl) HT.out (.inl ⟨rfl, fun w' hT => ?_⟩) ?_
    · obtain ⟨c0, c1, c2, c3, c4, c5, c6, c7⟩ := step_box hT; go_simp
    simp only [Act.put, List.setIfInBounds_toArray, List.set_cons_zero, List.set_cons_succ]
    clear HT
    have HS0 := Aside.mk HS.out.drew
    clear HS
    revert HS0
    generalize World.drew wb = W0
    intro HS0
    refine wpR_keep #[true, true, true, true, true, true, true, true, true, true, true, true, true, true, true, true, true, true, true, false, false, false] (i := 9) rfl (by kernel_rfl) (fun K hK => ?_)
    go_simp
    refine (disk_rot E _ d A s.name s.i s.at_ s.mask _ HOK.out.name (HS0.out.s2)).mono ?_
    rintro e W1 ⟨rfl, hn1a⟩
    have hn1 : Sat E W1 (HP.pt BX (.cells s.vals.toArray 46) * (HP.disk d (A.rot s.name s.i s.at_ s.mask).2 * (HP.rdisk y A * q))) := hn1a.s2
    refine hK _ _ (Sat.any_of hn1) ?_
    clear hK K hn1a
    have HS1 : Aside (Sat E W1 (HP.pt BX (.cells s.vals.toArray 46) * (HP.disk d (A.rot s.name s.i s.at_ s.mask).2 * (HP.rdisk y A * q)))) := ⟨hn1.perm (by ac_rfl)⟩
    clear hn1
    refine wpR_eff #[true, true, true, true, true, true, true, true, true, true, true, true, true, true, true, true, true, true, true, true, false, false] (i := 19) rfl (by kernel_rfl) (fun K hK => ?_)
    go_simp
    refine (ref_rot E _ y A s.name s.i s.at_ s.mask _ (HS1.out.s3)).mono ?_
    rintro e W2 ⟨rfl, hn2a⟩
    have hn2 : Sat E W2 (HP.pt BX (.cells s.vals.toArray 46) * (HP.disk d (A.rot s.name s.i s.at_ s.mask).2 * (HP.rdisk y (A.rot s.name s.i s.at_ s.mask).2 * q))) := hn2a.perm (by ac_rfl)
    refine hK _ _ ?_
    clear hK K hn2a
    have HS2 : Aside (Sat E W2 (HP.pt BX (.cells s.vals.toArray 46) * (HP.disk d (A.rot s.name s.i s.at_ s.mask).2 * (HP.rdisk y (A.rot s.name s.i s.at_ s.mask).2 * q)))) := ⟨hn2.perm (by ac_rfl)⟩
    clear hn2 HS1
    refine wpR_rd 20 #[true, true, true, true, true, true, true, true, true, true, true, true, true, true, true, true, true, true, true, true, true, false] rfl onlyN_noPanic (by kernel_rfl) (fun K hK => ?_); (go_simp; try go_bits); refine hK _ ?_; clear hK K
    refine wpR_rd 21 #[true, true, true, true, true, true, true, true, true, true, true, true, true, true, true, true, true, true, true, true, true, true] rfl onlyN_noPanic (by kernel_rfl) (fun K hK => ?_); (go_simp; try go_bits); refine hK _ ?_; clear hK K
    refine wpR_done (by kernel_rfl) ?_ _
    simp only [OnlyN]
    have HS9 := HS2
    clear HS2
    go_wp2
    go_ret
    refine ⟨by simp, ?_⟩
    rw [HR.out]
    exact HS9.out.right
  by_cases k5 : kk = 5
  · subst k5
    have HR : Aside (AR = A.crash s.kept.l) := ⟨by rw [HAR.out]; unfold Dk.stepK; simp⟩
    go_upto_region 16 with fail
    clear c0 c1 c2 c3 c4 c5 c6 c7
    refine region_R [3, 7] [3] (fun W => Sat E W (HP.pt BX (.cells s.vals.toArray 46) * HP.any)) #[false, false, false, false, false, false, false, false, false, false] (by kernel_rfl) rfl rfl ?_
    have HT : Aside ((fun W => Sat E W (HP.pt BX (.cells s.vals.toArray 46) * HP.any)) _) := ⟨(Sat.any_of HS.out).drew⟩
    refine wpR_rd 0 #[true, false, false, false, false, false, false, false, false, false] rfl onlyN_noPanic (by kernel_rfl) (fun K hK => ?_); (go_simp; try go_bits); refine hK _ ?_; clear hK K
    refine wpR_rd 1 #[true, true, false, false, false, false, false, false, false, false] rfl onlyN_noPanic (by kernel_rfl) (fun K hK => ?_); (go_simp; try go_bits); refine hK _ ?_; clear hK K
    refine wpR_held (i := 2) (v := .slice s.kept.A s.kept.l.length s.kept.cap) #[true, true, true, false, false, false, false, false, false, false] rfl onlyN_noPanic (by kernel_rfl) HT.out (.inl ⟨rfl, fun w' hT => ?_⟩) ?_
    · obtain ⟨c0, c1, c2, c3, c4, c5, c6, c7⟩ := step_box hT; go_simp
    simp only [Act.put, List.setIfInBounds_toArray, List.set_cons_zero, List.set_cons_succ]
    refine wpR_pu 4 #[true, true, true, false, true, false, false, false, false, false] rfl onlyN_noPanic (by kernel_rfl) (fun K hK => ?_); (go_simp; try go_bits); refine hK _ ?_; clear hK K
    refine wpR_pu 5 #[true, true, true, false, true, true, false, false, false, false] rfl onlyN_noPanic (by kernel_rfl) (fun K hK => ?_); (go_simp; try go_bits); refine hK _ ?_; clear hK K
    refine wpR_held (i := 6) (v := .slice s.kept.A s.kept.l.length s.kept.cap) #[true, true, true, false, true, true, true, false, false, false] rfl onlyN_noPanic (by kernel_rfl) HT.out (.inl ⟨rfl, fun w' hT => ?_⟩) ?_
    · obtain ⟨c0, c1, c2, c3, c4, c5, c6, c7⟩ := step_box hT; go_simp
    simp only [Act.put, List.setIfInBounds_toArray, List.set_cons_zero, List.set_cons_succ]
    clear HT
    have HS0 := Aside.mk HS.out.drew
    clear HS
    revert HS0
    generalize World.drew wb = W0
    intro HS0
    refine wpR_keep #[true, true, true, true, true, true, true, false, false, false] (i := 3) rfl (by kernel_rfl) (fun K hK => ?_)
    go_simp
    refine (disk_crash E _ d A s.kept.A s.kept.l s.kept.cap _ (by have := HKL.out; unfold maxLen at this; omega) HOK.out.kept.2 (fun E w h => (HQ.out _ _ h.right.right).2) (HS0.out.s2)).mono ?_
    rintro e W1 ⟨rfl, hn1a⟩
    have hn1 : Sat E W1 (HP.pt BX (.cells s.vals.toArray 46) * (HP.disk d (A.crash s.kept.l) * (HP.rdisk y A * q))) := hn1a.s2
    refine hK _ _ (Sat.any_of hn1) ?_
    clear hK K hn1a
    have HS1 : Aside (Sat E W1 (HP.pt BX (.cells s.vals.toArray 46) * (HP.disk d (A.crash s.kept.l) * (HP.rdisk y A * q)))) := ⟨hn1.perm (by ac_rfl)⟩
    clear hn1
    refine wpR_eff #[true, true, true, true, true, true, true, true, false, false] (i := 7) rfl (by kernel_rfl) (fun K hK => ?_)
    go_simp
    refine (ref_crash E _ y A s.kept.A s.kept.l s.kept.cap _ HKL.out HOK.out.kept.2 (fun E w h => (HQ.out _ _ h.right.right).2) (HS1.out.s3)).mono ?_
    rintro e W2 ⟨rfl, hn2a⟩
    have hn2 : Sat E W2 (HP.pt BX (.cells s.vals.toArray 46) * (HP.disk d (A.crash s.kept.l) * (HP.rdisk y (A.crash s.kept.l) * q))) := hn2a.perm (by ac_rfl)
    refine hK _ _ ?_
    clear hK K hn2a
    have HS2 : Aside (Sat E W2 (HP.pt BX (.cells s.vals.toArray 46) * (HP.disk d (A.crash s.kept.l) * (HP.rdisk y (A.crash s.kept.l) * q)))) := ⟨hn2.perm (by ac_rfl)⟩
    clear hn2 HS1
    refine wpR_rd 8 #[true, true, true, true, true, true, true, true, true, false] rfl onlyN_noPanic (by kernel_rfl) (fun K hK => ?_); (go_simp; try go_bits); refine hK _ ?_; clear hK K
    refine wpR_rd 9 #[true, true, true, true, true, true, true, true, true, true] rfl onlyN_noPanic (by kernel_rfl) (fun K hK => ?_); (go_simp; try go_bits); refine hK _ ?_; clear hK K
    refine wpR_done (by kernel_rfl) ?_ _
    simp only [OnlyN]
    have HS9 := HS2
    clear HS2
    go_wp2
    go_ret
    refine ⟨by simp, ?_⟩
    rw [HR.out]
    exact HS9.out.right
  by_cases k1 : kk = 1
  · subst k1
    have HR : Aside (AR = (A.write s.name s.i s.b.l).2) := ⟨by rw [HAR.out]; unfold Dk.stepK; simp⟩
    go_upto_region 8 with fail
    clear c0 c1 c2 c3 c4 c5 c6 c7
    refine region_R [7, 15] [7] (fun W => Sat E W (HP.pt BX (.cells s.vals.toArray 46) * HP.any)) #[false, false, false, false, false, false, false, false, false, false, false, false, false, false, false, false, false, false] (by kernel_rfl) rfl rfl ?_
    have HT : Aside ((fun W => Sat E W (HP.pt BX (.cells s.vals.toArray 46) * HP.any)) _) := ⟨(Sat.any_of HS.out).drew⟩
    refine wpR_rd 0 #[true, false, false, false, false, false, false, false, false, false, false, false, false, false, false, false, false, false] rfl onlyN_noPanic (by kernel_rfl) (fun K hK => ?_); (go_simp; try go_bits); refine hK _ ?_; clear hK K
    refine wpR_rd 1 #[true, true, false, false, false, false, false, false, false, false, false, false, false, false, false, false, false, false] rfl onlyN_noPanic (by kernel_rfl) (fun K hK => ?_); (go_simp; try go_bits); refine hK _ ?_; clear hK K
    refine wpR_held (i := 2) (v := .string s.name) #[true, true, true, false, false, false, false, false, false, false, false, false, false, false, false, false, false, false] rfl onlyN_noPanic (by kernel_rfl) HT.out (.inl ⟨rfl, fun w' hT => ?_⟩) ?_
    · obtain ⟨c0, c1, c2, c3, c4, c5, c6, c7⟩ := step_box hT; go_simp
    simp only [Act.put, List.setIfInBounds_toArray, List.set_cons_zero, List.set_cons_succ]
    refine wpR_rd 3 #[true, true, true, true, false, false, false, false, false, false, false, false, false, false, false, false, false, false] rfl onlyN_noPanic (by kernel_rfl) (fun K hK => ?_); (go_simp; try go_bits); refine hK _ ?_; clear hK K
    refine wpR_held (i := 4) (v := .int .i64 s.i) #[true, true, true, true, true, false, false, false, false, false, false, false, false, false, false, false, false, false] rfl onlyN_noPanic (by kernel_rfl) HT.out (.inl ⟨rfl, fun w' hT => ?_⟩) ?_
    · obtain ⟨c0, c1, c2, c3, c4, c5, c6, c7⟩ := step_box hT; go_simp
    simp only [Act.put, List.setIfInBounds_toArray, List.set_cons_zero, List.set_cons_succ]
    refine wpR_rd 5 #[true, true, true, true, true, true, false, false, false, false, false, false, false, false, false, false, false, false] rfl onlyN_noPanic (by kernel_rfl) (fun K hK => ?_); (go_simp; try go_bits); refine hK _ ?_; clear hK K
    refine wpR_held (i := 6) (v := .slice s.b.A s.b.l.length s.b.cap) #[true, true, true, true, true, true, true, false, false, false, false, false, false, false, false, false, false, false] rfl onlyN_noPanic (by kernel_rfl) HT.out (.inl ⟨rfl, fun w' hT => ?_⟩) ?_
    · obtain ⟨c0, c1, c2, c3, c4, c5, c6, c7⟩ := step_box hT; go_simp
    simp only [Act.put, List.setIfInBounds_toArray, List.set_cons_zero, List.set_cons_succ]
    refine wpR_pu 8 #[true, true, true, true, true, true, true, false, true, false, false, false, false, false, false, false, false, false] rfl onlyN_noPanic (by kernel_rfl) (fun K hK => ?_); (go_simp; try go_bits); refine hK _ ?_; clear hK K
    refine wpR_pu 9 #[true, true, true, true, true, true, true, false, true, true, false, false, false, false, false, false, false, false] rfl onlyN_noPanic (by kernel_rfl) (fun K hK => ?_); (go_simp; try go_bits); refine hK _ ?_; clear hK K
    refine wpR_held (i := 10) (v := .string s.name) #[true, true, true, true, true, true, true, false, true, true, true, false, false, false, false, false, false, false] rfl onlyN_noPanic (by kernel_rfl) HT.out (.inl ⟨rfl, fun w' hT => ?_⟩) ?_
    · obtain ⟨c0, c1, c2, c3, c4, c5, c6, c7⟩ := step_box hT; go_simp
    simp only [Act.put, List.setIfInBounds_toArray, List.set_cons_zero, List.set_cons_succ]
    refine wpR_pu 11 #[true, true, true, true, true, true, true, false, true, true, true, true, false, false, false, false, false, false] rfl onlyN_noPanic (by kernel_rfl) (fun K hK => ?_); (go_simp; try go_bits); refine hK _ ?_; clear hK K
    refine wpR_held (i := 12) (v := .int .i64 s.i) #[true, true, true, true, true, true, true, false, true, true, true, true, true, false, false, false, false, false] rfl onlyN_noPanic (by kernel_rfl) HT.out (.inl ⟨rfl, fun w' hT => ?_⟩) ?_
    · obtain ⟨c0, c1, c2, c3, c4, c5, c6, c7⟩ := step_box hT; go_simp
    simp only [Act.put, List.setIfInBounds_toArray, List.set_cons_zero, List.set_cons_succ]
    refine wpR_pu 13 #[true, true, true, true, true, true, true, false, true, true, true, true, true, true, false, false, false, false] rfl onlyN_noPanic (by kernel_rfl) (fun K hK => ?_); (go_simp; try go_bits); refine hK _ ?_; clear hK K
    refine wpR_held (i := 14) (v := .slice s.b.A s.b.l.length s.b.cap) #[true, true, true, true, true, true, true, false, true, true, true, true, true, true, true, false, false, false] rfl onlyN_noPanic (by kernel_rfl) HT.out (.inl ⟨rfl, fun w' hT => ?_⟩) ?_
    · obtain ⟨c0, c1, c2, c3, c4, c5, c6, c7⟩ := step_box hT; go_simp
    simp only [Act.put, List.setIfInBounds_toArray, List.set_cons_zero, List.set_cons_succ]
    clear HT
    have HS0 := Aside.mk HS.out.drew
    clear HS
    revert HS0
    generalize World.drew wb = W0
    intro HS0
    refine wpR_keep #[true, true, true, true, true, true, true, true, true, true, true, true, true, true, true, false, false, false] (i := 7) rfl (by kernel_rfl) (fun K hK => ?_)
    go_simp
    refine (disk_write E _ d A s.name s.i s.b.A s.b.l s.b.l.length s.b.cap _ HOK.out.name rfl HBL.out (fun w h => (HQ.out _ _ h.right.right).1) (HS0.out.s2)).mono ?_
    rintro e W1 ⟨rfl, hn1a⟩
    have hn1 : Sat E W1 (HP.pt BX (.cells s.vals.toArray 46) * (HP.disk d (A.write s.name s.i s.b.l).2 * (HP.rdisk y A * q))) := hn1a.s2
    refine hK _ _ (Sat.any_of hn1) ?_
    clear hK K hn1a
    have HS1 : Aside (Sat E W1 (HP.pt BX (.cells s.vals.toArray 46) * (HP.disk d (A.write s.name s.i s.b.l).2 * (HP.rdisk y A * q)))) := ⟨hn1.perm (by ac_rfl)⟩
    clear hn1
    refine wpR_eff #[true, true, true, true, true, true, true, true, true, true, true, true, true, true, true, true, false, false] (i := 15) rfl (by kernel_rfl) (fun K hK => ?_)
    go_simp
    refine (ref_write E _ y A s.name s.i s.b.A s.b.l s.b.l.length s.b.cap _ HOK.out.name rfl HBL.out (fun w h => (HQ.out _ _ h.right.right).1) (HS1.out.s3)).mono ?_
    rintro e W2 ⟨rfl, hn2a⟩
    have hn2 : Sat E W2 (HP.pt BX (.cells s.vals.toArray 46) * (HP.disk d (A.write s.name s.i s.b.l).2 * (HP.rdisk y (A.write s.name s.i s.b.l).2 * q))) := hn2a.perm (by ac_rfl)
    refine hK _ _ ?_
    clear hK K hn2a
    have HS2 : Aside (Sat E W2 (HP.pt BX (.cells s.vals.toArray 46) * (HP.disk d (A.write s.name s.i s.b.l).2 * (HP.rdisk y (A.write s.name s.i s.b.l).2 * q)))) := ⟨hn2.perm (by ac_rfl)⟩
    clear hn2 HS1
    refine wpR_rd 16 #[true, true, true, true, true, true, true, true, true, true, true, true, true, true, true, true, true, false] rfl onlyN_noPanic (by kernel_rfl) (fun K hK => ?_); (go_simp; try go_bits); refine hK _ ?_; clear hK K
    refine wpR_rd 17 #[true, true, true, true, true, true, true, true, true, true, true, true, true, true, true, true, true, true] rfl onlyN_noPanic (by kernel_rfl) (fun K hK => ?_); (go_simp; try go_bits); refine hK _ ?_; clear hK K
    refine wpR_done (by kernel_rfl) ?_ _
    simp only [OnlyN]
    have HS9 := HS2
    clear HS2
    go_wp2
    go_ret
    refine ⟨by simp, ?_⟩
    rw [HR.out]
    exact HS9.out.right
  by_cases k0 : kk = 0
  · subst k0
    have HR : Aside (AR = (A.write s.name s.i (fullOf s.b.l)).2) := ⟨by rw [HAR.out]; unfold Dk.stepK; simp⟩
    go_wp2_with fail
    refine (full_ok E _ s _ HOK.out.b.1 (fun E' w' h => (HQ.out E' w' h.right.right.right).1) HS.out).mono ?_
    rintro e w1 ⟨gF, rfl, h1⟩
    clear c0 c1 c2 c3 c4 c5 c6 c7 HS
    obtain ⟨-, c1, -, -, c4, -⟩ := step_box h1.s2
    have H1 : Aside (Sat E w1 (HP.disk d A * (HP.row 5 1 (.slice (some ⟨gF, 0, none⟩) 128 128) 128 (b8s (fullOf s.b.l)) * (HP.pt BX (.cells s.vals.toArray 46) * (HP.rdisk y A * q))))) := ⟨h1.perm (by ac_rfl)⟩
    clear h1
    go_wp2_with fail
    refine (disk_write E _ d A s.name s.i (some ⟨gF, 0, none⟩) (fullOf s.b.l) 128 128 _ HOK.out.name (fullOf_length _) (by unfold maxLen; omega) (fun w h => h.row_cells) H1.out).mono ?_
    rintro e w2 ⟨rfl, h2⟩
    clear c1 c4 H1
    have h3 : Sat E w2 (HP.row 5 1 (.slice (some ⟨gF, 0, none⟩) 128 128) 128 (b8s (fullOf s.b.l)) * (HP.pt BX (.cells s.vals.toArray 46) * (HP.disk d (A.write s.name s.i (fullOf s.b.l)).2 * (HP.rdisk y A * q)))) := h2.perm (by ac_rfl)
    have H3 := Aside.mk (h3.alloc (.cells #[.slice (some ⟨gF, 0, none⟩) 128 128] 43))
    clear h2 h3
    go_wp2_with fail
    refine (spoil_ok E _ w2.heap.size (some ⟨gF, 0, none⟩) 128 128 (fullOf s.b.l) _ (by unfold maxLen; omega) H3.out).mono ?_
    rintro e w3 ⟨rfl, h4⟩
    have HS := Aside.mk h4
    clear h4 H3
    go_upto_region 6 with fail
    refine region_R [7, 8] [7] (fun W => Sat E W (HP.pt BX (.cells s.vals.toArray 46) * HP.any)) #[false, false, false, false, false, false, false, false, false, false, false] (by kernel_rfl) rfl rfl ?_
    have HT : Aside ((fun W => Sat E W (HP.pt BX (.cells s.vals.toArray 46) * HP.any)) _) := ⟨(Sat.any_of HS.out).drew⟩
    refine wpR_pu 0 #[true, false, false, false, false, false, false, false, false, false, false] rfl onlyN_noPanic (by kernel_rfl) (fun K hK => ?_); (go_simp; try go_bits); refine hK _ ?_; clear hK K
    refine wpR_pu 1 #[true, true, false, false, false, false, false, false, false, false, false] rfl onlyN_noPanic (by kernel_rfl) (fun K hK => ?_); (go_simp; try go_bits); refine hK _ ?_; clear hK K
    refine wpR_pu 2 #[true, true, true, false, false, false, false, false, false, false, false] rfl onlyN_noPanic (by kernel_rfl) (fun K hK => ?_); (go_simp; try go_bits); refine hK _ ?_; clear hK K
    refine wpR_held (i := 3) (v := .string s.name) #[true, true, true, true, false, false, false, false, false, false, false] rfl onlyN_noPanic (by kernel_rfl) HT.out (.inl ⟨rfl, fun w' hT => ?_⟩) ?_
    · obtain ⟨c0, c1, c2, c3, c4, c5, c6, c7⟩ := step_box hT; go_simp
    simp only [Act.put, List.setIfInBounds_toArray, List.set_cons_zero, List.set_cons_succ]
    refine wpR_pu 4 #[true, true, true, true, true, false, false, false, false, false, false] rfl onlyN_noPanic (by kernel_rfl) (fun K hK => ?_); (go_simp; try go_bits); refine hK _ ?_; clear hK K
    refine wpR_held (i := 5) (v := .int .i64 s.i) #[true, true, true, true, true, true, false, false, false, false, false] rfl onlyN_noPanic (by kernel_rfl) HT.out (.inl ⟨rfl, fun w' hT => ?_⟩) ?_
    · obtain ⟨c0, c1, c2, c3, c4, c5, c6, c7⟩ := step_box hT; go_simp
    simp only [Act.put, List.setIfInBounds_toArray, List.set_cons_zero, List.set_cons_succ]
    refine wpR_read (i := 6) #[true, true, true, true, true, true, true, false, false, false, false] rfl onlyN_noPanic (by kernel_rfl) (.inl ⟨rfl, exec_load rfl rfl (step_load (Sat.any_of HS.out).drew)⟩) ?_
    simp only [Act.put, List.setIfInBounds_toArray, List.set_cons_zero, List.set_cons_succ]
    clear HT
    have HS0 := Aside.mk HS.out.drew
    clear HS
    revert HS0
    generalize World.drew w3 = W0
    intro HS0
    refine wpR_keep #[true, true, true, true, true, true, true, true, false, false, false] (i := 7) rfl (by kernel_rfl) (fun K hK => ?_)
    go_simp
    refine (full_ok E _ s _ HOK.out.b.1 (fun E' w' h => (HQ.out E' w' h.right.right.right).1) HS0.out).mono ?_
    rintro e W1 ⟨gF, rfl, hn1⟩
    refine hK _ _ (Sat.any_of hn1.s2) ?_
    clear hK K
    have HS1 : Aside (Sat E W1 (HP.row 5 1 (.slice (some ⟨gF, 0, none⟩) 128 128) 128 (b8s (fullOf s.b.l)) * (HP.pt BX (.cells s.vals.toArray 46) * (HP.disk d (A.write s.name s.i (fullOf s.b.l)).2 * (HP.rdisk y A * q))))) := ⟨hn1.perm (by ac_rfl)⟩
    clear hn1
    refine wpR_eff #[true, true, true, true, true, true, true, true, true, false, false] (i := 8) rfl (by kernel_rfl) (fun K hK => ?_)
    go_simp
    have hn2b : Sat E W1 (HP.rdisk y A * (HP.row 5 1 (.slice (some ⟨gF, 0, none⟩) 128 128) 128 (b8s (fullOf s.b.l)) * (HP.pt BX (.cells s.vals.toArray 46) * (HP.disk d (A.write s.name s.i (fullOf s.b.l)).2 * q)))) := HS1.out.perm (by ac_rfl)
    refine (ref_write E _ y A s.name s.i (some ⟨gF, 0, none⟩) (fullOf s.b.l) 128 128 _ HOK.out.name (fullOf_length _) (by unfold maxLen; omega) (fun w h => h.row_cells) hn2b).mono ?_
    rintro e W2 ⟨rfl, hn2a⟩
    have hn2 : Sat E W2 (HP.row 5 1 (.slice (some ⟨gF, 0, none⟩) 128 128) 128 (b8s (fullOf s.b.l)) * (HP.pt BX (.cells s.vals.toArray 46) * (HP.disk d (A.write s.name s.i (fullOf s.b.l)).2 * (HP.rdisk y (A.write s.name s.i (fullOf s.b.l)).2 * q)))) := hn2a.perm (by ac_rfl)
    refine hK _ _ ?_
    clear hK K hn2a hn2b
    have HS2 : Aside (Sat E W2 (HP.row 5 1 (.slice (some ⟨gF, 0, none⟩) 128 128) 128 (b8s (fullOf s.b.l)) * (HP.pt BX (.cells s.vals.toArray 46) * (HP.disk d (A.write s.name s.i (fullOf s.b.l)).2 * (HP.rdisk y (A.write s.name s.i (fullOf s.b.l)).2 * q))))) := ⟨hn2.perm (by ac_rfl)⟩
    clear hn2 HS1
    refine wpR_rd 9 #[true, true, true, true, true, true, true, true, true, true, false] rfl onlyN_noPanic (by kernel_rfl) (fun K hK => ?_); (go_simp; try go_bits); refine hK _ ?_; clear hK K
    refine wpR_rd 10 #[true, true, true, true, true, true, true, true, true, true, true] rfl onlyN_noPanic (by kernel_rfl) (fun K hK => ?_); (go_simp; try go_bits); refine hK _ ?_; clear hK K
    refine wpR_done (by kernel_rfl) ?_ _
    simp only [OnlyN]
    have HS9 := HS2
    clear HS2
    go_wp2
    go_ret
    refine ⟨by simp, ?_⟩
    rw [HR.out]
    exact HS9.out.right.right
  · have k6 : kk = 6 := by omega
    subst k6
    have HR : Aside (AR = A.fuseK s.n) := ⟨by rw [HAR.out]; unfold Dk.stepK; simp⟩
    go_upto_region 17 with fail
    clear c0 c1 c2 c3 c4 c5 c6 c7
    refine region_R [3, 7] [3] (fun W => Sat E W (HP.pt BX (.cells s.vals.toArray 46) * HP.any)) #[false, false, false, false, false, false, false, false, false, false] (by kernel_rfl) rfl rfl ?_
    have HT : Aside ((fun W => Sat E W (HP.pt BX (.cells s.vals.toArray 46) * HP.any)) _) := ⟨(Sat.any_of HS.out).drew⟩
    refine wpR_rd 0 #[true, false, false, false, false, false, false, false, false, false] rfl onlyN_noPanic (by kernel_rfl) (fun K hK => ?_); (go_simp; try go_bits); refine hK _ ?_; clear hK K
    refine wpR_rd 1 #[true, true, false, false, false, false, false, false, false, false] rfl onlyN_noPanic (by kernel_rfl) (fun K hK => ?_); (go_simp; try go_bits); refine hK _ ?_; clear hK K
    refine wpR_held (i := 2) (v := .int .i64 s.n) #[true, true, true, false, false, false, false, false, false, false] rfl onlyN_noPanic (by kernel_rfl) HT.out (.inl ⟨rfl, fun w' hT => ?_⟩) ?_
    · obtain ⟨c0, c1, c2, c3, c4, c5, c6, c7⟩ := step_box hT; go_simp
    simp only [Act.put, List.setIfInBounds_toArray, List.set_cons_zero, List.set_cons_succ]
    refine wpR_pu 4 #[true, true, true, false, true, false, false, false, false, false] rfl onlyN_noPanic (by kernel_rfl) (fun K hK => ?_); (go_simp; try go_bits); refine hK _ ?_; clear hK K
    refine wpR_pu 5 #[true, true, true, false, true, true, false, false, false, false] rfl onlyN_noPanic (by kernel_rfl) (fun K hK => ?_); (go_simp; try go_bits); refine hK _ ?_; clear hK K
    refine wpR_held (i := 6) (v := .int .i64 s.n) #[true, true, true, false, true, true, true, false, false, false] rfl onlyN_noPanic (by kernel_rfl) HT.out (.inl ⟨rfl, fun w' hT => ?_⟩) ?_
    · obtain ⟨c0, c1, c2, c3, c4, c5, c6, c7⟩ := step_box hT; go_simp
    simp only [Act.put, List.setIfInBounds_toArray, List.set_cons_zero, List.set_cons_succ]
    clear HT
    have HS0 := Aside.mk HS.out.drew
    clear HS
    revert HS0
    generalize World.drew wb = W0
    intro HS0
    refine wpR_keep #[true, true, true, true, true, true, true, false, false, false] (i := 3) rfl (by kernel_rfl) (fun K hK => ?_)
    go_simp
    refine (fuse_d E _ d A s.n _ HOK.out.n (HS0.out.s2)).mono ?_
    rintro e W1 ⟨rfl, hn1a⟩
    have hn1 : Sat E W1 (HP.pt BX (.cells s.vals.toArray 46) * (HP.disk d (A.fuseK s.n) * (HP.rdisk y A * q))) := hn1a.s2
    refine hK _ _ (Sat.any_of hn1) ?_
    clear hK K hn1a
    have HS1 : Aside (Sat E W1 (HP.pt BX (.cells s.vals.toArray 46) * (HP.disk d (A.fuseK s.n) * (HP.rdisk y A * q)))) := ⟨hn1.perm (by ac_rfl)⟩
    clear hn1
    refine wpR_eff #[true, true, true, true, true, true, true, true, false, false] (i := 7) rfl (by kernel_rfl) (fun K hK => ?_)
    go_simp
    refine (fuse_r E _ y A s.n _ HOK.out.n (HS1.out.s3)).mono ?_
    rintro e W2 ⟨rfl, hn2a⟩
    have hn2 : Sat E W2 (HP.pt BX (.cells s.vals.toArray 46) * (HP.disk d (A.fuseK s.n) * (HP.rdisk y (A.fuseK s.n) * q))) := hn2a.perm (by ac_rfl)
    refine hK _ _ ?_
    clear hK K hn2a
    have HS2 : Aside (Sat E W2 (HP.pt BX (.cells s.vals.toArray 46) * (HP.disk d (A.fuseK s.n) * (HP.rdisk y (A.fuseK s.n) * q)))) := ⟨hn2.perm (by ac_rfl)⟩
    clear hn2 HS1
    refine wpR_rd 8 #[true, true, true, true, true, true, true, true, true, false] rfl onlyN_noPanic (by kernel_rfl) (fun K hK => ?_); (go_simp; try go_bits); refine hK _ ?_; clear hK K
    refine wpR_rd 9 #[true, true, true, true, true, true, true, true, true, true] rfl onlyN_noPanic (by kernel_rfl) (fun K hK => ?_); (go_simp; try go_bits); refine hK _ ?_; clear hK K
    refine wpR_done (by kernel_rfl) ?_ _
    simp only [OnlyN]
    have HS9 := HS2
    clear HS2
    go_wp2
    go_ret
    refine ⟨by simp, ?_⟩
    rw [HR.out]
    exact HS9.out.right
theorem agSpot : AgTy Tryz.prog 68 2 := ⟨⟨_, Tryz.underlying68, rfl⟩, by kernel_rfl⟩
theorem spot_cells {w : World} {g o : Nat} {l : List (ByteArray × Int)} (h : Cells w (some ⟨g, o, none⟩) (l.flatMap encSpot)) {k : Nat} {x : ByteArray × Int} (hk : l[k]? = some x) : (loadVar 68 ⟨g, o + k * 2, none⟩).run Tryz.prog w = .ok (.agg #[.string x.1, .int .i64 x.2]) w := by
  refine run_loadAgg (cs := encSpot x) agSpot rfl fun j u hj => ⟨_, rfl, ?_⟩
  have hj2 : j < 2 := (List.getElem?_eq_some_iff.1 hj).1
  have := h.some_ (k * 2 + j) u (by rw [flat_get encSpot 2 l (fun _ => rfl) k j x hk hj2]; exact hj)
  rw [addr_add] at this ⊢
  rw [show o + k * 2 + j = o + (k * 2 + j) by omega]
  exact this
theorem neq_spot (s t : ByteArray) (i j : Int) (w : World) : (binOp .neq 68 (.agg #[.string s, .int .i64 i]) (.agg #[.string t, .int .i64 j])).run Tryz.prog w = .ok (.bool (!(decide ((s, i) = (t, j))))) w := by
  by_cases hs : s = t
  · subst hs
    by_cases hi : i = j
    · subst hi; go_simp
    · go_simp
  · have h2 : ¬ s.toList = t.toList := fun h => hs (toList_inj h)
    go_simp
theorem take_eq_step {l m : List (ByteArray × Int)} {k : Nat} {x : ByteArray × Int} (h : l.take k = m.take k) (hl : l[k]? = some x) (hm : m[k]? = some x) : l.take (k + 1) = m.take (k + 1) := by
  rw [List.take_add_one, List.take_add_one, h, hl, hm]
set_option maxHeartbeats 1000000 in
set_option maxRecDepth 100000 in
theorem spots_equal (E : Env) (q : HP) (A0 A1 : Option Addr) (l0 l1 : List (ByteArray × Int)) (n0 n1 c0 c1 : Nat) (w : World) (e0 : l0.length = n0) (e1 : l1.length = n1) (k0 : n0 ≤ 1000000000) (k1 : n1 ≤ 1000000000)
    (h : ∀ w, Sat E w q → Cells w A0 (l0.flatMap encSpot) ∧ Cells w A1 (l1.flatMap encSpot)) (hw : Sat E w q) :
    Calls Tryz.prog 26 #[.slice A0 n0 c0, .slice A1 n1 c1] w fun e w' => e = .returned (.bool (decide (l0 = l1))) ∧ Sat E w' q := by
  have HW := Aside.mk (And.intro h (And.intro hw (And.intro e0 e1)))
  clear h hw e0 e1
  go_enter Tryz.func26, Tryz.ntmps26
  by_cases hn : n0 = n1
  · subst hn
    go_wp2
    go_loopw [13] (fun v13 wr => ∃ k : Nat, v13 = .int .i64 k ∧ k ≤ n0 ∧ Aside (l0.take k = l1.take k) ∧ Aside (Sat E wr q)) (fun x _ => n0 - (intOf x).toNat)
    case atStart => exact ⟨0, rfl, Nat.zero_le _, ⟨rfl⟩, ⟨HW.out.2.1⟩⟩
    case round =>
      obtain ⟨k, rfl, hk, HT, HS⟩ := hrel
      by_cases hlt : k < n0
      · have hlt2 : (k : Int) < (n0 : Int) := by omega
        have hk2 : (0 : Int) ≤ (k : Int) := by omega
        have hl0 : l0[k]? = some (l0[k]'(by rw [HW.out.2.2.1]; exact hlt)) := List.getElem?_eq_getElem _
        have hl1 : l1[k]? = some (l1[k]'(by rw [HW.out.2.2.2]; exact hlt)) := List.getElem?_eq_getElem _
        generalize l0[k]'(by rw [HW.out.2.2.1]; exact hlt) = x at hl0
        generalize l1[k]'(by rw [HW.out.2.2.2]; exact hlt) = y at hl1
        obtain ⟨c0', c1'⟩ := HW.out.1 wr.drew HS.out.drew
        have hlen0 : 0 < (l0.flatMap encSpot).length := by
          have h1 := flat_get encSpot 2 l0 (fun _ => rfl) k 0 x hl0 (by omega)
          exact Nat.lt_of_le_of_lt (Nat.zero_le _) (List.getElem?_eq_some_iff.1 (h1.trans rfl : _ = some (Value.string x.1))).1
        have hlen1 : 0 < (l1.flatMap encSpot).length := by
          have h1 := flat_get encSpot 2 l1 (fun _ => rfl) k 0 y hl1 (by omega)
          exact Nat.lt_of_le_of_lt (Nat.zero_le _) (List.getElem?_eq_some_iff.1 (h1.trans rfl : _ = some (Value.string y.1))).1
        obtain ⟨a0, rfl, -⟩ := c0'.at_ 0 hlen0
        obtain ⟨a1, rfl, -⟩ := c1'.at_ 0 hlen1
        obtain ⟨g0, o0, rfl⟩ := slice_addr c0' rfl hlen0
        obtain ⟨g1, o1, rfl⟩ := slice_addr c1' rfl hlen1
        have ld0 := spot_cells c0' hl0
        have ld1 := spot_cells c1' hl1
        have HL := Aside.mk (And.intro hl0 hl1)
        have HS2 := Aside.mk HS.out.drew
        clear c0' c1' hlen0 hlen1 hl0 hl1 HS
        obtain ⟨s, i⟩ := x
        obtain ⟨t, j⟩ := y
        dsimp only at ld0 ld1
        go_wp2
        refine region_R [] [] (fun _ => True) #[false, false, false, false, false, false, false, false, false] (by kernel_rfl) rfl rfl ?_
        refine wpR_rd 0 #[true, false, false, false, false, false, false, false, false] rfl onlyN_noPanic (by kernel_rfl) (fun K hK => ?_); (go_simp; try go_bits); refine hK _ ?_; clear hK K
        refine wpR_rd 1 #[true, true, false, false, false, false, false, false, false] rfl onlyN_noPanic (by kernel_rfl) (fun K hK => ?_); (go_simp; try go_bits); refine hK _ ?_; clear hK K
        refine wpR_rd 2 #[true, true, true, false, false, false, false, false, false] rfl onlyN_noPanic (by kernel_rfl) (fun K hK => ?_); (go_simp; try go_bits); refine hK _ ?_; clear hK K
        refine wpR_read (i := 3) #[true, true, true, true, false, false, false, false, false] rfl onlyN_noPanic (by kernel_rfl) (.inl ⟨rfl, exec_load rfl rfl ld0⟩) ?_
        simp only [Act.put, List.setIfInBounds_toArray, List.set_cons_zero, List.set_cons_succ]
        refine wpR_rd 4 #[true, true, true, true, true, false, false, false, false] rfl onlyN_noPanic (by kernel_rfl) (fun K hK => ?_); (go_simp; try go_bits); refine hK _ ?_; clear hK K
        refine wpR_rd 5 #[true, true, true, true, true, true, false, false, false] rfl onlyN_noPanic (by kernel_rfl) (fun K hK => ?_); (go_simp; try go_bits); refine hK _ ?_; clear hK K
        refine wpR_rd 6 #[true, true, true, true, true, true, true, false, false] rfl onlyN_noPanic (by kernel_rfl) (fun K hK => ?_); (go_simp; try go_bits); refine hK _ ?_; clear hK K
        refine wpR_read (i := 7) #[true, true, true, true, true, true, true, true, false] rfl onlyN_noPanic (by kernel_rfl) (.inl ⟨rfl, exec_load rfl rfl ld1⟩) ?_
        simp only [Act.put, List.setIfInBounds_toArray, List.set_cons_zero, List.set_cons_succ]
        refine wpR_read (i := 8) #[true, true, true, true, true, true, true, true, true] rfl onlyN_noPanic (by kernel_rfl) (.inl ⟨rfl, exec_binop rfl rfl rfl (run_eqGuard_agg _ .neq 68 _ _ _ _ (by kernel_rfl)) (neq_spot _ _ _ _ _)⟩) ?_
        simp only [Act.put, List.setIfInBounds_toArray, List.set_cons_zero, List.set_cons_succ]
        refine wpR_done (by kernel_rfl) ?_ _
        simp only [OnlyN]
        by_cases hxy : (s, i) = (t, j)
        · have HT2 : Aside (l0.take (k + 1) = l1.take (k + 1)) := ⟨take_eq_step HT.out HL.out.1 (by rw [hxy]; exact HL.out.2)⟩
          rw [decide_eq_true hxy]
          clear hxy HL HT ld0 ld1
          go_wp2
          go_roundw
          case rel => exact ⟨k + 1, by push_cast; rfl, by omega, HT2, HS2⟩
          case measure => simp [intOf]; omega
        · have HN : Aside (¬ l0 = l1) := ⟨fun he => by
            have h1 := HL.out.1
            rw [he, HL.out.2] at h1
            exact hxy (Option.some.inj h1).symm⟩
          rw [decide_eq_false hxy]
          clear hxy HL HT ld0 ld1
          go_wp2
          go_ret
          rw [decide_eq_false HN.out]
          exact ⟨rfl, HS2.out⟩
      · have hkn : k = n0 := by omega
        subst hkn
        have HE : Aside (l0 = l1) := ⟨by
          have h1 := HT.out
          rw [List.take_of_length_le (by rw [HW.out.2.2.1]; exact Nat.le_refl _), List.take_of_length_le (by rw [HW.out.2.2.2]; exact Nat.le_refl _)] at h1
          exact h1⟩
        clear HT
        go_wp2
        go_ret
        rw [decide_eq_true HE.out]
        exact ⟨rfl, HS.out⟩
  · have HN : Aside (¬ l0 = l1) := ⟨fun he => hn (by rw [← HW.out.2.2.1, ← HW.out.2.2.2, he])⟩
    have hn2 : ¬ (n0 : Int) = (n1 : Int) := by omega
    have hnb : ((n0 : Int) == (n1 : Int)) = false := by rw [beq_eq_false_iff_ne]; exact hn2
    go_wp2
    go_ret
    rw [decide_eq_false HN.out]
    exact ⟨rfl, HW.out.2.1⟩
theorem take_eq_step1 {α : Type} {l m : List α} {k : Nat} {x : α} (h : l.take k = m.take k) (hl : l[k]? = some x) (hm : m[k]? = some x) : l.take (k + 1) = m.take (k + 1) := by
  rw [List.take_add_one, List.take_add_one, h, hl, hm]
set_option maxHeartbeats 1000000 in
set_option maxRecDepth 100000 in
theorem strs_equal (E : Env) (q : HP) (A0 A1 : Option Addr) (l0 l1 : List ByteArray) (n0 n1 c0 c1 : Nat) (w : World) (e0 : l0.length = n0) (e1 : l1.length = n1) (k0 : n0 ≤ 1000000000) (k1 : n1 ≤ 1000000000)
    (h : ∀ w, Sat E w q → Cells w A0 (l0.map Value.string) ∧ Cells w A1 (l1.map Value.string)) (hw : Sat E w q) :
    Calls Tryz.prog 85 #[.slice A0 n0 c0, .slice A1 n1 c1] w fun e w' => e = .returned (.bool (decide (l0 = l1))) ∧ Sat E w' q := by
  have HW := Aside.mk (And.intro h (And.intro hw (And.intro e0 e1)))
  clear h hw e0 e1
  go_enter Tryz.func85, Tryz.ntmps85
  by_cases hn : n0 = n1
  · subst hn
    go_wp2
    go_loopw [13] (fun v13 wr => ∃ k : Nat, v13 = .int .i64 k ∧ k ≤ n0 ∧ Aside (l0.take k = l1.take k) ∧ Aside (Sat E wr q)) (fun x _ => n0 - (intOf x).toNat)
    case atStart => exact ⟨0, rfl, Nat.zero_le _, ⟨rfl⟩, ⟨HW.out.2.1⟩⟩
    case round =>
      obtain ⟨k, rfl, hk, HT, HS⟩ := hrel
      by_cases hlt : k < n0
      · have hlt2 : (k : Int) < (n0 : Int) := by omega
        have hk2 : (0 : Int) ≤ (k : Int) := by omega
        have hl0 : l0[k]? = some (l0[k]'(by rw [HW.out.2.2.1]; exact hlt)) := List.getElem?_eq_getElem _
        have hl1 : l1[k]? = some (l1[k]'(by rw [HW.out.2.2.2]; exact hlt)) := List.getElem?_eq_getElem _
        generalize l0[k]'(by rw [HW.out.2.2.1]; exact hlt) = x at hl0
        generalize l1[k]'(by rw [HW.out.2.2.2]; exact hlt) = y at hl1
        obtain ⟨c0', c1'⟩ := HW.out.1 wr.drew HS.out.drew
        have g0 : (l0.map Value.string)[k]? = some (.string x) := by rw [List.getElem?_map, hl0]; rfl
        have g1 : (l1.map Value.string)[k]? = some (.string y) := by rw [List.getElem?_map, hl1]; rfl
        obtain ⟨a0, rfl, -⟩ := c0' _ _ g0
        obtain ⟨a1, rfl, -⟩ := c1' _ _ g1
        obtain ⟨g0', o0, rfl⟩ := slice_addr c0' rfl (List.getElem?_eq_some_iff.1 g0).1
        obtain ⟨g1', o1, rfl⟩ := slice_addr c1' rfl (List.getElem?_eq_some_iff.1 g1).1
        have ld0 := c0'.some_ _ _ g0
        have ld1 := c1'.some_ _ _ g1
        rw [addr_add] at ld0 ld1
        have HL := Aside.mk (And.intro hl0 hl1)
        have HS2 := Aside.mk HS.out.drew
        clear c0' c1' g0 g1 hl0 hl1 HS
        by_cases hxy : x = y
        · subst hxy
          have HT2 : Aside (l0.take (k + 1) = l1.take (k + 1)) := ⟨take_eq_step1 HT.out HL.out.1 HL.out.2⟩
          clear HL HT
          go_wp2
          go_region
          all_goals
            go_wp2
            go_roundw
            case rel => exact ⟨k + 1, by push_cast; rfl, by omega, HT2, HS2⟩
            case measure => simp [intOf]; omega
        · have HN : Aside (¬ l0 = l1) := ⟨fun he => by
            have h1 := HL.out.1
            rw [he, HL.out.2] at h1
            exact hxy (Option.some.inj h1).symm⟩
          have hxy2 : (x.toList == y.toList) = false := by
            rw [beq_eq_false_iff_ne]
            exact fun h => hxy (toList_inj h)
          clear HL HT hxy
          go_wp2
          go_region
          all_goals
            go_wp2
            go_ret
            rw [decide_eq_false HN.out]
            exact ⟨rfl, HS2.out⟩
      · have hkn : k = n0 := by omega
        subst hkn
        have HE : Aside (l0 = l1) := ⟨by
          have h1 := HT.out
          rw [List.take_of_length_le (by rw [HW.out.2.2.1]; exact Nat.le_refl _), List.take_of_length_le (by rw [HW.out.2.2.2]; exact Nat.le_refl _)] at h1
          exact h1⟩
        clear HT
        go_wp2
        go_ret
        rw [decide_eq_true HE.out]
        exact ⟨rfl, HS.out⟩
  · have HN : Aside (¬ l0 = l1) := ⟨fun he => hn (by rw [← HW.out.2.2.1, ← HW.out.2.2.2, he])⟩
    have hn2 : ¬ (n0 : Int) = (n1 : Int) := by omega
    have hnb : ((n0 : Int) == (n1 : Int)) = false := by rw [beq_eq_false_iff_ne]; exact hn2
    go_wp2
    go_ret
    rw [decide_eq_false HN.out]
    exact ⟨rfl, HW.out.2.1⟩
theorem cel_some {A : Dk} {s : ByteArray} {i : Nat} (hi : i < (A.at s).length) : ∃ c, A.cel s i = some c ∧ c ∈ A.at s := by
  unfold Dk.cel
  rw [if_pos (by omega), Int.toNat_natCast, List.getElem?_eq_getElem hi]
  exact ⟨_, rfl, List.getElem_mem hi⟩
theorem at_fine {A : Dk} (h : A.Fine) {s : ByteArray} {c : Cel} (hc : c ∈ A.at s) : c.Fine := by
  unfold Dk.at at hc
  cases hl : lk A.files s with
  | none => rw [hl] at hc; cases hc
  | some l => rw [hl] at hc; exact h.cels _ (lk_mem hl) c hc
theorem names_map (A : Dk) : namesV A = (A.files.map (·.1)).map Value.string := by unfold namesV; rw [List.map_map]; rfl
theorem damaged_le {A : Dk} (h : A.Fine) : A.damaged.length ≤ 100000 := by
  have h1 : A.damaged.length ≤ sizeF A.files := spots_length A.files
  have h2 := h.fits
  have h3 := h.room
  omega
set_option maxHeartbeats 4000000 in
set_option maxRecDepth 100000 in
theorem same_ok (E : Env) (q : HP) (d y : Nat) (A : Dk) (w : World) (hb : A.Byt) (hw : Sat E w (HP.disk d A * (HP.rdisk y A * q))) :
    Calls Tryz.prog 22 #[.pointer (some ⟨d, 0, none⟩), .pointer (some ⟨y, 0, none⟩)] w fun e w' => e = .returned (.bool true) ∧ Sat E w' (HP.disk d A * (HP.rdisk y A * q)) := by
  have HF := Aside.mk hw.disk_fine
  have HB := Aside.mk hb
  have hnl := files_le HF.out
  have hdl := damaged_le HF.out
  have HW := Aside.mk hw
  clear hw hb
  obtain ⟨nl, hnle⟩ : ∃ nl, nl = A.files.length := ⟨_, rfl⟩
  obtain ⟨dl, hdle⟩ : ∃ dl, dl = A.damaged.length := ⟨_, rfl⟩
  rw [← hnle] at hnl
  rw [← hdle] at hdl
  have HNL := Aside.mk hnle
  have HDL := Aside.mk hdle
  clear hnle hdle
  go_enter Tryz.func22, Tryz.ntmps22
  go_wp2_with fail
  refine (rdisk_list E _ y A _ HW.out.s2).mono ?_
  rintro e w1 ⟨v, rfl, h1⟩
  rw [← HNL.out] at h1
  obtain ⟨AL, cL, rfl, hcL, -⟩ := h1.row_slice
  have H1 : Aside (Sat E w1 (HP.disk d A * (HP.row 9 1 (.slice AL nl cL) nl (namesV A) * (HP.rdisk y A * q)))) := ⟨h1.perm (by ac_rfl)⟩
  clear h1 HW
  go_wp2_with fail
  refine (disk_list E _ d A _ H1.out).mono ?_
  rintro e w2 ⟨v, rfl, h2⟩
  rw [← HNL.out] at h2
  obtain ⟨AM, cM, rfl, hcM, -⟩ := h2.row_slice
  have H2 := Aside.mk h2
  clear h2 H1
  go_wp2_with fail
  refine (strs_equal E _ AM AL (A.files.map (·.1)) (A.files.map (·.1)) nl nl cM cL _ (by rw [List.length_map, ← HNL.out]) (by rw [List.length_map, ← HNL.out]) (by omega) (by omega) (fun w h => by rw [← names_map]; exact ⟨h.row_cells, h.s3.row_cells⟩) H2.out).mono ?_
  rintro e w3 ⟨rfl, h3⟩
  rw [decide_eq_true rfl]
  have H3 : Aside (Sat E w3 (HP.disk d A * (HP.row 9 1 (.slice AL nl cL) nl (namesV A) * (HP.rdisk y A * q)))) := ⟨h3.right⟩
  clear h3 H2
  go_wp2_with fail
  refine (disk_free_ok E _ d A _ H3.out).mono ?_
  rintro e w4 ⟨rfl, h4⟩
  have H4 : Aside (Sat E w4 (HP.rdisk y A * (HP.disk d A * (HP.row 9 1 (.slice AL nl cL) nl (namesV A) * q)))) := ⟨h4.perm (by ac_rfl)⟩
  clear h4 H3
  obtain ⟨fr, hfr⟩ : ∃ fr, fr = A.free := ⟨_, rfl⟩
  have HRF := Aside.mk (rdisk_free E _ y A _ H4.out)
  rw [← hfr] at HRF ⊢
  clear hfr
  go_wp2_with fail
  refine HRF.out.mono ?_
  rintro e w5 ⟨rfl, h5⟩
  have H5 : Aside (Sat E w5 (HP.disk d A * (HP.row 9 1 (.slice AL nl cL) nl (namesV A) * (HP.rdisk y A * q)))) := ⟨h5.perm (by ac_rfl)⟩
  clear h5 HRF H4
  go_wp2_with fail
  refine (disk_damaged E _ d A _ H5.out).mono ?_
  rintro e w6 ⟨v, rfl, h6⟩
  rw [← HDL.out] at h6
  obtain ⟨D0, e0, rfl, -, -⟩ := h6.row_slice
  have H6 : Aside (Sat E w6 (HP.rdisk y A * (HP.row 68 2 (.slice D0 dl e0) dl (A.damaged.flatMap encSpot) * (HP.disk d A * (HP.row 9 1 (.slice AL nl cL) nl (namesV A) * q))))) := ⟨h6.perm (by ac_rfl)⟩
  clear h6 H5
  go_wp2_with fail
  refine (rdisk_damaged E _ y A _ H6.out HB.out).mono ?_
  rintro e w7 ⟨v, rfl, h7⟩
  rw [← HDL.out] at h7
  obtain ⟨D1, e1, rfl, -, -⟩ := h7.row_slice
  have H7 := Aside.mk h7
  clear h7 H6
  go_wp2_with fail
  refine (spots_equal E _ D0 D1 A.damaged A.damaged dl dl e0 e1 _ HDL.out.symm HDL.out.symm (by omega) (by omega) (fun w h => ⟨h.s3.row_cells, h.row_cells⟩) H7.out).mono ?_
  rintro e w8 ⟨rfl, h8⟩
  rw [decide_eq_true rfl]
  have H8 : Aside (Sat E w8 (HP.row 9 1 (.slice AL nl cL) nl (namesV A) * (HP.disk d A * (HP.rdisk y A * q)))) := ⟨(h8.perm (by ac_rfl : _ = HP.row 68 2 (.slice D1 dl e1) dl (A.damaged.flatMap encSpot) * (HP.row 68 2 (.slice D0 dl e0) dl (A.damaged.flatMap encSpot) * (HP.row 9 1 (.slice AL nl cL) nl (namesV A) * (HP.disk d A * (HP.rdisk y A * q)))))).right.right⟩
  clear h8 H7
  go_wp2
  go_loopw [37] (fun v37 wr => ∃ j : Nat, v37 = .int .i64 j ∧ j ≤ nl ∧ Aside (Sat E wr (HP.row 9 1 (.slice AL nl cL) nl (namesV A) * (HP.disk d A * (HP.rdisk y A * q))))) (fun x _ => nl - (intOf x).toNat)
  case atStart => exact ⟨0, rfl, Nat.zero_le _, H8⟩
  case round =>
    clear H8
    obtain ⟨j, rfl, hj, HS⟩ := hrel
    by_cases hlt : j < nl
    · have hj1 : (j : Int) < (nl : Int) := by omega
      have hj0 : (0 : Int) ≤ (j : Int) := by omega
      obtain ⟨nm, hnm⟩ : ∃ nm, (A.files.map (·.1))[j]? = some nm := ⟨_, List.getElem?_eq_getElem (by rw [List.length_map, ← HNL.out]; exact hlt)⟩
      have hnsz : nm.size ≤ maxLen := by
        obtain ⟨x, hx, rfl⟩ := List.mem_map.1 (List.mem_of_getElem? hnm)
        exact names_le HF.out hx
      have gj : (namesV A)[j]? = some (.string nm) := by rw [names_map, List.getElem?_map, hnm]; rfl
      obtain ⟨gL, oL, rfl⟩ : ∃ g o, AL = some ⟨g, o, none⟩ := by
        obtain ⟨a, ha, -⟩ := HS.out.row_cells _ _ gj
        obtain ⟨g, o, rfl⟩ : ∃ g o, a = ⟨g, o, none⟩ := slice_addr HS.out.row_cells ha (List.getElem?_eq_some_iff.1 gj).1
        exact ⟨g, o, ha⟩
      have cj := HS.out.row_cells.some_ _ _ gj
      rw [addr_add] at cj
      clear gj hnm
      have hes := at_small HF.out nm
      have HNS := Aside.mk hnsz
      obtain ⟨ne, hne⟩ : ∃ ne, ne = (A.at nm).length := ⟨_, rfl⟩
      rw [← hne] at hes
      have HNE := Aside.mk hne
      have HX1 := Aside.mk (fun w (h : Sat E w (HP.disk d A * (HP.row 9 1 (.slice (some ⟨gL, oL, none⟩) nl cL) nl (namesV A) * (HP.rdisk y A * q)))) => disk_extents E _ d A nm w hnsz h)
      have HX2 := Aside.mk (fun w (h : Sat E w (HP.rdisk y A * (HP.disk d A * (HP.row 9 1 (.slice (some ⟨gL, oL, none⟩) nl cL) nl (namesV A) * q)))) => rdisk_extents E _ y A nm w h)
      rw [← hne] at HX1 HX2
      clear hnsz hne
      go_wp2_with fail
      refine (HX1.out _ HS.out.s2).mono ?_
      rintro e w4 ⟨rfl, hw4⟩; subst w4
      clear cj
      have H9 : Aside (Sat E wr (HP.rdisk y A * (HP.disk d A * (HP.row 9 1 (.slice (some ⟨gL, oL, none⟩) nl cL) nl (namesV A) * q)))) := ⟨HS.out.perm (by ac_rfl)⟩
      clear HS
      go_wp2_with fail
      refine (HX2.out _ H9.out).mono ?_
      rintro e w9 ⟨rfl, h9⟩
      have H10 := Aside.mk h9
      clear h9 H9
      go_wp2_with fail
      refine (HX2.out _ H10.out).mono ?_
      rintro e w10 ⟨rfl, h10⟩
      have HS : Aside (Sat E w10 (HP.disk d A * (HP.rdisk y A * (HP.row 9 1 (.slice (some ⟨gL, oL, none⟩) nl cL) nl (namesV A) * q)))) := ⟨h10.perm (by ac_rfl)⟩
      clear h10 H10 HX1 HX2
      go_wp2
      go_loopw [51] (fun v51 wi => ∃ i : Nat, v51 = .int .i64 i ∧ i ≤ ne ∧ Aside (Sat E wi (HP.disk d A * (HP.rdisk y A * (HP.row 9 1 (.slice (some ⟨gL, oL, none⟩) nl cL) nl (namesV A) * q))))) (fun x _ => ne - (intOf x).toNat)
      case atStart => exact ⟨0, rfl, Nat.zero_le _, HS⟩
      case round =>
        clear HS
        obtain ⟨i, rfl, hi, HS⟩ := hrel
        by_cases hil : i < ne
        · have hi1 : (i : Int) < (ne : Int) := by omega
          have hi0 : (0 : Int) ≤ (i : Int) := by omega
          obtain ⟨c, hc, hcm⟩ := cel_some (A := A) (s := nm) (i := i) (by rw [← HNE.out]; exact hil)
          have HC := Aside.mk (And.intro hc (And.intro (at_fine HF.out hcm) (HB.out.at nm c hcm)))
          clear hc hcm
          go_wp2_with fail
          refine (disk_read_ok E _ d A nm i _ HNS.out HS.out).mono ?_
          rw [HC.out.1]
          rintro e w11 ⟨v, rfl, h11⟩
          obtain ⟨B0, b0, rfl, -, -⟩ := h11.row_slice
          have H11 : Aside (Sat E w11 (HP.rdisk y A * (HP.row 5 1 (.slice B0 128 b0) 128 (b8s c.read) * (HP.disk d A * (HP.row 9 1 (.slice (some ⟨gL, oL, none⟩) nl cL) nl (namesV A) * q))))) := ⟨h11.perm (by ac_rfl)⟩
          clear h11 HS
          go_wp2_with fail
          refine (rdisk_read E _ y A nm i _ H11.out).mono ?_
          rw [HC.out.1]
          rintro e w12 ⟨v, rfl, h12⟩
          obtain ⟨B1, b1, rfl, -, -⟩ := h12.row_slice
          have H12 := Aside.mk h12
          clear h12 H11
          go_wp2_with fail
          refine (bytesEq_ok B0 B1 c.read c.read 128 128 b0 b1 _ HC.out.2.1.1 HC.out.2.1.1 H12.out.s3.row_cells H12.out.row_cells HC.out.2.2.1 HC.out.2.2.1).mono ?_
          rintro e w13 ⟨rfl, hw13⟩; subst w13
          rw [decide_eq_true rfl]
          have HS2 : Aside (Sat E w12 (HP.disk d A * (HP.rdisk y A * (HP.row 9 1 (.slice (some ⟨gL, oL, none⟩) nl cL) nl (namesV A) * q)))) := ⟨(H12.out.perm (by ac_rfl : _ = HP.row 5 1 (.slice B0 128 b0) 128 (b8s c.read) * (HP.row 5 1 (.slice B1 128 b1) 128 (b8s c.read) * (HP.disk d A * (HP.rdisk y A * (HP.row 9 1 (.slice (some ⟨gL, oL, none⟩) nl cL) nl (namesV A) * q)))))).right.right⟩
          clear H12
          go_wp2
          go_roundw
          case rel => exact ⟨i + 1, by go_num, by omega, HS2⟩
          case measure => simp [intOf]; omega
        · have HS2 : Aside (Sat E _ (HP.row 9 1 (.slice (some ⟨gL, oL, none⟩) nl cL) nl (namesV A) * (HP.disk d A * (HP.rdisk y A * q)))) := ⟨HS.out.s3⟩
          have hi1 : ¬ (i : Int) < (ne : Int) := by omega
          clear HS
          go_wp2
          go_roundw
          case rel => exact ⟨j + 1, by go_num, by omega, HS2⟩
          case measure => simp [intOf]; omega
    · have hj1 : ¬ (j : Int) < (nl : Int) := by omega
      go_wp2
      go_ret
      exact ⟨rfl, HS.out.right⟩
theorem Dk.write_room (A : Dk) (s : ByteArray) (i : Int) (b : List Int) : (A.write s i b).2.room = A.room := by
  unfold Dk.write
  split
  · rfl
  split
  · rfl
  split
  · rfl
  split <;> rfl
theorem Dk.sync_room (A : Dk) (s : ByteArray) : (A.sync s).2.room = A.room := by
  unfold Dk.sync
  split
  · rfl
  · split <;> rfl
theorem Dk.remove_room (A : Dk) (s : ByteArray) : (A.remove s).2.room = A.room := by
  unfold Dk.remove
  split
  · rfl
  · split <;> rfl
theorem Dk.rot_room (A : Dk) (s : ByteArray) (i a m : Int) : (A.rot s i a m).2.room = A.room := by
  unfold Dk.rot
  split
  · rfl
  · split <;> rfl
theorem Dk.stepK_room (A : Dk) (s : StepV) (k : Int) : (A.stepK s k).room = A.room := by
  unfold Dk.stepK
  split
  · exact A.write_room _ _ _
  split
  · exact A.write_room _ _ _
  split
  · exact A.sync_room _
  split
  · exact A.remove_room _
  split
  · exact A.rot_room _ _ _ _
  split
  · rfl
  unfold Dk.fuseK
  split <;> rfl
structure Steps (q : HP) (l : Sl StepV) : Prop where
  len : l.l.length ≤ maxLen
  wf : ∀ s ∈ l.l, s.Wf
  cells : ∀ E w, Sat E w q → Cells w l.A (l.l.flatMap StepV.vals) ∧ ∀ s ∈ l.l, Cells w s.b.A (b8s s.b.l) ∧ Cells w s.kept.A (kepCells s.kept.l)
theorem Steps.mul {q r : HP} {l : Sl StepV} (h : Steps q l) : Steps (r * q) l := ⟨h.len, h.wf, fun E w hw => h.cells E w hw.right⟩
theorem Steps.at_ {q : HP} {l : Sl StepV} (h : Steps q l) {E : Env} {w : World} (hw : Sat E w q) {k : Nat} {s : StepV} (hs : l.l[k]? = some s) :
    ∃ g o, l.A = some ⟨g, o, none⟩ ∧ w.cell? ⟨g, o + k * 8, none⟩ = some (.int .i64 s.op) ∧ w.cell? ⟨g, o + k * 8 + 1, none⟩ = some (.int .i64 s.i) ∧ w.cell? ⟨g, o + k * 8 + 2, none⟩ = some (.int .i64 s.at_) ∧ w.cell? ⟨g, o + k * 8 + 3, none⟩ = some (.int .i64 s.n) ∧ w.cell? ⟨g, o + k * 8 + 4, none⟩ = some (.string s.name) ∧ w.cell? ⟨g, o + k * 8 + 5, none⟩ = some (.slice s.b.A s.b.l.length s.b.cap) ∧ w.cell? ⟨g, o + k * 8 + 6, none⟩ = some (.int .u8 s.mask) ∧ w.cell? ⟨g, o + k * 8 + 7, none⟩ = some (.slice s.kept.A s.kept.l.length s.kept.cap) := by
  have hcm := (h.cells _ _ hw).1
  have hg := fun j (hj : j < 8) => flat_get StepV.vals 8 l.l (fun _ => rfl) k j s hs hj
  have g0 := hg 0 (by omega)
  obtain ⟨pa, hpa, -⟩ := hcm _ _ g0
  obtain ⟨g, o, rfl⟩ : ∃ g o, pa = ⟨g, o, none⟩ := slice_addr hcm hpa (List.getElem?_eq_some_iff.1 g0).1
  rw [hpa] at hcm
  have f : ∀ j, j < 8 → ∀ u, s.vals[j]? = some u → w.cell? ⟨g, o + k * 8 + j, none⟩ = some u := fun j hj u hu => by
    have h1 := hcm.some_ (k * 8 + j) u ((hg j hj).trans hu)
    rw [addr_add, ← Nat.add_assoc] at h1
    exact h1
  exact ⟨g, o, hpa, f 0 (by omega) _ rfl, f 1 (by omega) _ rfl, f 2 (by omega) _ rfl, f 3 (by omega) _ rfl, f 4 (by omega) _ rfl, f 5 (by omega) _ rfl, f 6 (by omega) _ rfl, f 7 (by omega) _ rfl⟩
set_option maxHeartbeats 4000000 in
set_option maxRecDepth 100000 in
theorem disks_inv (I : Dk → Prop) (hIs : ∀ (A : Dk) (s : StepV) (k : Int), s.Wf → I A → I (A.stepK s k)) (E : Env) (q : HP) (room : Int) (hI0 : I (Dk.new room)) (l : Sl StepV) (w : World) (hr : 0 ≤ room ∧ room ≤ 100000) (hst : Steps q l) (hw : Sat E w q) :
    Calls Tryz.prog 7 #[.int .i64 room, l.val] w fun e w' => ∃ d y A, e = .returned (.tuple #[.pointer (some ⟨d, 0, none⟩), .pointer (some ⟨y, 0, none⟩), .bool true]) ∧ A.Byt ∧ A.room = room ∧ I A ∧ Sat E w' (HP.disk d A * (HP.rdisk y A * q)) := by
  unfold Sl.val
  have HST := Aside.mk hst
  have hlen := hst.len
  unfold maxLen at hlen
  have HR := Aside.mk hr
  have HIS := Aside.mk hIs
  have HI0 := Aside.mk hI0
  clear hIs hI0
  clear hst
  go_enter Tryz.func7, Tryz.ntmps7
  go_wp2_with fail
  refine (disk_new_ok E q room w hr hw).mono ?_
  rintro e w1 ⟨d, rfl, h1⟩
  have H1 := Aside.mk h1
  clear h1 hw
  go_wp2_with fail
  refine (ref_new E _ room w1 HR.out H1.out).mono ?_
  rintro e w2 ⟨y, rfl, h2⟩
  have H2 : Aside (Sat E w2 (HP.disk d (Dk.new room) * (HP.rdisk y (Dk.new room) * q))) := ⟨h2.s2⟩
  have HB0 := Aside.mk (Dk.Byt.new room)
  have HR0 : Aside ((Dk.new room).room = room) := ⟨rfl⟩
  clear h2 H1 hr
  generalize hN : l.l.length = n at *
  have HN := Aside.mk hN
  clear hN
  go_wp2
  go_loopw [38] (fun x wr => ∃ (k : Nat) (A : Dk), x = .int .i64 k ∧ k ≤ n ∧ Aside A.Byt ∧ Aside (A.room = room) ∧ Aside (I A) ∧ Aside (Sat E wr (HP.disk d A * (HP.rdisk y A * q)))) (fun x _ => n - (intOf x).toNat)
  case atStart => exact ⟨0, _, rfl, Nat.zero_le _, HB0, HR0, HI0, H2⟩
  case round =>
    clear H2 HB0 HR0 HI0
    obtain ⟨k, A, rfl, hk, HB, HRM, HI, HS⟩ := hrel
    by_cases hlt : k < n
    · obtain ⟨s, hs⟩ : ∃ s, l.l[k]? = some s := ⟨_, List.getElem?_eq_getElem (by rw [HN.out]; exact hlt)⟩
      have hsm : s ∈ l.l := List.mem_of_getElem? hs
      obtain ⟨g, o, hA, g0, g1, g2, g3, g4, g5, g6, g7⟩ := HST.out.at_ HS.out.right.right hs
      rw [hA]
      have hk0 : (0 : Int) ≤ (k : Int) := by omega
      have hk1 : (k : Int) < (n : Int) := by omega
      have HB2 := Aside.mk (HS.out.alloc (.cells #[.int .i64 s.op, .int .i64 s.i, .int .i64 s.at_, .int .i64 s.n, .string s.name, .slice s.b.A s.b.l.length s.b.cap, .int .u8 s.mask, .slice s.kept.A s.kept.l.length s.kept.cap] 46)).right
      have HWF := Aside.mk (HST.out.wf s hsm)
      have HCL : Aside (∀ E w, Sat E w q → Cells w s.b.A (b8s s.b.l) ∧ Cells w s.kept.A (kepCells s.kept.l)) := ⟨fun E w h => (HST.out.cells E w h).2 s hsm⟩
      clear hs hsm HS hA
      by_cases h40 : (k : Int) < 40
      · go_wp2_with fail
        refine (do_ok E q d y A s _ HWF.out HCL.out HB2.out).mono ?_
        rintro e w10 ⟨rfl, h10⟩
        have H10 := Aside.mk h10
        have HB3 := Aside.mk (HB.out.stepK HWF.out (opK s.op))
        have HRM3 : Aside ((A.stepK s (opK s.op)).room = room) := ⟨by rw [Dk.stepK_room]; exact HRM.out⟩
        have HI3 : Aside (I (A.stepK s (opK s.op))) := ⟨HIS.out A s _ HWF.out HI.out⟩
        clear h10 HB2 g0 g1 g2 g3 g4 g5 g6 g7
        go_wp2
        go_roundw
        case rel => exact ⟨k + 1, _, by go_num, by omega, HB3, HRM3, HI3, H10⟩
        case measure => simp [intOf]; omega
      · go_wp2
        go_roundw
        case rel => exact ⟨k + 1, A, by go_num, by omega, HB, HRM, HI, HB2⟩
        case measure => simp [intOf]; omega
    · obtain rfl : k = n := by omega
      go_wp2_with fail
      refine (same_ok E q d y A _ HB.out HS.out).mono ?_
      rintro e w3 ⟨rfl, h3⟩
      have H3 := Aside.mk h3
      clear h3 HS
      go_wp2
      go_ret3
      exact ⟨d, y, A, rfl, HB.out, HRM.out, HI.out, H3.out⟩
theorem eq_spot (s t : ByteArray) (i j : Int) (w : World) : (binOp .eql 68 (.agg #[.string s, .int .i64 i]) (.agg #[.string t, .int .i64 j])).run Tryz.prog w = .ok (.bool (decide ((s, i) = (t, j)))) w := by
  by_cases hs : s = t
  · subst hs
    by_cases hi : i = j
    · subst hi; go_simp
    · go_simp
  · have h2 : ¬ s.toList = t.toList := fun h => hs (toList_inj h)
    go_simp
theorem spot_box {E : Env} {w : World} {q : HP} {b : Nat} {s : ByteArray} {i : Int} (h : Sat E w (HP.pt b (.cells #[.string s, .int .i64 i] 68) * q)) : (loadVar 68 ⟨b, 0, none⟩).run Tryz.prog w = .ok (.agg #[.string s, .int .i64 i]) w := by
  refine run_loadAgg (cs := [.string s, .int .i64 i]) agSpot rfl fun j u hj => ⟨_, rfl, ?_⟩
  have hj2 : j < 2 := (List.getElem?_eq_some_iff.1 hj).1
  have := h.cell j
  rw [addr_add, show 0 + j = j by omega, this]
  simpa using hj
theorem notMem_take_step {l : List (ByteArray × Int)} {k : Nat} {x y : ByteArray × Int} (h : y ∉ l.take k) (hk : l[k]? = some x) (hne : ¬ y = x) : y ∉ l.take (k + 1) := by
  rw [List.take_add_one, hk]
  intro hm
  rcases List.mem_append.1 hm with hm | hm
  · exact h hm
  · exact hne (List.mem_singleton.1 hm)
set_option maxHeartbeats 1000000 in
set_option maxRecDepth 100000 in
theorem spots_index (E : Env) (q : HP) (A0 : Option Addr) (l0 : List (ByteArray × Int)) (n0 c0 : Nat) (s : ByteArray) (i : Int) (w : World) (e0 : l0.length = n0) (k0 : n0 ≤ 1000000000)
    (h : ∀ w, Sat E w q → Cells w A0 (l0.flatMap encSpot)) (hw : Sat E w q) :
    Calls Tryz.prog 104 #[.slice A0 n0 c0, .agg #[.string s, .int .i64 i]] w fun e w' => ∃ j : Int, e = .returned (.int .i64 j) ∧ ((j = -1 ∧ (s, i) ∉ l0) ∨ ∃ k : Nat, j = k ∧ k < n0 ∧ l0[k]? = some (s, i) ∧ (s, i) ∉ l0.take k) ∧ Sat E w' q := by
  have hB := hw.alloc (.cells #[.string s, .int .i64 i] 68)
  obtain ⟨BX, hBX⟩ : ∃ BX, BX = w.heap.size := ⟨_, rfl⟩
  rw [← hBX] at hB
  have HW := Aside.mk (And.intro h (And.intro hB e0))
  clear h hw e0 hB
  go_enter Tryz.func104, Tryz.ntmps104
  go_wp2
  rw [← hBX]
  clear hBX
  go_loopw [8] (fun v8 wr => ∃ k : Nat, v8 = .int .i64 k ∧ k ≤ n0 ∧ Aside ((s, i) ∉ l0.take k) ∧ Aside (Sat E wr (HP.pt BX (.cells #[.string s, .int .i64 i] 68) * q))) (fun x _ => n0 - (intOf x).toNat)
  case atStart => exact ⟨0, rfl, Nat.zero_le _, ⟨by simp⟩, ⟨HW.out.2.1⟩⟩
  case round =>
    obtain ⟨k, rfl, hk, HT, HS⟩ := hrel
    by_cases hlt : k < n0
    · have hlt2 : (k : Int) < (n0 : Int) := by omega
      have hk2 : (0 : Int) ≤ (k : Int) := by omega
      have hl0 : l0[k]? = some (l0[k]'(by rw [HW.out.2.2]; exact hlt)) := List.getElem?_eq_getElem _
      generalize l0[k]'(by rw [HW.out.2.2]; exact hlt) = x at hl0
      have c0' := HW.out.1 wr.drew HS.out.drew.right
      have hlen0 : 0 < (l0.flatMap encSpot).length := by
        have h1 := flat_get encSpot 2 l0 (fun _ => rfl) k 0 x hl0 (by omega)
        exact Nat.lt_of_le_of_lt (Nat.zero_le _) (List.getElem?_eq_some_iff.1 (h1.trans rfl : _ = some (Value.string x.1))).1
      obtain ⟨a0, rfl, -⟩ := c0'.at_ 0 hlen0
      obtain ⟨g0, o0, rfl⟩ := slice_addr c0' rfl hlen0
      have ld0 := spot_cells c0' hl0
      have ldb := spot_box HS.out.drew
      have HL := Aside.mk hl0
      have HS2 := Aside.mk HS.out.drew
      clear c0' hlen0 hl0 HS
      obtain ⟨t, j⟩ := x
      dsimp only at ld0
      go_wp2
      refine region_R [] [] (fun _ => True) #[false, false, false, false, false, false] (by kernel_rfl) rfl rfl ?_
      refine wpR_read (i := 0) #[true, false, false, false, false, false] rfl onlyN_noPanic (by kernel_rfl) (.inl ⟨rfl, exec_load rfl rfl ldb⟩) ?_
      simp only [Act.put, List.setIfInBounds_toArray, List.set_cons_zero, List.set_cons_succ]
      refine wpR_rd 1 #[true, true, false, false, false, false] rfl onlyN_noPanic (by kernel_rfl) (fun K hK => ?_); (go_simp; try go_bits); refine hK _ ?_; clear hK K
      refine wpR_rd 2 #[true, true, true, false, false, false] rfl onlyN_noPanic (by kernel_rfl) (fun K hK => ?_); (go_simp; try go_bits); refine hK _ ?_; clear hK K
      refine wpR_rd 3 #[true, true, true, true, false, false] rfl onlyN_noPanic (by kernel_rfl) (fun K hK => ?_); (go_simp; try go_bits); refine hK _ ?_; clear hK K
      refine wpR_read (i := 4) #[true, true, true, true, true, false] rfl onlyN_noPanic (by kernel_rfl) (.inl ⟨rfl, exec_load rfl rfl ld0⟩) ?_
      simp only [Act.put, List.setIfInBounds_toArray, List.set_cons_zero, List.set_cons_succ]
      refine wpR_read (i := 5) #[true, true, true, true, true, true] rfl onlyN_noPanic (by kernel_rfl) (.inl ⟨rfl, exec_binop rfl rfl rfl (run_eqGuard_agg _ .eql 68 _ _ _ _ (by kernel_rfl)) (eq_spot _ _ _ _ _)⟩) ?_
      simp only [Act.put, List.setIfInBounds_toArray, List.set_cons_zero, List.set_cons_succ]
      refine wpR_done (by kernel_rfl) ?_ _
      simp only [OnlyN]
      by_cases hxy : (s, i) = (t, j)
      · rw [decide_eq_true hxy]
        have HF : Aside (l0[k]? = some (s, i)) := ⟨by rw [hxy]; exact HL.out⟩
        clear hxy HL ld0 ldb
        go_wp2
        go_ret
        exact ⟨k, rfl, .inr ⟨k, rfl, hlt, HF.out, HT.out⟩, HS2.out.right⟩
      · rw [decide_eq_false hxy]
        have HT2 : Aside ((s, i) ∉ l0.take (k + 1)) := ⟨notMem_take_step HT.out HL.out hxy⟩
        clear hxy HL HT ld0 ldb
        go_wp2
        go_roundw
        case rel => exact ⟨k + 1, by push_cast; rfl, by omega, HT2, HS2⟩
        case measure => simp [intOf]; omega
    · have hkn : k = n0 := by omega
      subst hkn
      have HE : Aside ((s, i) ∉ l0) := ⟨by
        have h1 := HT.out
        rw [List.take_of_length_le (by rw [HW.out.2.2]; exact Nat.le_refl _)] at h1
        exact h1⟩
      clear HT
      go_wp2
      go_ret
      exact ⟨-1, rfl, .inl ⟨rfl, HE.out⟩, HS.out.right⟩
set_option maxHeartbeats 1000000 in
set_option maxRecDepth 100000 in
theorem spots_contains (E : Env) (q : HP) (A0 : Option Addr) (l0 : List (ByteArray × Int)) (n0 c0 : Nat) (s : ByteArray) (i : Int) (w : World) (e0 : l0.length = n0) (k0 : n0 ≤ 1000000000)
    (h : ∀ w, Sat E w q → Cells w A0 (l0.flatMap encSpot)) (hw : Sat E w q) :
    Calls Tryz.prog 38 #[.slice A0 n0 c0, .agg #[.string s, .int .i64 i]] w fun e w' => ∃ b, e = .returned (.bool b) ∧ (b = true ↔ (s, i) ∈ l0) ∧ Sat E w' q := by
  have hB := hw.alloc (.cells #[.string s, .int .i64 i] 68)
  obtain ⟨BX, hBX⟩ : ∃ BX, BX = w.heap.size := ⟨_, rfl⟩
  rw [← hBX] at hB
  have HW := Aside.mk (And.intro h (And.intro hB e0))
  clear h hw e0 hB
  go_enter Tryz.func38, Tryz.ntmps38
  have H1 := Aside.mk HW.out.2.1
  have ldb := spot_box H1.out
  rw [hBX] at ldb
  go_wp2_with fail
  rw [← hBX] at *
  clear hBX
  refine (spots_index E _ A0 l0 n0 c0 s i _ HW.out.2.2 k0 (fun w h => HW.out.1 w h.right) H1.out).mono ?_
  rintro e w2 ⟨j, rfl, hj, h2⟩
  have H2 := Aside.mk h2.right
  clear h2 ldb H1
  rcases hj with ⟨rfl, hm⟩ | ⟨k, rfl, hk, hg, -⟩
  · have HM := Aside.mk hm
    clear hm
    go_wp2
    go_ret
    exact ⟨_, rfl, ⟨fun h => (by cases h), fun h => absurd h HM.out⟩, H2.out⟩
  · have HM : Aside ((s, i) ∈ l0) := ⟨List.mem_of_getElem? hg⟩
    have hk0 : (0 : Int) ≤ (k : Int) := by omega
    clear hg
    go_wp2
    go_ret
    exact ⟨_, rfl, ⟨fun _ => HM.out, fun _ => rfl⟩, H2.out⟩
def Cel.Sane (c : Cel) : Prop := c.waits = true → c.read = c.written
def Dk.Sane (A : Dk) : Prop := ∀ x ∈ A.files, ∀ c ∈ x.2, c.Sane
theorem Dk.Sane.new (room : Int) : (Dk.new room).Sane := fun x hx => by cases hx
theorem Dk.Sane.at {A : Dk} (h : A.Sane) (s : ByteArray) : ∀ c ∈ A.at s, c.Sane := fun c hc => by
  unfold Dk.at at hc
  cases hl : lk A.files s with
  | none => rw [hl] at hc; cases hc
  | some l => rw [hl] at hc; exact h _ (lk_mem hl) c hc
theorem Dk.Sane.set {A : Dk} (h : A.Sane) {s : ByteArray} {l : List Cel} (hl : ∀ c ∈ l, c.Sane) : (A.set s l).Sane := fun x hx c hc => by
  rcases putF_mem hx with rfl | hx
  · exact hl c hc
  · exact h x hx c hc
theorem Dk.Sane.burnt {A : Dk} (h : A.Sane) : A.burnt.Sane := h
theorem Cel.Sane.wrote (c : Cel) (b : List Int) : (c.wrote b).Sane := fun _ => rfl
theorem Cel.Sane.syncd {c : Cel} : c.syncd.Sane := by
  unfold Cel.syncd Cel.Sane
  split
  · intro h; cases h
  · rename_i h; intro h2; exact absurd h2 h
theorem Dk.Sane.write {A : Dk} (h : A.Sane) (s : ByteArray) (i : Int) (b : List Int) : (A.write s i b).2.Sane := by
  unfold Dk.write
  split
  · exact h
  · split
    · exact h.burnt
    · split
      · exact h.burnt
      · split
        · refine h.burnt.set fun c hc => ?_
          rcases List.mem_append.1 hc with hc | hc
          · exact h.at s c hc
          · rw [List.mem_singleton.1 hc]
            exact Cel.Sane.wrote _ _
        · refine h.burnt.set fun c hc => ?_
          obtain ⟨j, hj⟩ := List.getElem?_of_mem hc
          rw [List.getElem?_modify] at hj
          cases hg : (A.at s)[j]? with
          | none => rw [hg] at hj; cases hj
          | some c0 =>
            rw [hg] at hj
            have := h.at s c0 (List.mem_of_getElem? hg)
            simp only [Option.map_eq_map, Option.map_some, Option.some.injEq] at hj
            split at hj
            · subst hj; exact Cel.Sane.wrote _ _
            · subst hj; exact this
theorem Dk.Sane.sync {A : Dk} (h : A.Sane) (s : ByteArray) : (A.sync s).2.Sane := by
  unfold Dk.sync
  cases hl : lk A.files s with
  | none => exact h
  | some l =>
    dsimp only
    split
    · exact h.burnt
    · refine h.burnt.set fun c hc => ?_
      obtain ⟨c0, hc0, rfl⟩ := List.mem_map.1 hc
      exact Cel.Sane.syncd
theorem Dk.Sane.remove {A : Dk} (h : A.Sane) (s : ByteArray) : (A.remove s).2.Sane := by
  unfold Dk.remove
  cases hl : lk A.files s with
  | none => exact h
  | some l =>
    dsimp only
    split
    · exact h.burnt
    · exact fun x hx c hc => h x (List.mem_filter.1 hx).1 c hc
theorem Dk.Sane.rot {A : Dk} (h : A.Sane) (s : ByteArray) (i a m : Int) : (A.rot s i a m).2.Sane := by
  unfold Dk.rot
  cases hc : A.cel s i with
  | none => exact h
  | some c =>
    dsimp only
    split
    · exact h
    · refine h.set fun c' hc' => ?_
      have hcm : c ∈ A.at s := by
        unfold Dk.cel at hc
        split at hc
        · exact List.mem_of_getElem? hc
        · cases hc
      rcases List.mem_or_eq_of_mem_set hc' with hc' | rfl
      · exact h.at s c' hc'
      · have := h.at s c hcm
        unfold Cel.rotd
        split
        · exact this
        · rename_i hw
          intro h2
          exact absurd h2 hw
theorem Dk.Sane.crash {A : Dk} (h : A.Sane) (K : List Kep) : (A.crash K).Sane := fun x hx c hc => by
  obtain ⟨y, hy, rfl⟩ := List.mem_map.1 hx
  unfold crashL at hc
  obtain ⟨j, hj⟩ := List.getElem?_of_mem hc
  rw [List.getElem?_mapIdx] at hj
  cases hg : y.2[j]? with
  | none => rw [hg] at hj; cases hj
  | some c0 =>
    rw [hg] at hj
    simp only [Option.map_some, Option.some.injEq] at hj
    subst hj
    have := h y hy c0 (List.mem_of_getElem? hg)
    unfold Cel.crashd
    split
    · intro h2; cases h2
    · exact this
theorem Dk.Sane.stepK {A : Dk} (h : A.Sane) (s : StepV) (k : Int) : (A.stepK s k).Sane := by
  unfold Dk.stepK
  split
  · exact h.write _ _ _
  split
  · exact h.write _ _ _
  split
  · exact h.sync _
  split
  · exact h.remove _
  split
  · exact h.rot _ _ _ _
  split
  · exact h.crash _
  unfold Dk.fuseK
  split
  · exact h
  · exact h
def redO : Option Cel → List Int
  | some c => c.read
  | none => []
theorem readO_red (A : Dk) (f : ByteArray) (j : Int) : readO A f j = redO (A.cel f j) := by
  unfold readO
  cases A.cel f j <;> rfl
theorem readO_at (A : Dk) (f : ByteArray) (j : Int) : readO A f j = if 0 ≤ j then redO ((A.at f)[j.toNat]?) else [] := by
  rw [readO_red]
  unfold Dk.cel
  by_cases h : 0 ≤ j
  · rw [if_pos h, if_pos h]
  · rw [if_neg h, if_neg h]; rfl
theorem readO_set {A : Dk} (hs : Sorted A.files) (s : ByteArray) (l : List Cel) (f : ByteArray) (j : Int) : readO (A.set s l) f j = if s = f then (if 0 ≤ j then redO (l[j.toNat]?) else []) else readO A f j := by
  rw [readO_at, at_set hs]
  by_cases e : s = f
  · rw [if_pos e, if_pos e]
  · rw [if_neg e, if_neg e, readO_at]
theorem write_reads {A : Dk} (hs : Sorted A.files) (f : ByteArray) (i : Int) (b : List Int) {g : ByteArray} {j : Int} (h : g ≠ f ∨ j ≠ i) : readO (A.write f i b).2 g j = readO A g j := by
  unfold Dk.write
  split
  · rfl
  · rename_i h0
    split
    · rfl
    · split
      · rfl
      · split
        · rename_i hi
          show readO (A.burnt.set _ _) g j = _
          rw [readO_set (A := A.burnt) hs]
          by_cases e : f = g
          · rw [if_pos e, readO_at]
            by_cases h0 : 0 ≤ j
            · rw [if_pos h0, if_pos h0]
              subst e
              have hj : j ≠ i := by
                rcases h with h | h
                · exact absurd rfl h
                · exact h
              rcases Nat.lt_trichotomy j.toNat (A.at f).length with hl | hl | hl
              · rw [List.getElem?_append_left hl]
              · exfalso; omega
              · rw [List.getElem?_eq_none (by rw [List.length_append]; simp; omega), List.getElem?_eq_none (by omega)]
            · rw [if_neg h0, if_neg h0]
          · rw [if_neg e]; rfl
        · show readO (A.burnt.set _ _) g j = _
          rw [readO_set (A := A.burnt) hs]
          by_cases e : f = g
          · rw [if_pos e, readO_at]
            by_cases h1 : 0 ≤ j
            · rw [if_pos h1, if_pos h1]
              subst e
              have hj : j ≠ i := by
                rcases h with h | h
                · exact absurd rfl h
                · exact h
              rw [List.getElem?_modify]
              have : ¬ i.toNat = j.toNat := by omega
              cases (A.at f)[j.toNat]? with
              | none => rfl
              | some c => show redO (some (if i.toNat = j.toNat then _ else c)) = _; rw [if_neg this]
            · rw [if_neg h1, if_neg h1]
          · rw [if_neg e]; rfl
theorem write_read {A : Dk} (hs : Sorted A.files) {f : ByteArray} {i : Int} {b : List Int} (h : (A.write f i b).1 = 0) : readO (A.write f i b).2 f i = b := by
  unfold Dk.write at h ⊢
  split at h
  · exact absurd h (show ¬ (1 : Int) = 0 by decide)
  · rename_i h0
    rw [if_neg h0]
    split at h
    · exact absurd h (show ¬ (31 : Int) = 0 by decide)
    · rename_i h1
      rw [if_neg h1]
      split at h
      · exact absurd h (show ¬ (4 : Int) = 0 by decide)
      · rename_i h2
        rw [if_neg h2]
        split
        · rename_i hi
          show readO (A.burnt.set _ _) f i = _
          rw [readO_set (A := A.burnt) hs, if_pos rfl, if_pos (by omega)]
          rw [List.getElem?_append_right (by omega), show i.toNat - (A.at f).length = 0 by omega]
          rfl
        · rename_i hi
          show readO (A.burnt.set _ _) f i = _
          rw [readO_set (A := A.burnt) hs, if_pos rfl, if_pos (by omega), List.getElem?_modify, List.getElem?_eq_getElem (show i.toNat < (A.at f).length by omega)]
          show redO (some (if i.toNat = i.toNat then _ else _)) = _
          rw [if_pos rfl]
          rfl
theorem sync_reads {A : Dk} (hs : Sorted A.files) (hS : A.Sane) (f g : ByteArray) (j : Int) : readO (A.sync f).2 g j = readO A g j := by
  unfold Dk.sync
  cases hl : lk A.files f with
  | none => rfl
  | some l =>
    dsimp only
    split
    · rfl
    · show readO (A.burnt.set _ _) g j = _
      rw [readO_set (A := A.burnt) hs]
      by_cases e : f = g
      · subst e
        have hat : A.at f = l := by unfold Dk.at; rw [hl]; rfl
        rw [if_pos rfl, readO_at, hat]
        by_cases h0 : 0 ≤ j
        · rw [if_pos h0, if_pos h0, List.getElem?_map]
          cases hc : l[j.toNat]? with
          | none => rfl
          | some c =>
            show (c.syncd).read = c.read
            have hcs := hS _ (lk_mem hl) c (List.mem_of_getElem? hc)
            unfold Cel.syncd
            split
            · rename_i hw
              exact (hcs hw).symm
            · rfl
        · rw [if_neg h0, if_neg h0]
      · rw [if_neg e]; rfl
end Go.Proofs.YtnpinegpajbkeaaGreatDoor
