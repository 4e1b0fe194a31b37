/- Texts of one claim, one behind the other: ExtA, ExtB, ExtF, ExtO, DiskM, DiskRm, Nones, PairA, PairW, StA, StB, DiskRo, StC, PairP, PairD, ChunkA, ChunkB, PairS. -/
import Derived.Test.YtnpinegpajbkeaaGreatDoorMe4
import Derived.Laws.IdiomStrings
import Derived.Shelf.Abstract
import Derived.Shelf.RegionOpen
import Derived.OwnWalkIn
import Derived.TacticsInMore
import Derived.LoopNIn
import Derived.LoopIn
import Derived.Outline
import Derived.IntWalk
set_option linter.unusedSimpArgs false
set_option linter.unusedVariables false
namespace Go.Proofs.YtnpinegpajbkeaaGreatDoor
open Go.RowKit HP
def extH (name : ByteArray) (index gen : Nat) (p : List Int) : List Int :=
  [229] ++ putI (crcSum (strB name)) 4 ++ putI index 4 ++ putI gen 8 ++ [(p.length : Int)] ++ p ++ List.replicate (106 - p.length) 0
def extI (name : ByteArray) (index gen : Nat) (p : List Int) : List Int := extH name index gen p ++ putI (crcSum (extH name index gen p)) 4
theorem extH_length {name : ByteArray} {index gen : Nat} {p : List Int} (h : p.length ≤ 106) : (extH name index gen p).length = 124 := by
  simp only [extH, List.length_append, List.length_cons, List.length_nil, putI_length, List.length_replicate]
  omega
theorem extI_length {name : ByteArray} {index gen : Nat} {p : List Int} (h : p.length ≤ 106) : (extI name index gen p).length = 128 := by
  rw [extI, List.length_append, extH_length h, putI_length]
theorem extH_bytes {name : ByteArray} {index gen : Nat} {p : List Int} (h : p.length ≤ 106) (hp : Bytes p) : Bytes (extH name index gen p) := by
  unfold extH
  refine ((((((Bytes.append ?_ (putI_bytes _ _)).append (putI_bytes _ _)).append (putI_bytes _ _)).append ?_).append hp).append (z_bytes _))
  · intro x hx; simp at hx; omega
  · intro x hx; simp at hx; omega
theorem extI_bytes {name : ByteArray} {index gen : Nat} {p : List Int} (h : p.length ≤ 106) (hp : Bytes p) : Bytes (extI name index gen p) := (extH_bytes h hp).append (putI_bytes _ _)
theorem crc_sum_n (A : Option Addr) (l : List Int) (n c : Nat) (w : World) (hln : l.length = n) (hq : Quarter w) (hl : n ≤ maxLen) (hb : Bytes l) (hc : Cells w A (b8s l)) :
    Calls Tryz.prog 141 #[.slice A n c] w fun e w' => e = .returned (.int .u32 (crcSum l)) ∧ w' = w := by
  subst hln
  exact crc_sum A l c w hq hl hb hc
theorem results_cell {P : Program} {fn : Func} {t : Tmp} {ty : TypeId} (h : fn.results = #[.cell t ty]) {tmps : Array Value} {w : World} {a : Addr} {V : Value} (ha : tmps.getD t undef = .pointer (some a)) (hr : (loadVar ty a).run P w = .ok V w) : (results fn tmps).run P w = .ok V w := by
  have ha' : tmps[t]?.getD undef = .pointer (some a) := by simpa using ha
  unfold results
  rw [h]
  simp [ha', asAddr, hr]
theorem agExt : AgTy Tryz.prog 162 128 := ⟨⟨_, Tryz.underlying162, rfl⟩, by kernel_rfl⟩
theorem zero_ext : (b8s (List.replicate 128 0)).toArray = Tryz.zeroCells162 := by kernel_rfl
theorem zero_ext1 : Tryz.zeroCells162.setIfInBounds 0 (.int .u8 229) = (b8s ([229] ++ List.replicate 127 0)).toArray := by kernel_rfl
set_option maxHeartbeats 2000000 in
set_option maxRecDepth 100000 in
theorem ext_build (E : Env) (q : HP) (name : ByteArray) (index gen : Nat) (A : Option Addr) (p : List Int) (n c : Nat) (w : World) (hname : name.size ≤ maxLen) (hi : index < 4294967296) (hg : gen < 18446744073709551616) (hpn : p.length = n) (hn : n ≤ 106) (hp : Bytes p)
    (hq : ∀ w, Sat E w q → Quarter w ∧ Cells w A (b8s p)) (hw : Sat E w q) :
    Calls Tryz.prog 109 #[.string name, .int .i64 index, .int .i64 gen, .slice A n c] w fun e w' => e = .returned (.agg (b8s (extI name index gen p)).toArray) ∧ Sat E w' q := by
  have h0 := (hw.alloc (.cells Tryz.zeroCells162 162)).alloc (.cells (Tryz.zeroCells162.setIfInBounds 0 (.int .u8 229)) 162)
  rw [show (w.alloc (.cells Tryz.zeroCells162 162)).heap.size = w.heap.size + 1 by simp, zero_ext1] at h0
  have HQ := Aside.mk (And.intro hq (And.intro hp hpn))
  clear hq hw hp hpn
  go_enter Tryz.func109, Tryz.ntmps109
  go_wp2
  rw [zero_ext1]
  generalize World.alloc (World.alloc w _) _ = w1 at *
  generalize w.heap.size + 1 = g at *
  generalize w.heap.size = g0 at *
  refine region_R [2, 3, 5, 6] [] (fun _ => True) #[false, false, false, false, false, false, false] (by kernel_rfl) rfl rfl ?_
  refine wpR_pu 0 #[true, false, false, false, false, false, false] rfl onlyN_noPanic (by kernel_rfl) (fun K hK => ?_); (go_simp; try go_bits); refine hK _ ?_; clear hK K
  refine wpR_rd 1 #[true, true, false, false, false, false, false] rfl onlyN_noPanic (by kernel_rfl) (fun K hK => ?_); (go_simp; try go_bits); refine hK _ ?_; clear hK K
  refine wpR_eff #[true, true, true, false, false, false, false] (i := 2) rfl (by kernel_rfl) (fun K hK => ?_)
  obtain ⟨gs, cs, w2, hr2, h2, c2⟩ := run_str_bytes (dst := 43) Tryz.underlying9 Tryz.underlying43 Tryz.underlying5 name h0.drew
  refine Eq.mpr (if_pos (by rfl)) ?_
  refine wp_value_run (exec_convert rfl rfl hr2) ?_
  simp only [Act.put, List.setIfInBounds_toArray, List.set_cons_zero, List.set_cons_succ]
  refine hK _ _ ?_; clear hK K hr2
  refine wpR_eff #[true, true, true, true, false, false, false] (i := 3) rfl (by kernel_rfl) (fun K hK => ?_)
  go_simp
  refine (crc_sum_n _ (strB name) name.size cs w2 (strB_length _) (HQ.out.1 _ h2.right.right).1 hname (strB_bytes _) c2).mono ?_
  rintro e w3 ⟨rfl, rfl⟩
  obtain ⟨S, hS⟩ : ∃ S, S = crcSum (strB name) := ⟨_, rfl⟩
  have hS4 : S < 4294967296 := by rw [hS]; exact crcSum_lt (strB_bytes _)
  rw [← hS]
  have HS := Aside.mk hS
  clear hS
  refine hK _ _ ?_; clear hK K c2
  refine wpR_rd 4 #[true, true, true, true, true, false, false] rfl onlyN_noPanic (by kernel_rfl) (fun K hK => ?_); (go_simp; try go_bits); refine hK _ ?_; clear hK K
  refine wpR_eff #[true, true, true, true, true, true, false] (i := 5) rfl (by kernel_rfl) (fun K hK => ?_)
  go_simp
  refine (crc_put E _ S 4 w3 (by omega) (by omega) h2).mono ?_
  rintro e w4 ⟨gp, rfl, h4⟩
  refine hK _ _ ?_; clear hK K h2
  refine wpR_eff #[true, true, true, true, true, true, true] (i := 6) rfl (by kernel_rfl) (fun K hK => ?_)
  refine Eq.mpr (if_pos (by rfl)) ?_
  refine wp_copy_pt (some 17) (L := [229] ++ List.replicate 127 0) (src := putI S 4) rfl slB8.under (by kernel_rfl) rfl rfl rfl h4.s2 (putI_length _ _) (by omega) (by decide) h4.row_cells (fun w5 h5 => ?_)
  rw [splice_zero (a := [229]) (off := 1) (c := putI S 4) (n := 127) rfl (by rw [putI_length]; omega), putI_length] at h5
  have h5 := h5.drop2
  simp only [Act.put, List.setIfInBounds_toArray, List.set_cons_zero, List.set_cons_succ]
  refine hK _ _ ?_; clear hK K h4
  refine wpR_done (by kernel_rfl) ?_ _
  simp only [OnlyN]
  go_wp2
  refine region_R [3, 4] [] (fun _ => True) #[false, false, false, false, false] (by kernel_rfl) rfl rfl ?_
  refine wpR_pu 0 #[true, false, false, false, false] rfl onlyN_noPanic (by kernel_rfl) (fun K hK => ?_); (go_simp; try go_bits); refine hK _ ?_; clear hK K
  refine wpR_rd 1 #[true, true, false, false, false] rfl onlyN_noPanic (by kernel_rfl) (fun K hK => ?_); (go_simp; try go_bits); refine hK _ ?_; clear hK K
  refine wpR_rd 2 #[true, true, true, false, false] rfl onlyN_noPanic (by kernel_rfl) (fun K hK => ?_); (go_simp; try go_bits); refine hK _ ?_; clear hK K
  refine wpR_eff #[true, true, true, true, false] (i := 3) rfl (by kernel_rfl) (fun K hK => ?_)
  go_simp
  refine (crc_put E _ index 4 _ (by omega) (by omega) (h5.drew)).mono ?_
  rintro e w6 ⟨gp5, rfl, h6⟩
  refine hK _ _ ?_; clear hK K h5
  refine wpR_eff #[true, true, true, true, true] (i := 4) rfl (by kernel_rfl) (fun K hK => ?_)
  refine Eq.mpr (if_pos (by rfl)) ?_
  refine wp_copy_pt (some 22) (L := [229] ++ putI S 4 ++ List.replicate 123 0) (src := putI index 4) rfl slB8.under (by kernel_rfl) rfl rfl rfl h6.s2 (putI_length _ _) (by omega) (by simp [putI_length]) h6.row_cells (fun w7 h7 => ?_)
  rw [splice_zero (a := [229] ++ putI S 4) (off := 5) (c := putI index 4) (n := 123) (by simp [putI_length]) (by rw [putI_length]; omega), putI_length] at h7
  have h7 := h7.drop2
  simp only [Act.put, List.setIfInBounds_toArray, List.set_cons_zero, List.set_cons_succ]
  refine hK _ _ ?_; clear hK K h6
  refine wpR_done (by kernel_rfl) ?_ _
  simp only [OnlyN]
  go_wp2
  refine region_R [3, 4] [] (fun _ => True) #[false, false, false, false, false] (by kernel_rfl) rfl rfl ?_
  refine wpR_pu 0 #[true, false, false, false, false] rfl onlyN_noPanic (by kernel_rfl) (fun K hK => ?_); (go_simp; try go_bits); refine hK _ ?_; clear hK K
  refine wpR_rd 1 #[true, true, false, false, false] rfl onlyN_noPanic (by kernel_rfl) (fun K hK => ?_); (go_simp; try go_bits); refine hK _ ?_; clear hK K
  refine wpR_rd 2 #[true, true, true, false, false] rfl onlyN_noPanic (by kernel_rfl) (fun K hK => ?_); (go_simp; try go_bits); refine hK _ ?_; clear hK K
  refine wpR_eff #[true, true, true, true, false] (i := 3) rfl (by kernel_rfl) (fun K hK => ?_)
  go_simp
  refine (crc_put E _ gen 8 _ (by omega) (by omega) (h7.drew)).mono ?_
  rintro e w8 ⟨gp7, rfl, h8⟩
  refine hK _ _ ?_; clear hK K h7
  refine wpR_eff #[true, true, true, true, true] (i := 4) rfl (by kernel_rfl) (fun K hK => ?_)
  refine Eq.mpr (if_pos (by rfl)) ?_
  refine wp_copy_pt (some 27) (L := [229] ++ putI S 4 ++ putI index 4 ++ List.replicate 119 0) (src := putI gen 8) rfl slB8.under (by kernel_rfl) rfl rfl rfl h8.s2 (putI_length _ _) (by omega) (by simp [putI_length]) h8.row_cells (fun w9 h9 => ?_)
  rw [splice_zero (a := [229] ++ putI S 4 ++ putI index 4) (off := 9) (c := putI gen 8) (n := 119) (by simp [putI_length]) (by rw [putI_length]; omega), putI_length] at h9
  have h9 := h9.drop2
  simp only [Act.put, List.setIfInBounds_toArray, List.set_cons_zero, List.set_cons_succ]
  refine hK _ _ ?_; clear hK K h8
  refine wpR_done (by kernel_rfl) ?_ _
  simp only [OnlyN]
  have hP3 : 17 = ([229] ++ putI S 4 ++ putI index 4 ++ putI gen 8).length := by simp [putI_length]
  have c17 := h9.cell 17
  rw [show 119 - 8 = 110 + 1 from rfl, zero_at hP3] at c17
  have f17 := h9.thaw 17
  have h10 := h9.set (i := 17) (.int .u8 (n : Int))
  rw [show 119 - 8 = 110 + 1 from rfl, set_zero hP3] at h10
  clear h9
  clear h9 hP3 h7 h5 h0
  go_wp2_with (first | (at_builtin; fail) | (refine wpList_copy_pt (L := [229] ++ putI S 4 ++ putI index 4 ++ putI gen 8 ++ [(n : Int)] ++ List.replicate 110 0) (src := p) slB8.under (by kernel_rfl) rfl rfl rfl rfl h10 HQ.out.2.2 (by omega) (by simp [putI_length]; omega) (HQ.out.1 _ h10.right.right).2 (fun w11 h11 => ?_); have H11 := Aside.mk h11; clear h11))
  have h11 := H11.out
  clear H11
  rw [splice_zero (a := [229] ++ putI S 4 ++ putI index 4 ++ putI gen 8 ++ [(n : Int)]) (off := 18) (c := p) (n := 110) (by simp [putI_length]) (by rw [HQ.out.2.2]; omega), HQ.out.2.2] at h11
  clear c17 f17 h10
  have hH : b8s ([229] ++ putI S 4 ++ putI index 4 ++ putI gen 8 ++ [(n : Int)] ++ p ++ List.replicate (110 - n) 0) = b8s (extH name index gen p ++ List.replicate 4 0) := by
    have e : List.replicate (110 - n) (0 : Int) = List.replicate (106 - n) 0 ++ List.replicate 4 0 := by
      rw [List.replicate_append_replicate]
      congr 1
      omega
    rw [e]
    unfold extH
    rw [HS.out, HQ.out.2.2]
    simp only [List.append_assoc]
  rw [hH] at h11
  have hpl : p.length ≤ 106 := by rw [HQ.out.2.2]; exact hn
  have hHl := extH_length (name := name) (index := index) (gen := gen) hpl
  have hHb := extH_bytes (name := name) (index := index) (gen := gen) hpl HQ.out.2.1
  have HI : Aside (extI name index gen p = extH name index gen p ++ putI (crcSum (extH name index gen p)) 4) := ⟨rfl⟩
  obtain ⟨H, hHe⟩ : ∃ H, H = extH name index gen p := ⟨_, rfl⟩
  rw [← hHe] at h11 hHl hHb HI
  clear hH hpl hHe
  have HB := Aside.mk (And.intro hHl hHb)
  clear hHl hHb
  simp only [Act.put, List.setIfInBounds_toArray, List.set_cons_zero, List.set_cons_succ]
  refine region_R [2, 4, 5] [] (fun _ => True) #[false, false, false, false, false, false] (by kernel_rfl) rfl rfl ?_
  refine wpR_pu 0 #[true, false, false, false, false, false] rfl onlyN_noPanic (by kernel_rfl) (fun K hK => ?_); (go_simp; try go_bits); refine hK _ ?_; clear hK K
  refine wpR_rd 1 #[true, true, false, false, false, false] rfl onlyN_noPanic (by kernel_rfl) (fun K hK => ?_); (go_simp; try go_bits); refine hK _ ?_; clear hK K
  refine wpR_eff #[true, true, true, false, false, false] (i := 2) rfl (by kernel_rfl) (fun K hK => ?_)
  go_simp
  have h12 := h11.drew
  have c12 := Sat.ptCells (off := 0) (l := b8s H) h12 (by rw [List.drop_zero, b8s_append, List.take_left])
  refine (crc_sum_n _ H 124 128 _ HB.out.1 (HQ.out.1 _ h12.right.right).1 (by unfold maxLen; omega) HB.out.2 c12).mono ?_
  rintro e w12 ⟨rfl, rfl⟩
  obtain ⟨T, hT⟩ : ∃ T, T = crcSum H := ⟨_, rfl⟩
  have hT4 : T < 4294967296 := by rw [hT]; exact crcSum_lt HB.out.2
  rw [← hT] at HI ⊢
  clear hT c12
  refine hK _ _ ?_; clear hK K
  refine wpR_rd 3 #[true, true, true, true, false, false] rfl onlyN_noPanic (by kernel_rfl) (fun K hK => ?_); (go_simp; try go_bits); refine hK _ ?_; clear hK K
  refine wpR_eff #[true, true, true, true, true, false] (i := 4) rfl (by kernel_rfl) (fun K hK => ?_)
  go_simp
  refine (crc_put E _ T 4 _ (by omega) (by omega) h12).mono ?_
  rintro e w13 ⟨gp12, rfl, h13⟩
  refine hK _ _ ?_; clear hK K h12 h11
  refine wpR_eff #[true, true, true, true, true, true] (i := 5) rfl (by kernel_rfl) (fun K hK => ?_)
  refine Eq.mpr (if_pos (by rfl)) ?_
  refine wp_copy_pt (some 40) (L := H ++ List.replicate 4 0) (src := putI T 4) rfl slB8.under (by kernel_rfl) rfl rfl rfl h13.s2 (putI_length _ _) (by omega) (by rw [List.length_append, HB.out.1]; exact Nat.le_refl _) h13.row_cells (fun w14 h14 => ?_)
  rw [splice_zero (a := H) (off := 124) (c := putI T 4) (n := 4) HB.out.1.symm (by rw [putI_length]; omega), putI_length, Nat.sub_self, List.replicate_zero, List.append_nil, ← HI.out] at h14
  have h15 := h14.drop2
  clear h14
  simp only [Act.put, List.setIfInBounds_toArray, List.set_cons_zero, List.set_cons_succ]
  refine hK _ _ ?_; clear hK K h13
  refine wpR_done (by kernel_rfl) ?_ _
  simp only [OnlyN]
  have hIl : (extI name index gen p).length = 128 := extI_length (by rw [HQ.out.2.2]; exact hn)
  obtain ⟨I, hIe⟩ : ∃ I, I = extI name index gen p := ⟨_, rfl⟩
  rw [← hIe] at hIl h15
  have HI2 := Aside.mk hIl
  have HIe := Aside.mk hIe
  clear hIl HI hIe
  have r1 := run_loadAgg agExt (by rw [b8s_length]; exact HI2.out) (Sat.ptCells (off := 0) (l := b8s I) h15 (by rw [List.drop_zero, List.take_length]))
  have r2 := run_storeAgg agExt (g := g0) (off := 0) (cs := b8s I) h15.s2.get (by rw [b8s_length]; exact HI2.out) (by rw [← zero_ext]; simp [b8s_length]) (b8s_one I)
  have h16 := h15.s2.splice (splice Tryz.zeroCells162.toList 0 (b8s I))
  have e16 : splice Tryz.zeroCells162.toList 0 (b8s I) = b8s I := by
    rw [← zero_ext]
    unfold splice
    rw [List.take_zero, List.nil_append, Nat.zero_add, List.drop_of_length_le (by simp [b8s_length, HI2.out]), List.append_nil]
  rw [e16] at h16 r2
  have r3 := run_loadAgg agExt (by rw [b8s_length]; exact HI2.out) (Sat.ptCells (off := 0) (l := b8s I) h16 (by rw [List.drop_zero, List.take_length]))
  have H16 := Aside.mk h16
  clear h15 h16 e16
  generalize World.setRow w14 g0 (b8s I).toArray = w16 at *
  go_wp2_with (first | (refine wpList_load_run rfl rfl rfl r1 ?_) | (refine wpList_store_run rfl rfl rfl rfl rfl r2 ?_))
  simp only [Act.put, List.setIfInBounds_toArray, List.set_cons_zero, List.set_cons_succ]
  have r4 : (loadVar 162 ⟨g0, 0, none⟩).run Tryz.prog w16 = .ok (.agg (b8s (extI name index gen p)).toArray) w16 := by rw [← HIe.out]; exact r3
  exact ⟨rfl, _, results_cell (t := 8) (by kernel_rfl) rfl r4, rfl, H16.out.right.right⟩
def FrameOk (index gen : Int) (n : Nat) : Prop := 0 ≤ index ∧ index ≤ 2147483647 ∧ 0 ≤ gen ∧ gen ≤ 4611686018427387904 ∧ n ≤ 106
instance (index gen : Int) (n : Nat) : Decidable (FrameOk index gen n) := by unfold FrameOk; infer_instance
set_option maxHeartbeats 2000000 in
set_option maxRecDepth 100000 in
theorem ext_frame (E : Env) (q : HP) (name : ByteArray) (index gen : Nat) (A : Option Addr) (p : List Int) (n c : Nat) (w : World) (hname : name.size ≤ maxLen) (hi : (index : Int) ≤ 2147483647) (hg : (gen : Int) ≤ 4611686018427387904) (hpn : p.length = n) (hn : n ≤ 106) (hp : Bytes p)
    (hq : ∀ w, Sat E w q → Quarter w ∧ Cells w A (b8s p)) (hw : Sat E w q) :
    Calls Tryz.prog 61 #[.string name, .int .i64 index, .int .i64 gen, .slice A n c] w fun e w' => ∃ g, e = .returned (.tuple #[.slice (some ⟨g, 0, none⟩) 128 128, .int .i64 0]) ∧ Sat E w' (HP.pt g (.cells (b8s (extI name index gen p)).toArray 162) * q) := by
  have HQ := Aside.mk (And.intro hq (And.intro hp (And.intro hpn hw)))
  clear hq hw hp hpn
  have hn' : (n : Int) ≤ 106 := by omega
  go_enter Tryz.func61, Tryz.ntmps61
  go_wp2_with fail
  refine (ext_build E q name index gen A p n c w hname (by omega) (by omega) HQ.out.2.2.1 hn HQ.out.2.1 HQ.out.1 HQ.out.2.2.2).mono ?_
  rintro e w2 ⟨rfl, h2⟩
  have hIl : (extI name index gen p).length = 128 := extI_length (by rw [HQ.out.2.2.1]; exact hn)
  obtain ⟨I, hIe⟩ : ∃ I, I = extI name index gen p := ⟨_, rfl⟩
  rw [← hIe] at hIl ⊢
  have HI2 := Aside.mk hIl
  have HIe := Aside.mk hIe
  clear hIl hIe
  have h3 := h2.alloc (.cells Tryz.zeroCells162 162)
  have r2 := run_storeAgg agExt (g := w2.heap.size) (off := 0) (cs := b8s I) h3.get (by rw [b8s_length]; exact HI2.out) (by rw [← zero_ext]; simp [b8s_length]) (b8s_one I)
  have h4 := h3.splice (splice Tryz.zeroCells162.toList 0 (b8s I))
  have e4 : splice Tryz.zeroCells162.toList 0 (b8s I) = b8s I := by
    rw [← zero_ext]
    unfold splice
    rw [List.take_zero, List.nil_append, Nat.zero_add, List.drop_of_length_le (by simp [b8s_length, HI2.out]), List.append_nil]
  rw [e4] at h4 r2
  have H4 := Aside.mk h4
  clear h3 h4 e4 h2
  go_wp2_with (first | (refine wpList_store_run rfl rfl rfl rfl rfl r2 ?_))
  go_ret2
  rw [← HIe.out]
  exact ⟨_, rfl, H4.out⟩
def openI (b : List Int) (name : ByteArray) (index : Int) : Option (List Int × Nat) :=
  if b.length ≠ 128 ∨ 106 < b.getD 17 0 ∨ index < 0 ∨ 2147483647 < index then none else
  if 4611686018427387904 < getN ((b.drop 9).take 8) then none else
  if extI name index.toNat (getN ((b.drop 9).take 8)) ((b.drop 18).take (b.getD 17 0).toNat) ≠ b then none else
  some ((b.drop 18).take (b.getD 17 0).toNat, getN ((b.drop 9).take 8))
theorem run_arrayExt (a : Option Addr) (n c : Nat) (h : 128 ≤ n) (w : World) : (Instr.arrayAt 162 (.slice a n c)).run Tryz.prog w = .ok (.pointer a) w := by
  have : ¬ n < 128 := by omega
  simp [Instr.arrayAt, run_underlying Tryz.underlying162, this]
set_option maxHeartbeats 2000000 in
set_option maxRecDepth 100000 in
theorem ext_open (E : Env) (q : HP) (name : ByteArray) (index : Int) (A : Option Addr) (b : List Int) (n c : Nat) (w : World) (hname : name.size ≤ maxLen) (hbn : b.length = n) (hnc : n ≤ c) (hb : Bytes b)
    (hq : ∀ w, Sat E w q → Quarter w ∧ Cells w A (b8s b)) (hw : Sat E w q) :
    Calls Tryz.prog 94 #[.slice A n c, .string name, .int .i64 index] w fun e w' =>
      (openI b name index = none ∧ e = .returned (.tuple #[.slice none 0 0, .int .i64 0, .int .i64 40]) ∧ Sat E w' q) ∨
      (∃ p gen v, openI b name index = some (p, gen) ∧ e = .returned (.tuple #[v, .int .i64 gen, .int .i64 0]) ∧ Sat E w' (HP.row 5 1 v p.length (b8s p) * q)) := by
  by_cases hlen : n = 128
  · subst hlen
    have hcw := (hq w hw).2
    obtain ⟨a, rfl, -⟩ := hcw.at_ 0 (by rw [b8s_length, hbn]; decide)
    obtain ⟨g, o, rfl⟩ := slice_addr hcw rfl (k := 0) (by rw [b8s_length, hbn]; decide)
    have g17 : b[17]? = some (b.getD 17 0) := by
      have : 17 < b.length := by omega
      simp [List.getD, this]
    have c17 : w.cell? ⟨g, o + 17, none⟩ = some (.int .u8 (b.getD 17 0)) := by
      have := hcw.some_ 17 (.int .u8 (b.getD 17 0)) (by unfold b8s; rw [List.getElem?_map, g17]; rfl)
      rw [addr_add] at this
      exact this
    have hx := hb _ (List.mem_of_getElem? g17)
    have HO : Aside (openI b name index = if b.length ≠ 128 ∨ 106 < b.getD 17 0 ∨ index < 0 ∨ 2147483647 < index then none else
        if 4611686018427387904 < getN ((b.drop 9).take 8) then none else
        if extI name index.toNat (getN ((b.drop 9).take 8)) ((b.drop 18).take (b.getD 17 0).toNat) ≠ b then none else
        some ((b.drop 18).take (b.getD 17 0).toNat, getN ((b.drop 9).take 8))) := ⟨rfl⟩
    obtain ⟨x, hxe⟩ : ∃ x : Nat, b.getD 17 0 = (x : Int) := ⟨(b.getD 17 0).toNat, by omega⟩
    rw [hxe] at c17 hx HO
    clear g17 hxe
    by_cases hbad : 106 < (x : Int) ∨ index < 0 ∨ 2147483647 < index
    · have HN : Aside (openI b name index = none ∧ Sat E w q) := ⟨by rw [HO.out, if_pos (.inr hbad)], hw⟩
      clear HO hw hq hcw hbn
      go_enter Tryz.func94, Tryz.ntmps94
      go_wp2
      all_goals (go_ret3; exact .inl ⟨HN.out.1, rfl, HN.out.2⟩)
    · have hx1 : ¬ 106 < (x : Int) := fun h => hbad (.inl h)
      have hi0 : ¬ index < 0 := fun h => hbad (.inr (.inl h))
      have hi2 : ¬ 2147483647 < index := fun h => hbad (.inr (.inr h))
      rw [if_neg (by rw [hbn]; intro h; rcases h with h | h; exact h rfl; exact hbad h), Int.toNat_natCast] at HO
      obtain ⟨ix, rfl⟩ := Int.eq_ofNat_of_zero_le (Int.not_lt.1 hi0)
      rw [Int.toNat_natCast] at HO
      have HQ := Aside.mk (And.intro hq (And.intro hw (And.intro hb hbn)))
      have cg : Cells w (some ⟨g, o + 9, none⟩) (b8s ((b.drop 9).take 8)) := by
        have := (hcw.drop 9).take 8
        rw [addr_add] at this
        unfold b8s at this ⊢
        rw [List.map_take, List.map_drop]
        exact this
      have CG := Aside.mk cg
      clear hbad hq hw hcw hbn cg hb
      go_enter Tryz.func94, Tryz.ntmps94
      go_wp2_with fail
      refine (crc_get (some ⟨g, o + 9, none⟩) ((b.drop 9).take 8) 8 (c - 9) w (by rw [List.length_take, List.length_drop, HQ.out.2.2.2]; rfl) (by decide) (by decide) (fun y hy => HQ.out.2.2.1 y (List.mem_of_mem_drop (List.mem_of_mem_take hy))) CG.out).mono ?_
      rintro e w1 ⟨rfl, rfl⟩
      clear CG
      generalize getN ((b.drop 9).take 8) = G at *
      by_cases hG : 4611686018427387904 < (G : Int)
      · have HN : Aside (openI b name ix = none ∧ Sat E w1 q) := ⟨by rw [HO.out, if_pos (by omega)], HQ.out.2.1⟩
        clear HO
        go_wp2
        go_ret3
        exact .inl ⟨HN.out.1, rfl, HN.out.2⟩
      · rw [if_neg (by omega)] at HO
        have c17a : (w1.alloc (.cells #[] 5)).cell? ⟨g, o + 17, none⟩ = some (.int .u8 (x : Int)) := by
          rw [World.cell?_of_block (w := w1) (heap_alloc_old w1 _ (World.block_lt_of_cell? w1 _ c17))]; exact c17
        have hpl : ((b.drop 18).take x).length = x := by rw [List.length_take, List.length_drop, HQ.out.2.2.2]; omega
        have cp : Cells w1 (some ⟨g, o + 18, none⟩) (b8s ((b.drop 18).take x)) := by
          have := (((HQ.out.1 _ HQ.out.2.1).2).drop 18).take x
          rw [addr_add] at this
          unfold b8s at this ⊢
          rw [List.map_take, List.map_drop]
          exact this
        have hpb : Bytes ((b.drop 18).take x) := fun y hy => HQ.out.2.2.1 y (List.mem_of_mem_drop (List.mem_of_mem_take hy))
        obtain ⟨p, hp⟩ : ∃ p, p = (b.drop 18).take x := ⟨_, rfl⟩
        rw [← hp] at HO hpl cp hpb
        have HP1 := Aside.mk (And.intro hpl (And.intro cp (And.intro hpb (show (b8s p).length = (18 + x - 18) * 1 by rw [b8s_length, hpl, Nat.mul_one]; omega))))
        clear hpl cp hpb hp
        go_wp2_with (at_builtin; go_loud (refine wpList_append_row slB8 rfl rfl (by rfl) (by rfl) (((HQ.out.2.1.alloc _).right).row_nil _ _ _) (HP1.out.2.1.alloc _) HP1.out.2.2.2 (b8s_one _) (by unfold maxLen; omega) (by omega) (fun v4 w4 hw4 => ?_); have HW4 := Aside.mk hw4; clear hw4))
        have hw4 : Sat E w4 (HP.row 5 1 v4 x (b8s p) * q) := by
          have := HW4.out
          rw [Nat.zero_add, List.nil_append, Nat.add_sub_cancel_left] at this
          exact this
        obtain ⟨A4, c4, rfl, -, -⟩ := hw4.row_slice
        have hT0 : (loadVar 162 ⟨g, o, none⟩).run Tryz.prog w4 = .ok (.agg (b8s b).toArray) w4 := run_loadAgg agExt (by rw [b8s_length]; exact HQ.out.2.2.2) (HQ.out.1 _ hw4.right).2
        have HW := Aside.mk hw4
        have ra : ∀ w, (Instr.arrayAt 162 (.slice (some ⟨g, o, none⟩) 128 c)).run Tryz.prog w = .ok (.pointer (some ⟨g, o, none⟩)) w := fun w => run_arrayExt _ 128 c (Nat.le_refl _) w
        clear HW4 hw4 c17 c17a
        refine region_R [5] [5] (fun w' => (loadVar 162 ⟨g, o, none⟩).run Tryz.prog w' = .ok (.agg (b8s b).toArray) w') #[false, false, false, false, false, false, false, false, false, false] (by kernel_rfl) rfl rfl ?_
        have hT1 : (loadVar 162 ⟨g, o, none⟩).run Tryz.prog w4.drew = .ok (.agg (b8s b).toArray) w4.drew := run_loadAgg agExt (by rw [b8s_length]; exact HQ.out.2.2.2) (HQ.out.1 _ HW.out.drew.right).2
        refine wpR_rd 0 #[true, false, false, false, false, false, false, false, false, false] rfl onlyN_noPanic (by kernel_rfl) (fun K hK => ?_); (go_simp; try go_bits); refine hK _ ?_; clear hK K
        refine wpR_rd 1 #[true, true, false, false, false, false, false, false, false, false] rfl onlyN_noPanic (by kernel_rfl) (fun K hK => ?_); (go_simp; try go_bits); refine hK _ ?_; clear hK K
        refine wpR_rd 2 #[true, true, true, false, false, false, false, false, false, false] rfl onlyN_noPanic (by kernel_rfl) (fun K hK => ?_); (go_simp; try go_bits); refine hK _ ?_; clear hK K
        refine wpR_rd 3 #[true, true, true, true, false, false, false, false, false, false] rfl onlyN_noPanic (by kernel_rfl) (fun K hK => ?_); (go_simp; try go_bits); refine hK _ ?_; clear hK K
        refine wpR_rd 4 #[true, true, true, true, true, false, false, false, false, false] rfl onlyN_noPanic (by kernel_rfl) (fun K hK => ?_); (go_simp; try go_bits); refine hK _ ?_; clear hK K
        refine wpR_pu 6 #[true, true, true, true, true, false, true, false, false, false] rfl onlyN_noPanic (by kernel_rfl) (fun K hK => ?_); (go_simp; try go_bits); refine hK _ ?_; clear hK K
        refine wpR_pu 7 #[true, true, true, true, true, false, true, true, false, false] rfl onlyN_noPanic (by kernel_rfl) (fun K hK => ?_); (go_simp; try go_bits); refine hK _ ?_; clear hK K
        refine wpR_held (i := 8) (v := .agg (b8s b).toArray) #[true, true, true, true, true, false, true, true, true, false] rfl onlyN_noPanic (by kernel_rfl) hT1 (.inl ⟨rfl, fun w' hT => exec_load rfl rfl hT⟩) ?_
        simp only [Act.put, List.setIfInBounds_toArray, List.set_cons_zero, List.set_cons_succ]
        refine wpR_keep #[true, true, true, true, true, true, true, true, true, false] (i := 5) rfl (by kernel_rfl) (fun K hK => ?_)
        go_simp
        refine (ext_build E _ name ix G A4 p x c4 _ hname (by omega) (by omega) HP1.out.1 (by omega) HP1.out.2.2.1 (fun w h => ⟨(HQ.out.1 _ h.right).1, h.row_cells⟩) HW.out.drew).mono ?_
        rintro e w5 ⟨rfl, h5⟩
        refine hK _ _ (run_loadAgg agExt (by rw [b8s_length]; exact HQ.out.2.2.2) (HQ.out.1 _ h5.right).2) ?_
        clear hK K
        have hIl : (extI name ix G p).length = 128 := extI_length (by rw [HP1.out.1]; omega)
        obtain ⟨I, hIe⟩ : ∃ I, I = extI name ix G p := ⟨_, rfl⟩
        rw [← hIe] at HO hIl ⊢
        have hne := run_neq_u8s (P := Tryz.prog) (w := w5) Tryz.underlying162 Tryz.underlying5 (by kernel_rfl) (by kernel_rfl) I b hIl HQ.out.2.2.2
        refine wpR_read (i := 9) #[true, true, true, true, true, true, true, true, true, true] rfl onlyN_noPanic (by kernel_rfl) (.inl ⟨rfl, exec_binop rfl rfl rfl (run_eqGuard_agg w5 .neq 162 _ _ _ _ (by kernel_rfl)) hne⟩) ?_
        simp only [Act.put, List.setIfInBounds_toArray, List.set_cons_zero, List.set_cons_succ]
        refine wpR_done (by kernel_rfl) ?_ _
        simp only [OnlyN]
        clear hne hT0 hT1 ra
        by_cases hIb : I = b
        · rw [decide_eq_true hIb]
          have HE : Aside (openI b name ix = some (p, G) ∧ Sat E w5 (HP.row 5 1 (.slice A4 x c4) p.length (b8s p) * q)) := ⟨by rw [HO.out, if_neg (by simpa using hIb)], by rw [HP1.out.1]; exact h5⟩
          clear HO hIe hIl hIb h5 HW
          generalize (b8s b).toArray = Lb at *
          generalize (b8s I).toArray = LI at *
          go_wp2
          go_ret3
          exact .inr ⟨p, G, _, HE.out.1, rfl, HE.out.2⟩
        · rw [decide_eq_false hIb]
          have HE : Aside (openI b name ix = none ∧ Sat E w5 q) := ⟨by rw [HO.out, if_pos hIb], h5.right⟩
          clear HO hIe hIl hIb h5 HW
          generalize (b8s b).toArray = Lb at *
          generalize (b8s I).toArray = LI at *
          go_wp2
          go_ret3
          exact .inl ⟨HE.out.1, rfl, HE.out.2⟩
  · have HO : Aside (openI b name index = none) := ⟨by unfold openI; rw [if_pos (.inl (by rw [hbn]; exact hlen))]⟩
    have hne : ¬ (n : Int) = 128 := by omega
    have HW := Aside.mk hw
    clear hw hq hbn
    go_enter Tryz.func94, Tryz.ntmps94
    go_wp2
    go_ret3
    exact .inl ⟨HO.out, rfl, HW.out⟩
end Go.Proofs.YtnpinegpajbkeaaGreatDoor
namespace Go.Proofs.YtnpinegpajbkeaaGreatDoor
open Go.RowKit HP
def Dk.new (room : Int) : Dk := ⟨room, -1, []⟩
theorem Dk.new_fine {room : Int} (h : 0 ≤ room ∧ room ≤ 100000) : (Dk.new room).Fine :=
  ⟨List.Pairwise.nil, (fun x hx => by cases hx), (fun x hx => by cases hx), h, ⟨by show (-1 : Int) ≤ -1; omega, by show (-1 : Int) ≤ _; omega⟩, h.1⟩
theorem View.new {room : Int} (h : 0 ≤ room ∧ room ≤ 100000) : View (Dk.new room) #[] 0 [] :=
  ⟨⟨(fun x hx => by simp at hx), rfl, by simp, (fun x hx => by simp at hx), by simp⟩, fun s => rfl, Dk.new_fine h⟩
theorem disk_new_ok (E : Env) (q : HP) (room : Int) (w : World) (h : 0 ≤ room ∧ room ≤ 100000) (hw : Sat E w q) :
    Calls Tryz.prog 39 #[.int .i64 room] w fun e w' => ∃ d, e = .returned (.tuple #[.pointer (some ⟨d, 0, none⟩), .int .i64 0]) ∧ Sat E w' (HP.disk d (Dk.new room) * q) :=
  (disk_new E q room w h.1 h.2 hw).mono fun e w' ⟨d, m, he, hs⟩ => ⟨d, he, Sat.disk_close (m := m) (View.new h) (hs.perm (by
    unfold HP.dk
    simp only [List.map_nil, HP.all, HP.mul_emp]
    show _ = HP.dsk d room (-1) m * HP.pt m (.map #[] 0) * q
    rw [HP.mul_assoc]))⟩
section
variable {A : Dk} {s t : ByteArray} {i : Int} {b : List Int} {l : List Cel}
theorem at_set (hs : Sorted A.files) (l : List Cel) : (A.set s l).at t = if s = t then l else A.at t := by
  unfold Dk.at Dk.set
  rw [lk_put _ _ _ hs]
  split <;> rfl
end
theorem celAt_view {A : Dk} {es : Array MapEntry} {clock : Nat} {fs : List Fil} (hv : View A es clock fs) (s : ByteArray) (i : Int) : (celAt fs s i).map (·.2) = A.cel s i := by
  have h := hv.same s
  unfold celAt Dk.cel Dk.at
  unfold lkF at h
  cases hf : fs.find? (fun f => decide (f.name = s)) with
  | none =>
    rw [hf] at h
    rw [← h]
    simp
  | some f =>
    rw [hf] at h
    simp only [Option.map_some] at h
    rw [← h]
    simp only [Option.getD_some]
    by_cases h0 : 0 ≤ i
    · rw [if_pos h0]
      by_cases h1 : i < f.cels.length
      · rw [if_pos ⟨h0, h1⟩, Fil.cs, List.getElem?_map]
      · rw [if_neg (fun h => h1 h.2), Fil.cs, List.getElem?_map, List.getElem?_eq_none (by omega)]
    · rw [if_neg h0, if_neg (fun h => h0 h.1)]; rfl
def readEnd (E : Env) (q : HP) (r : Option Cel) (e : Ending) (w' : World) : Prop :=
  match r with
  | none => e = .returned (.tuple #[.slice none 0 0, .int .i64 30]) ∧ Sat E w' q
  | some c => ∃ v, e = .returned (.tuple #[v, .int .i64 0]) ∧ Sat E w' (HP.row 5 1 v 128 (b8s c.read) * q)
theorem disk_read_ok (E : Env) (q : HP) (d : Nat) (A : Dk) (name : ByteArray) (i : Int) (w : World) (hn : name.size ≤ maxLen) (hw : Sat E w (HP.disk d A * q)) :
    Calls Tryz.prog 36 #[.pointer (some ⟨d, 0, none⟩), .string name, .int .i64 i] w (readEnd E (HP.disk d A * q) (A.cel name i)) := by
  obtain ⟨m, es, clock, fs, hv, hd⟩ := hw.disk_open
  refine (disk_read E q d A.room A.fuse m es clock fs name i w hn hv.map hv.good hd).mono fun e w' h => ?_
  rw [← celAt_view hv]
  unfold readPost at h
  unfold readEnd
  cases hc : celAt fs name i with
  | none => rw [hc] at h; exact ⟨h.1, Sat.disk_close hv h.2⟩
  | some x =>
    rw [hc] at h
    obtain ⟨v, he, hs⟩ := h
    exact ⟨v, he, (Sat.disk_close (q := HP.row 5 1 v 128 (b8s x.2.read) * q) hv (hs.perm (HP.left_comm _ _ _))).perm (HP.left_comm _ _ _)⟩
theorem flat_get {α : Type} (f : α → List Value) (n : Nat) (l : List α) (hn : ∀ x, (f x).length = n) (i k : Nat) (x : α) (h : l[i]? = some x) (hk : k < n) : (l.flatMap f)[i * n + k]? = (f x)[k]? := by
  induction l generalizing i with
  | nil => simp at h
  | cons y l ih =>
    rw [List.flatMap_cons]
    cases i with
    | zero =>
      simp only [List.getElem?_cons_zero, Option.some.injEq] at h
      subst h
      rw [Nat.zero_mul, Nat.zero_add, List.getElem?_append_left (by rw [hn]; exact hk)]
    | succ i =>
      simp only [List.getElem?_cons_succ] at h
      rw [List.getElem?_append_right (by rw [hn, Nat.add_mul]; omega), hn, ← ih i h]
      congr 1
      rw [Nat.add_mul, Nat.one_mul]
      omega
theorem StepV.vals_length (s : StepV) : s.vals.length = 8 := rfl
end Go.Proofs.YtnpinegpajbkeaaGreatDoor
namespace Go.Proofs.YtnpinegpajbkeaaGreatDoor
open Go.RowKit HP
set_option maxHeartbeats 1000000 in
set_option maxRecDepth 100000 in
theorem disk_extents (E : Env) (q : HP) (d : Nat) (A : Dk) (name : ByteArray) (w : World) (hn : name.size ≤ maxLen) (hw : Sat E w (HP.disk d A * q)) :
    Calls Tryz.prog 35 #[.pointer (some ⟨d, 0, none⟩), .string name] w fun e w' => e = .returned (.int .i64 ((A.at name).length : Int)) ∧ w' = w := by
  obtain ⟨m, es, clock, fs, hv, hd⟩ := hw.disk_open
  have hsm := at_small hv.fine name
  obtain ⟨k, hk⟩ : ∃ k, k = (A.at name).length := ⟨_, rfl⟩
  simp only [← hk] at hsm ⊢
  clear hw
  go_enter Tryz.func35, Tryz.ntmps35
  go_wp2_with fail
  refine (disk_none E _ d _ _ m w (dk_parts hd)).mono ?_
  rintro e w1 ⟨rfl, rfl⟩
  have c1 := (dk_parts hd).cell 1
  simp only [List.getElem?_toArray, List.getElem?_cons_zero, List.getElem?_cons_succ] at c1
  obtain ⟨v, B, cc, hvB, hlook, -, -⟩ := find_file hv hd name hn
  rw [hvB] at hlook
  clear hvB hd hv
  rw [← hk] at hlook
  clear hk
  go_wp2
  go_ret
  exact ⟨rfl, rfl⟩
theorem disk_free_ok (E : Env) (q : HP) (d : Nat) (A : Dk) (w : World) (hw : Sat E w (HP.disk d A * q)) :
    Calls Tryz.prog 86 #[.pointer (some ⟨d, 0, none⟩)] w fun e w' => e = .returned (.int .i64 A.free) ∧ Sat E w' (HP.disk d A * q) := by
  obtain ⟨m, es, clock, fs, hv, hd⟩ := hw.disk_open
  refine (disk_free E q d A.room A.fuse m es clock fs w hv.map hv.fine.room (by rw [hv.total]; have := hv.size_le; omega) hd).mono ?_
  rintro e w' ⟨rfl, h⟩
  exact ⟨by rw [hv.total]; rfl, Sat.disk_close hv h⟩
theorem disk_fuse_ok (E : Env) (q : HP) (d : Nat) (A : Dk) (n : Int) (w : World) (hn : n ≤ 9223372036854775807) (hw : Sat E w (HP.disk d A * q)) :
    Calls Tryz.prog 42 #[.pointer (some ⟨d, 0, none⟩), .int .i64 n] w fun e w' => (n < 0 ∧ e = .returned (.int .i64 1) ∧ Sat E w' (HP.disk d A * q)) ∨ (0 ≤ n ∧ e = .returned (.int .i64 0) ∧ Sat E w' (HP.disk d { A with fuse := n } * q)) := by
  obtain ⟨m, es, clock, fs, hv, hd⟩ := hw.disk_open
  refine (disk_fuse E _ d _ _ m n w (dk_parts hd)).mono ?_
  rintro e w' (⟨h1, rfl, rfl⟩ | ⟨h1, rfl, h⟩)
  · exact .inl ⟨h1, rfl, hw⟩
  · refine .inr ⟨h1, rfl, Sat.disk_close (m := m) (hv.fuel n ⟨by omega, hn⟩) (h.perm ?_)⟩
    unfold HP.dk
    ac_rfl
theorem disk_asked (E : Env) (q : HP) (d : Nat) (A : Dk) (w : World) (hw : Sat E w (HP.disk d A * q)) :
    Calls Tryz.prog 42 #[.pointer (some ⟨d, 0, none⟩), .int .i64 (-1)] w fun e w' => e = .returned (.int .i64 1) ∧ Sat E w' (HP.disk d A * q) :=
  (disk_fuse_ok E q d A (-1) w (by omega) hw).mono fun e w' h => by
    rcases h with ⟨_, he, hs⟩ | ⟨h0, _, _⟩
    · exact ⟨he, hs⟩
    · omega
set_option maxHeartbeats 1000000 in
set_option maxRecDepth 100000 in
theorem disk_remove (E : Env) (q : HP) (d : Nat) (A : Dk) (name : ByteArray) (w : World) (hn : name.size ≤ maxLen) (hw : Sat E w (HP.disk d A * q)) :
    Calls Tryz.prog 74 #[.pointer (some ⟨d, 0, none⟩), .string name] w fun e w' => e = .returned (.int .i64 (A.remove name).1) ∧ Sat E w' (HP.disk d (A.remove name).2 * q) := by
  obtain ⟨m, es, clock, fs, hv, hd⟩ := hw.disk_open
  have hfu := hv.fine.fuse
  have HF : Aside (A.remove name = match lk A.files name with
    | none => (30, A)
    | some _ => if A.goes = false then (31, A.burnt) else (0, { A.burnt with files := delF A.files name })) := ⟨rfl⟩
  clear hw
  go_enter Tryz.func74, Tryz.ntmps74
  go_wp2_with fail
  refine (disk_none E _ d _ _ m w (dk_parts hd)).mono ?_
  rintro e w1 ⟨rfl, rfl⟩
  have c1 := (dk_parts hd).cell 1
  simp only [List.getElem?_toArray, List.getElem?_cons_zero, List.getElem?_cons_succ] at c1
  obtain ⟨v, B, cc, hvB, -, hlook, hcase⟩ := find_file hv hd name hn
  clear hvB
  rcases hcase with ⟨hlk, -⟩ | ⟨j, f, hj, hname, hfv, hlk⟩
  · rw [hlk] at HF hlook
    have HT : Aside (A.remove name = (30, A) ∧ Sat E w1 (HP.disk d A * q)) := ⟨HF.out, Sat.disk_close hv hd⟩
    clear HF hd hv hlk hfu
    go_wp2
    go_ret
    rw [HT.out.1]
    exact ⟨rfl, HT.out.2⟩
  · rw [hlk] at HF hlook
    subst hname
    have HV := Aside.mk (And.intro hv hj)
    clear hlk hv hj hfv
    go_wp2_with fail
    refine (disk_burn E _ d _ _ m w1 hfu.2 (dk_parts hd)).mono ?_
    rintro e w3 ⟨rfl, hd3⟩
    cases hgo : A.goes with
    | false =>
      have hgo' : (burnI A.fuse).2 = false := hgo
      rw [hgo']
      have HT : Aside (A.remove f.name = (31, A.burnt) ∧ Sat E w3 (HP.disk d A.burnt * q)) := ⟨by rw [HF.out]; simp [hgo], Sat.disk_close HV.out.1.burnt (burnt_dsk hd3)⟩
      clear HF hd hd3 HV hgo hgo' hfu hlook c1
      go_wp2
      go_ret
      rw [HT.out.1]
      exact ⟨rfl, HT.out.2⟩
    | true =>
      have hgo' : (burnI A.fuse).2 = true := hgo
      rw [hgo']
      have HS : Aside (A.remove f.name = (0, { A.burnt with files := delF A.files f.name })) := ⟨by rw [HF.out]; simp [hgo]⟩
      obtain ⟨hv, hj⟩ := HV.out
      have c3 := hd3.cell 1
      simp only [List.getElem?_toArray, List.getElem?_cons_zero, List.getElem?_cons_succ] at c3
      have hrun : (Builtin.delete_ #[141, 9] 0 #[.map (some m), .string f.name]).run Tryz.prog w3 = .ok (.tuple #[]) (ChangeMaps.setBlock w3 m (.map (es.eraseIdxIfInBounds j) clock)) := by
        rcases delete_str (P := Tryz.prog) (t := 141) (ty := 0) Tryz.underlying9 Tryz.underlying141 hd3.s2.get hv.map.1 f.name hn with ⟨hno, -⟩ | ⟨i, x, hi, hx, h⟩
        · have h1 : (Value.string f.name, f.val) ∈ fs.map (fun f => (Value.string f.name, f.val)) := List.mem_map.2 ⟨f, List.mem_of_getElem? hj, rfl⟩
          rw [← hv.map.2.1] at h1
          obtain ⟨x, hx, hxe⟩ := List.mem_map.1 h1
          simp only [Prod.mk.injEq] at hxe
          exact absurd hxe.1 (hno x hx)
        · have h6 := congrArg (fun l => l[i]?) hv.map.2.1
          simp only [List.getElem?_map, hi, Option.map_some] at h6
          cases hfi : fs[i]? with
          | none => rw [hfi] at h6; cases h6
          | some g =>
            rw [hfi] at h6
            simp only [Option.map_some, Option.some.injEq, Prod.mk.injEq] at h6
            have hgn : g.name = f.name := by
              have := h6.1.symm.trans hx
              injection this
            have hil : i < fs.length := (List.getElem?_eq_some_iff.1 hfi).1
            have hij : i = j := by
              have e1 : (fs.map (·.name))[i]? = some f.name := by rw [List.getElem?_map, hfi, ← hgn]; rfl
              have e2 : (fs.map (·.name))[j]? = some f.name := by rw [List.getElem?_map, hj]; rfl
              exact (List.getElem?_inj (by simpa using hil) hv.map.2.2.1).1 (e1.trans e2.symm)
            subst hij
            exact h
      have h4 : Sat E (ChangeMaps.setBlock w3 m (.map (es.eraseIdxIfInBounds j) clock)) (HP.disk d { A.burnt with files := delF A.files f.name } * q) := by
        have h5 := Sat.setBlk hd3.s2 (.map (es.eraseIdxIfInBounds j) clock)
        refine Sat.disk_close (m := m) (hv.burnt.erase hj) ?_
        have h6 : Sat E (ChangeMaps.setBlock w3 m (.map (es.eraseIdxIfInBounds j) clock)) (HP.all (fs.map HP.fil) * (HP.pt m (.map (es.eraseIdxIfInBounds j) clock) * (HP.dsk d A.room (burnI A.fuse).1 m * q))) := h5.perm (by ac_rfl)
        rw [all_take (l := fs.map HP.fil) (j := j) (p := HP.fil f) (by rw [List.getElem?_map, hj]; rfl), map_erase] at h6
        exact (h6.perm (HP.mul_assoc _ _ _)).right.perm (by unfold HP.dk; show _ = HP.dsk d A.room (burnI A.fuse).1 m * _ * q; ac_rfl)
      have HT := Aside.mk (And.intro HS.out h4)
      clear HF hd hd3 HV hgo hgo' hfu hlook c1 hv hj h4 HS
      go_wp2_with (at_builtin; refine wpList_delete_run rfl rfl rfl rfl hrun ?_)
      go_ret
      rw [HT.out.1]
      exact ⟨rfl, HT.out.2⟩
def dotA : ByteArray := ⟨#[46, 97]⟩
def dotB : ByteArray := ⟨#[46, 98]⟩
theorem agTwo : AgTy Tryz.prog 195 2 := ⟨⟨_, Tryz.underlying195, rfl⟩, by kernel_rfl⟩
set_option maxHeartbeats 1000000 in
set_option maxRecDepth 100000 in
theorem pair_halves (E : Env) (q : HP) (name : ByteArray) (w : World) (hn : name.size + 2 ≤ maxLen) (hw : Sat E w q) :
    Calls Tryz.prog 132 #[.string name] w fun e w' => e = .returned (.agg #[.string (name ++ dotA), .string (name ++ dotB)]) ∧ Sat E w' q := by
  have HW := Aside.mk hw
  have hn2 : name.size + 2 ≤ 9223372036854775807 := by unfold maxLen at hn; omega
  unfold dotA dotB
  go_enter Tryz.func132, Tryz.ntmps132
  have h1 := hw.alloc (.cells [.string (name ++ ⟨#[46, 97]⟩), .string (name ++ ⟨#[46, 98]⟩)].toArray 195)
  have r1 := run_loadAgg (P := Tryz.prog) (n := 2) agTwo rfl (Sat.ptCells (off := 0) (l := [.string (name ++ ⟨#[46, 97]⟩), .string (name ++ ⟨#[46, 98]⟩)]) h1 rfl)
  go_wp2
  exact ⟨rfl, _, results_cell (t := 2) (by kernel_rfl) rfl r1, rfl, h1.right⟩
set_option maxHeartbeats 1000000 in
set_option maxRecDepth 100000 in
theorem pair_none (E : Env) (q : HP) (d : Nat) (A : Dk) (w : World) (hw : Sat E w (HP.disk d A * q)) :
    Calls Tryz.prog 157 #[.pointer (some ⟨d, 0, none⟩)] w fun e w' => e = .returned (.bool false) ∧ Sat E w' (HP.disk d A * q) := by
  have HW := Aside.mk hw
  clear hw
  go_enter Tryz.func157, Tryz.ntmps157
  go_wp2_with fail
  refine (disk_asked E q d A _ HW.out).mono ?_
  rintro e w1 ⟨rfl, h1⟩
  have H1 := Aside.mk h1
  clear h1
  go_wp2
  go_ret
  exact ⟨rfl, H1.out⟩
def wrF (A : Dk) (f : ByteArray) (gen : Nat) : Nat → List (List Int) → Int × Dk
  | _, [] => A.sync f
  | i, p :: r =>
    if ¬ FrameOk i gen p.length then (1, A)
    else if (A.write f i (extI f i gen p)).1 = 0 then wrF (A.write f i (extI f i gen p)).2 f gen (i + 1) r
    else A.write f i (extI f i gen p)
def wrL (A : Dk) (i gen : Nat) (ps : List (List Int)) : List ByteArray → Int × Dk
  | [] => (0, A)
  | f :: r => if (wrF A f gen i ps).1 = 0 then wrL (wrF A f gen i ps).2 i gen ps r else wrF A f gen i ps
def halvesL (name : ByteArray) : List ByteArray := [name ++ dotA, name ++ dotB]
def wrP (A : Dk) (name : ByteArray) (i gen : Nat) (ps : List (List Int)) : Int × Dk := wrL A i gen ps (halvesL name)
def Sl.val8 (s : Sl Int) : Value := .slice s.A s.l.length s.cap
structure PayOk (s : Sl Int) : Prop where
  len : s.l.length ≤ s.cap
  bytes : Bytes s.l
theorem dotA_size (name : ByteArray) : (name ++ dotA).size = name.size + 2 := by rw [ByteArray.size_append]; rfl
theorem dotB_size (name : ByteArray) : (name ++ dotB).size = name.size + 2 := by rw [ByteArray.size_append]; rfl
def dot0 : ByteArray := ⟨#[46, 48]⟩
def dot1 : ByteArray := ⟨#[46, 49]⟩
def dot2 : ByteArray := ⟨#[46, 50]⟩
def dotP : ByteArray := ⟨#[46, 112]⟩
def stripesL (name : ByteArray) : List ByteArray := [name ++ dot0, name ++ dot1, name ++ dot2, name ++ dotP]
def groupsI (n : Int) : Int := if n ≤ 0 then 1 else (n - 1) / 105 / 3 + 1
theorem agFour : AgTy Tryz.prog 104 4 := ⟨⟨_, Tryz.underlying104, rfl⟩, by kernel_rfl⟩
theorem dot_size (name : ByteArray) : (name ++ dot0).size = name.size + 2 ∧ (name ++ dot1).size = name.size + 2 ∧ (name ++ dot2).size = name.size + 2 ∧ (name ++ dotP).size = name.size + 2 := ⟨by rw [ByteArray.size_append]; rfl, by rw [ByteArray.size_append]; rfl, by rw [ByteArray.size_append]; rfl, by rw [ByteArray.size_append]; rfl⟩
set_option maxHeartbeats 1000000 in
set_option maxRecDepth 100000 in
theorem stripe_names (E : Env) (q : HP) (name : ByteArray) (w : World) (hn : name.size + 2 ≤ maxLen) (hw : Sat E w q) :
    Calls Tryz.prog 60 #[.string name] w fun e w' => e = .returned (.agg #[.string (name ++ dot0), .string (name ++ dot1), .string (name ++ dot2), .string (name ++ dotP)]) ∧ Sat E w' q := by
  have hn2 : name.size + 2 ≤ 9223372036854775807 := by unfold maxLen at hn; omega
  unfold dot0 dot1 dot2 dotP
  go_enter Tryz.func60, Tryz.ntmps60
  have h1 := hw.alloc (.cells [.string (name ++ ⟨#[46, 48]⟩), .string (name ++ ⟨#[46, 49]⟩), .string (name ++ ⟨#[46, 50]⟩), .string (name ++ ⟨#[46, 112]⟩)].toArray 104)
  have r1 := run_loadAgg (P := Tryz.prog) (n := 4) agFour rfl (Sat.ptCells (off := 0) (l := [.string (name ++ ⟨#[46, 48]⟩), .string (name ++ ⟨#[46, 49]⟩), .string (name ++ ⟨#[46, 50]⟩), .string (name ++ ⟨#[46, 112]⟩)]) h1 rfl)
  go_wp2
  exact ⟨rfl, _, results_cell (t := 2) (by kernel_rfl) rfl r1, rfl, h1.right⟩
set_option maxHeartbeats 1000000 in
set_option maxRecDepth 100000 in
theorem stripe_groups (n : Int) (w : World) (h : wf64 n) : Calls Tryz.prog 50 #[.int .i64 n] w fun e w' => e = .returned (.int .i64 (groupsI n)) ∧ w' = w := by
  unfold wf64 at h
  by_cases hn : n ≤ 0
  · go_enter Tryz.func50, Tryz.ntmps50
    go_wp2
    go_ret
    exact ⟨by unfold groupsI; rw [if_pos hn]; rfl, rfl⟩
  · have e1 : (n - 1).tdiv 105 = (n - 1) / 105 := Int.tdiv_eq_ediv_of_nonneg (by omega)
    have e2 : ((n - 1) / 105).tdiv 3 = (n - 1) / 105 / 3 := Int.tdiv_eq_ediv_of_nonneg (by omega)
    go_enter Tryz.func50, Tryz.ntmps50
    go_wp2
    go_ret
    exact ⟨by unfold groupsI; rw [if_neg (by omega)]; rfl, rfl⟩
set_option maxHeartbeats 1000000 in
set_option maxRecDepth 100000 in
theorem stripe_none (E : Env) (q : HP) (d : Nat) (A : Dk) (w : World) (hw : Sat E w (HP.disk d A * q)) :
    Calls Tryz.prog 57 #[.pointer (some ⟨d, 0, none⟩)] w fun e w' => e = .returned (.bool false) ∧ Sat E w' (HP.disk d A * q) := by
  have HW := Aside.mk hw
  clear hw
  go_enter Tryz.func57, Tryz.ntmps57
  go_wp2_with fail
  refine (disk_asked E q d A _ HW.out).mono ?_
  rintro e w1 ⟨rfl, h1⟩
  have H1 := Aside.mk h1
  clear h1
  go_wp2
  go_ret
  exact ⟨rfl, H1.out⟩
def dropT (A : Dk) : List ByteArray → Int × Dk
  | [] => (0, A)
  | f :: r => if (A.at f).length = 0 then dropT A r else if (A.remove f).1 = 0 then dropT (A.remove f).2 r else A.remove f
def dropS (A : Dk) (name : ByteArray) : Int × Dk := dropT A (stripesL name)
def slotI (p : List Int) : List Int := (p.length : Int) :: (p ++ List.replicate (105 - p.length) 0)
theorem slotI_length {p : List Int} (h : p.length ≤ 105) : (slotI p).length = 106 := by
  unfold slotI
  rw [List.length_cons, List.length_append, List.length_replicate]
  omega
theorem slotI_bytes {p : List Int} (h : p.length ≤ 105) (hb : Bytes p) : Bytes (slotI p) := by
  intro x hx
  rcases List.mem_cons.1 hx with rfl | hx
  · omega
  · rcases List.mem_append.1 hx with hx | hx
    · exact hb x hx
    · rw [List.eq_of_mem_replicate hx]; omega
theorem agSlot : AgTy Tryz.prog 100 106 := ⟨⟨_, Tryz.underlying100, rfl⟩, by kernel_rfl⟩
theorem zero_slot : (b8s (List.replicate 106 0)).toArray = Tryz.zeroCells100 := by kernel_rfl
theorem zero_slot1 (n : Nat) : Tryz.zeroCells100.setIfInBounds 0 (.int .u8 (n : Int)) = (b8s ([(n : Int)] ++ List.replicate 105 0)).toArray := by
  rw [← zero_slot]
  rfl
theorem splice_all {I : List Int} (h : I.length = 106) : splice Tryz.zeroCells100.toList 0 (b8s I) = b8s I := by
  rw [← zero_slot]
  unfold splice
  rw [List.take_zero, List.nil_append, Nat.zero_add, List.drop_of_length_le (by simp [b8s_length, h]), List.append_nil]
set_option maxHeartbeats 2000000 in
set_option maxRecDepth 100000 in
theorem stripe_of (E : Env) (q : HP) (A : Option Addr) (p : List Int) (n c : Nat) (w : World) (hpn : p.length = n) (hn : n ≤ 105) (hq : ∀ w, Sat E w q → Cells w A (b8s p)) (hw : Sat E w q) :
    Calls Tryz.prog 58 #[.slice A n c] w fun e w' => e = .returned (.agg (b8s (slotI p)).toArray) ∧ Sat E w' q := by
  have h0 : Sat E ((w.alloc (.cells Tryz.zeroCells100 100)).alloc (.cells (Tryz.zeroCells100.setIfInBounds 0 (.int .u8 (n : Int))) 100)) (HP.pt (w.heap.size + 1) (.cells (b8s ([(n : Int)] ++ List.replicate 105 0)).toArray 100) * (HP.pt w.heap.size (.cells Tryz.zeroCells100 100) * q)) := by
    rw [← zero_slot1]
    have h1 := (hw.alloc (.cells Tryz.zeroCells100 100)).alloc (.cells (Tryz.zeroCells100.setIfInBounds 0 (.int .u8 (n : Int))) 100)
    rw [show (w.alloc (.cells Tryz.zeroCells100 100)).heap.size = w.heap.size + 1 by simp] at h1
    exact h1
  have HQ := Aside.mk (And.intro hq hpn)
  have H0 := Aside.mk h0
  have hwr : IntKind.u8.wrap (n : Int) = (n : Int) := by rw [IntKind.wrap_u8]; omega
  have hsl : (slotI p).length = 106 := slotI_length (by rw [hpn]; exact hn)
  have hsp : splice (b8s ([(n : Int)] ++ List.replicate 105 0)) 1 (b8s p) = b8s (slotI p) := by
    rw [splice_zero (a := [(n : Int)]) (off := 1) (c := p) (n := 105) rfl (by rw [hpn]; exact hn)]
    unfold slotI
    rw [hpn]
    simp
  have HS := Aside.mk (And.intro hsl hsp)
  clear hq hw hpn h0 hsl hsp
  go_enter Tryz.func58, Tryz.ntmps58
  go_wp2_with (first | (at_builtin; fail) | (refine wpList_load_run rfl rfl rfl r1 ?_) | (refine wpList_store_run rfl rfl rfl rfl rfl r2 ?_) | (refine wpList_copy_pt (L := [(n : Int)] ++ List.replicate 105 0) (src := p) slB8.under (by kernel_rfl) rfl rfl rfl rfl H0.out HQ.out.2 (by omega) (by simp; omega) (HQ.out.1 _ H0.out.right.right) (fun w11 h11 => ?_); rw [HS.out.2] at h11; have r1 := run_loadAgg agSlot (by rw [b8s_length]; exact HS.out.1) (Sat.ptCells (off := 0) (l := b8s (slotI p)) h11 (by rw [List.drop_zero, List.take_length])); have r2 := run_storeAgg agSlot (g := w.heap.size) (off := 0) (cs := b8s (slotI p)) h11.s2.get (by rw [b8s_length]; exact HS.out.1) (by rw [← zero_slot]; simp [b8s_length]) (b8s_one (slotI p)); have h16 := h11.s2.splice (splice Tryz.zeroCells100.toList 0 (b8s (slotI p))); rw [splice_all HS.out.1] at h16 r2; have r3 := run_loadAgg agSlot (by rw [b8s_length]; exact HS.out.1) (Sat.ptCells (off := 0) (l := b8s (slotI p)) h16 (by rw [List.drop_zero, List.take_length])); have H16 := Aside.mk h16; clear h11 h16 H0; generalize World.setRow w11 w.heap.size (b8s (slotI p)).toArray = w16 at *; simp only [Act.put, List.setIfInBounds_toArray, List.set_cons_zero, List.set_cons_succ]))
  exact ⟨rfl, _, results_cell (t := 2) (by kernel_rfl) rfl r3, rfl, H16.out.right.right⟩
theorem run_slot_slice (w : World) (b : Nat) (lo hi : Int) (h0 : 0 ≤ lo) (h1 : lo ≤ hi) (h2 : hi ≤ 106) (h3 : lo < 106) : (Instr.sliceAt 100 (.pointer (some ⟨b, 0, none⟩)) (some (.int .i64 lo)) (some (.int .i64 hi)) none).run Tryz.prog w = .ok (.slice (some ⟨b, lo.toNat, none⟩) (hi - lo).toNat (106 - lo.toNat)) w := by
  have f1 : 0 ≤ hi ∧ hi ≤ 106 := by omega
  have f2 : 0 ≤ lo ∧ lo ≤ hi := by omega
  have e5 : ¬ 106 = lo.toNat := by omega
  have e6 : (sizeOf 5).run Tryz.prog w = .ok 1 w := by kernel_rfl
  have e7 : hi.toNat - lo.toNat = (hi - lo).toNat := by omega
  have e9 : max hi 0 = hi := by omega
  have e10 : max lo 0 = lo := by omega
  simp [Instr.sliceAt, run_underlying Tryz.underlying100, Instr.sureAddr, Instr.sliceBounds, Instr.sliceBound, asIntOf, f1, f2, e5, e6, e7, e9, e10, Addr.add_lit]
def payI (k : Nat) (S : List Int) : List Int := if k = 3 then S else (S.drop 1).take (S.headD 0).toNat
def payEnd (E : Env) (q : HP) (k : Nat) (S : List Int) (e : Ending) (w' : World) : Prop :=
  ∃ A c m, ∃ R : HP, e = .returned (.slice A m c) ∧ (payI k S).length = m ∧ m ≤ 106 ∧ m ≤ c ∧ c ≤ maxLen ∧ Sat E w' (R * q) ∧ ∀ w'' q', Sat E w'' (R * q') → Cells w'' A (b8s (payI k S))
set_option maxHeartbeats 2000000 in
set_option maxRecDepth 100000 in
theorem stripe_payload (E : Env) (q : HP) (k : Nat) (S : List Int) (w : World) (hk : k < 4) (hS : S.length = 106) (h0 : k ≠ 3 → 0 ≤ S.headD 0 ∧ S.headD 0 ≤ 105) (hw : Sat E w q) :
    Calls Tryz.prog 62 #[.int .i64 k, .agg (b8s S).toArray] w (payEnd E q k S) := by
  have h1 := hw.alloc (.cells (b8s S).toArray 100)
  have hL : (b8s S).toArray.size = 106 := by simp [b8s_length, hS]
  by_cases h3 : k = 3
  · subst h3
    have HP1 : Aside (payI 3 S = S) := ⟨rfl⟩
    have HS := Aside.mk (And.intro hS h1)
    clear hS h1 h0 hk hw
    obtain ⟨C, hC⟩ : ∃ C, C = (b8s S).toArray := ⟨_, rfl⟩
    rw [← hC] at HS hL ⊢
    have HC := Aside.mk hC
    clear hC
    go_enter Tryz.func62, Tryz.ntmps62
    go_wp2
    go_ret
    refine ⟨_, 106, 106, HP.pt w.heap.size (.cells (b8s S).toArray 100), rfl, by rw [HP1.out]; exact HS.out.1, by omega, by omega, by unfold maxLen; omega, ?_, fun w'' q' h => ?_⟩
    · rw [← HC.out]; exact HS.out.2
    · rw [HP1.out]
      exact Sat.ptCells (off := 0) h (by rw [List.drop_zero, List.take_length])
  · obtain ⟨h01, h02⟩ := h0 h3
    obtain ⟨m, hm⟩ : ∃ m : Nat, S.headD 0 = (m : Int) := ⟨(S.headD 0).toNat, by omega⟩
    have HP1 : Aside (payI k S = (S.drop 1).take m) := ⟨by unfold payI; rw [if_neg h3, hm]; rfl⟩
    have hm5 : m ≤ 105 := by omega
    have hpl : ((S.drop 1).take m).length = m := by rw [List.length_take, List.length_drop, hS]; omega
    have hc0 : (b8s S)[0]? = some (.int .u8 (m : Int)) := by
      cases S with
      | nil => cases hS
      | cons x S => rw [show x = (m : Int) from hm]; rfl
    have g0 : (w.alloc (.cells (b8s S).toArray 100)).cell? ⟨w.heap.size, 0, none⟩ = some (.int .u8 (m : Int)) := by
      rw [h1.cell 0, List.getElem?_toArray]; exact hc0
    have HS := Aside.mk (And.intro hS (And.intro h1 hpl))
    have hk3 : ((k : Int) == 3) = false := by rw [beq_eq_false_iff_ne]; omega
    have hk4 : ¬ (k : Int) = 3 := by omega
    clear hS h1 h01 h02 hw hpl hc0 hm h0 hk
    obtain ⟨C, hC⟩ : ∃ C, C = (b8s S).toArray := ⟨_, rfl⟩
    rw [← hC] at HS hL g0 ⊢
    have HC := Aside.mk hC
    clear hC
    go_enter Tryz.func62, Tryz.ntmps62
    have sl := run_slot_slice (w.alloc (.cells C 100)) w.heap.size 1 (1 + (m : Int)) (by omega) (by omega) (by omega) (by omega)
    rw [show (1 + (m : Int) - 1).toNat = m by omega, show (106 : Nat) - (1 : Int).toNat = 105 from rfl, show (1 : Int).toNat = 1 from rfl] at sl
    go_wp2
    go_ret
    refine ⟨some ⟨w.heap.size, 1, none⟩, 105, m, HP.pt w.heap.size (.cells (b8s S).toArray 100), rfl, by rw [HP1.out]; exact HS.out.2.2, by omega, by omega, by unfold maxLen; omega, ?_, fun w'' q' h => ?_⟩
    · rw [← HC.out]; exact HS.out.2.1
    · rw [HP1.out]
      exact Sat.ptCells (off := 1) (l := b8s ((S.drop 1).take m)) h (by unfold b8s; rw [List.length_map, HS.out.2.2, ← List.map_drop, ← List.map_take])
end Go.Proofs.YtnpinegpajbkeaaGreatDoor
namespace Go.Proofs.YtnpinegpajbkeaaGreatDoor
open Go.RowKit HP
def xorB (a b : Int) : Int := bits .xor .u8 a b
def xorAt (l : List Int) (k : Nat) (m : Int) : List Int := l.set k (xorB (l.getD k 0) m)
theorem xorAt_length (l : List Int) (k : Nat) (m : Int) : (xorAt l k m).length = l.length := List.length_set
def Cel.rotd (c : Cel) (k : Nat) (m : Int) : Cel := if c.waits then { c with durable := xorAt c.durable k m } else { c with read := xorAt c.read k m, durable := xorAt c.durable k m }
theorem Cel.rotd_fine {c : Cel} (h : c.Fine) (k : Nat) (m : Int) : (c.rotd k m).Fine := by
  unfold Cel.rotd
  split
  · exact ⟨h.1, (xorAt_length _ _ _).trans h.2.1, h.2.2.1, h.2.2.2⟩
  · exact ⟨(xorAt_length _ _ _).trans h.1, (xorAt_length _ _ _).trans h.2.1, h.2.2.1, h.2.2.2⟩
def Dk.rot (A : Dk) (s : ByteArray) (i at_ m : Int) : Int × Dk :=
  match A.cel s i with
  | none => (30, A)
  | some c => if at_ < 0 ∨ 128 ≤ at_ then (1, A) else (0, A.set s ((A.at s).set i.toNat (c.rotd at_.toNat m)))
theorem celAt_some {fs : List Fil} {s : ByteArray} {i : Int} {x : Nat × Cel} (h : celAt fs s i = some x) : ∃ (j : Nat) (f : Fil) (k : Nat), fs[j]? = some f ∧ f.name = s ∧ i = (k : Int) ∧ f.cels[k]? = some x := by
  unfold celAt at h
  cases hf : fs.find? (fun f => decide (f.name = s)) with
  | none => rw [hf] at h; cases h
  | some f =>
    rw [hf] at h
    dsimp only at h
    split at h
    · rename_i hi
      obtain ⟨j, hj⟩ := List.getElem?_of_mem (List.mem_of_find?_eq_some hf)
      have hn := List.find?_some hf
      simp only [decide_eq_true_eq] at hn
      exact ⟨j, f, i.toNat, hj, hn, by omega, h⟩
    · cases h
section
variable {E : Env} {q : HP} {w : World} {b : Nat} {c : Cel}
theorem cel_byte_read (h : Sat E w (HP.cel b c * q)) (hf : c.Fine) {k : Nat} (hk : k < 128) : w.cell? ⟨b, k, none⟩ = some (.int .u8 (c.read.getD k 0)) := by
  have := (cel_read h hf).some_ k (.int .u8 (c.read.getD k 0)) (by
    unfold b8s
    rw [List.getElem?_map, List.getElem?_eq_getElem (by rw [hf.1]; exact hk)]
    simp [List.getD, hf.1, hk])
  rw [addr_add, Nat.zero_add] at this
  exact this
theorem cel_byte_durable (h : Sat E w (HP.cel b c * q)) (hf : c.Fine) {k : Nat} (hk : k < 128) : w.cell? ⟨b, 128 + k, none⟩ = some (.int .u8 (c.durable.getD k 0)) := by
  have := (cel_durable h hf).some_ k (.int .u8 (c.durable.getD k 0)) (by
    unfold b8s
    rw [List.getElem?_map, List.getElem?_eq_getElem (by rw [hf.2.1]; exact hk)]
    simp [List.getD, hf.2.1, hk])
  rw [addr_add] at this
  exact this
theorem b8s_set (l : List Int) (k : Nat) (x : Int) : (b8s l).set k (.int .u8 x) = b8s (l.set k x) := by unfold b8s; rw [List.map_set]
theorem cel_set_read (h : Sat E w (HP.cel b c * q)) (hf : c.Fine) {k : Nat} (hk : k < 128) (x : Int) : Sat E (w.setCell ⟨b, k, none⟩ (.int .u8 x)) (HP.cel b { c with read := c.read.set k x } * q) := by
  have h1 : Sat E w (HP.pt b (.cells c.vals.toArray 149) * q) := h
  have h2 := h1.set (i := k) (.int .u8 x)
  have e : c.vals.toArray.setIfInBounds k (.int .u8 x) = ({ c with read := c.read.set k x } : Cel).vals.toArray := by
    rw [List.setIfInBounds_toArray]
    congr 1
    unfold Cel.vals
    rw [List.set_append_left _ _ (by rw [b8s_length, hf.1]; exact hk), b8s_set]
  rw [e] at h2
  exact h2
theorem cel_set_durable (h : Sat E w (HP.cel b c * q)) (hf : c.Fine) {k : Nat} (hk : k < 128) (x : Int) : Sat E (w.setCell ⟨b, 128 + k, none⟩ (.int .u8 x)) (HP.cel b { c with durable := c.durable.set k x } * q) := by
  have h1 : Sat E w (HP.pt b (.cells c.vals.toArray 149) * q) := h
  have h2 := h1.set (i := 128 + k) (.int .u8 x)
  have e : c.vals.toArray.setIfInBounds (128 + k) (.int .u8 x) = ({ c with durable := c.durable.set k x } : Cel).vals.toArray := by
    rw [List.setIfInBounds_toArray]
    congr 1
    unfold Cel.vals
    rw [List.set_append_right _ _ (by rw [b8s_length, hf.1]; omega), b8s_length, hf.1, Nat.add_sub_cancel_left, List.set_append_left _ _ (by rw [b8s_length, hf.2.1]; exact hk), b8s_set]
  rw [e] at h2
  exact h2
end
set_option maxHeartbeats 2000000 in
set_option maxRecDepth 100000 in
theorem disk_rot (E : Env) (q : HP) (d : Nat) (A : Dk) (name : ByteArray) (i at_ mask : Int) (w : World) (hn : name.size ≤ maxLen) (hw : Sat E w (HP.disk d A * q)) :
    Calls Tryz.prog 79 #[.pointer (some ⟨d, 0, none⟩), .string name, .int .i64 i, .int .i64 at_, .int .u8 mask] w fun e w' => e = .returned (.int .i64 (A.rot name i at_ mask).1) ∧ Sat E w' (HP.disk d (A.rot name i at_ mask).2 * q) := by
  obtain ⟨m, es, clock, fs, hv, hd⟩ := hw.disk_open
  have HF : Aside (A.rot name i at_ mask = match A.cel name i with
    | none => (30, A)
    | some c => if at_ < 0 ∨ 128 ≤ at_ then (1, A) else (0, A.set name ((A.at name).set i.toNat (c.rotd at_.toNat mask)))) := ⟨rfl⟩
  rw [← celAt_view hv] at HF
  clear hw
  go_enter Tryz.func79, Tryz.ntmps79
  go_wp2_with fail
  refine (disk_none E _ d _ _ m w (dk_parts hd)).mono ?_
  rintro e w1 ⟨rfl, rfl⟩
  go_wp2_with fail
  refine (disk_at E q d _ _ m es clock fs name i _ hn hv.map hd).mono ?_
  rintro e w2 ⟨rfl, rfl⟩
  rw [cellAt_eq]
  cases hx : celAt fs name i with
  | none =>
    rw [hx] at HF
    have HT : Aside (A.rot name i at_ mask = (30, A) ∧ Sat E w2 (HP.disk d A * q)) := ⟨HF.out, Sat.disk_close hv hd⟩
    clear HF hx hd hv
    go_wp2
    go_ret
    rw [HT.out.1]
    exact ⟨rfl, HT.out.2⟩
  | some x =>
    rw [hx] at HF
    obtain ⟨j, f, k, hj, hname, hik, hk⟩ := celAt_some hx
    have hxf : x.2.Fine := hv.cel_fine (List.mem_of_getElem? hj) (List.mem_of_getElem? hk)
    obtain ⟨r, hr1, -, hr3⟩ := take_cel hv hd hj hk
    have hat : A.at name = f.cs := by
      unfold Dk.at
      rw [← hv.same, ← hname, lkF_at hv.nodup hj]; rfl
    have HD : Aside (Sat E w2 (HP.disk d A * q)) := ⟨Sat.disk_close hv hd⟩
    have HR : Aside (∀ w' c', c'.Fine → Sat E w' (HP.cel x.1 c' * r) → Sat E w' (HP.disk d (A.set name ((A.at name).set i.toNat c')) * q)) := ⟨fun w' c' hc h => by
      have := hr3 w' c' hc h
      rw [hat, hik, Int.toNat_natCast, ← hname]
      exact this⟩
    obtain ⟨bk, c⟩ := x
    dsimp only [Option.map_some] at *
    clear hx hd hv hr3 hj hk hname hik hat
    by_cases h0 : at_ < 0
    · have HT : Aside (A.rot name i at_ mask = (1, A)) := ⟨by rw [HF.out]; simp [h0]⟩
      clear HF hr1 hxf HR
      go_wp2
      go_ret
      rw [HT.out]
      exact ⟨rfl, HD.out⟩
    · by_cases h8 : 128 ≤ at_
      · have HT : Aside (A.rot name i at_ mask = (1, A)) := ⟨by rw [HF.out]; simp [h8]⟩
        clear HF hr1 hxf HR
        go_wp2
        go_ret
        rw [HT.out]
        exact ⟨rfl, HD.out⟩
      · obtain ⟨n, rfl⟩ := Int.eq_ofNat_of_zero_le (Int.not_lt.1 h0)
        have hn8 : n < 128 := by omega
        have HT : Aside (A.rot name i n mask = (0, A.set name ((A.at name).set i.toNat (c.rotd n mask)))) := ⟨by rw [HF.out]; simp only [if_neg (show ¬ ((n : Int) < 0 ∨ 128 ≤ (n : Int)) by omega), Int.toNat_natCast]⟩
        have cw := cel_waits hr1 hxf
        have hn1 : (n : Int) < 128 := by omega
        have hn0 : (0 : Int) ≤ (n : Int) := by omega
        cases hcw : c.waits with
        | true =>
          rw [hcw] at cw
          have g2 := cel_byte_durable hr1 hxf hn8
          have f2 := cel_thaw hr1 (128 + n)
          have h9 := cel_set_durable (hr1.drew) hxf hn8 (xorB (c.durable.getD n 0) mask)
          have HH := Aside.mk (HR.out _ _ (Cel.rotd_fine hxf n mask) (by
            have e : c.rotd n mask = { c with durable := c.durable.set n (xorB (c.durable.getD n 0) mask) } := by unfold Cel.rotd xorAt; rw [if_pos hcw]
            rw [e]; exact h9))
          clear HF HR HD hr1 hxf hcw h9
          generalize c.durable.getD n 0 = y at *
          unfold xorB at HH
          go_wp2
          refine region_R [11] [] (fun _ => True) #[false, false, false, false, false, false, false, false, false, false, false, false] (by kernel_rfl) rfl rfl ?_
          refine wpR_rd 0 #[true, false, false, false, false, false, false, false, false, false, false, false] rfl onlyN_noPanic (by kernel_rfl) (fun K hK => ?_); (go_simp; try go_bits); refine hK _ ?_; clear hK K
          refine wpR_rd 1 #[true, true, false, false, false, false, false, false, false, false, false, false] rfl onlyN_noPanic (by kernel_rfl) (fun K hK => ?_); (go_simp; try go_bits); refine hK _ ?_; clear hK K
          refine wpR_rd 2 #[true, true, true, false, false, false, false, false, false, false, false, false] rfl onlyN_noPanic (by kernel_rfl) (fun K hK => ?_); (go_simp; try go_bits); refine hK _ ?_; clear hK K
          refine wpR_rd 3 #[true, true, true, true, false, false, false, false, false, false, false, false] rfl onlyN_noPanic (by kernel_rfl) (fun K hK => ?_); (go_simp; try go_bits); refine hK _ ?_; clear hK K
          refine wpR_rd 4 #[true, true, true, true, true, false, false, false, false, false, false, false] rfl onlyN_noPanic (by kernel_rfl) (fun K hK => ?_); (go_simp; try go_bits); refine hK _ ?_; clear hK K
          refine wpR_rd 5 #[true, true, true, true, true, true, false, false, false, false, false, false] rfl onlyN_noPanic (by kernel_rfl) (fun K hK => ?_); (go_simp; try go_bits); refine hK _ ?_; clear hK K
          refine wpR_rd 6 #[true, true, true, true, true, true, true, false, false, false, false, false] rfl onlyN_noPanic (by kernel_rfl) (fun K hK => ?_); (go_simp; try go_bits); refine hK _ ?_; clear hK K
          refine wpR_rd 7 #[true, true, true, true, true, true, true, true, false, false, false, false] rfl onlyN_noPanic (by kernel_rfl) (fun K hK => ?_); (go_simp; try go_bits); refine hK _ ?_; clear hK K
          refine wpR_rd 8 #[true, true, true, true, true, true, true, true, true, false, false, false] rfl onlyN_noPanic (by kernel_rfl) (fun K hK => ?_); (go_simp; try go_bits); refine hK _ ?_; clear hK K
          refine wpR_rd 9 #[true, true, true, true, true, true, true, true, true, true, false, false] rfl onlyN_noPanic (by kernel_rfl) (fun K hK => ?_); (go_simp; try go_bits); refine hK _ ?_; clear hK K
          refine wpR_rd 10 #[true, true, true, true, true, true, true, true, true, true, true, false] rfl onlyN_noPanic (by kernel_rfl) (fun K hK => ?_); (go_simp; try go_bits); refine hK _ ?_; clear hK K
          refine wpR_eff #[true, true, true, true, true, true, true, true, true, true, true, true] (i := 11) rfl (by kernel_rfl) (fun K hK => ?_)
          go_simp; refine hK _ _ ?_; clear hK K
          refine wpR_done (by kernel_rfl) ?_ _
          simp only [OnlyN]
          go_wp2
          go_ret
          rw [HT.out]
          exact ⟨rfl, HH.out⟩
        | false =>
          rw [hcw] at cw
          have g2 := cel_byte_read hr1 hxf hn8
          have f2 := cel_thaw hr1 n
          have h9 := (cel_set_read hr1 hxf hn8 (xorB (c.read.getD n 0) mask)).drew
          have hxf1 : ({ c with read := c.read.set n (xorB (c.read.getD n 0) mask) } : Cel).Fine := ⟨List.length_set.trans hxf.1, hxf.2.1, hxf.2.2.1, hxf.2.2.2⟩
          have HX := Aside.mk (And.intro h9 hxf1)
          have HR2 : Aside (∀ w', Sat E w' (HP.cel bk { c with read := c.read.set n (xorB (c.read.getD n 0) mask), durable := c.durable.set n (xorB (c.durable.getD n 0) mask) } * r) → Sat E w' (HP.disk d (A.set name ((A.at name).set i.toNat (c.rotd n mask))) * q)) := ⟨fun w' h => HR.out w' _ (Cel.rotd_fine hxf n mask) (by
            have e : c.rotd n mask = { c with read := c.read.set n (xorB (c.read.getD n 0) mask), durable := c.durable.set n (xorB (c.durable.getD n 0) mask) } := by unfold Cel.rotd xorAt; rw [if_neg (by rw [hcw]; decide)]
            rw [e]; exact h)⟩
          clear HF HR HD hr1 hxf hcw h9 hxf1
          obtain ⟨y, hy⟩ : ∃ y, y = c.read.getD n 0 := ⟨_, rfl⟩
          simp only [← hy] at g2 HX HR2
          clear hy
          unfold xorB at HX
          go_wp2
          refine region_R [11] [] (fun _ => True) #[false, false, false, false, false, false, false, false, false, false, false, false] (by kernel_rfl) rfl rfl ?_
          refine wpR_rd 0 #[true, false, false, false, false, false, false, false, false, false, false, false] rfl onlyN_noPanic (by kernel_rfl) (fun K hK => ?_); (go_simp; try go_bits); refine hK _ ?_; clear hK K
          refine wpR_rd 1 #[true, true, false, false, false, false, false, false, false, false, false, false] rfl onlyN_noPanic (by kernel_rfl) (fun K hK => ?_); (go_simp; try go_bits); refine hK _ ?_; clear hK K
          refine wpR_rd 2 #[true, true, true, false, false, false, false, false, false, false, false, false] rfl onlyN_noPanic (by kernel_rfl) (fun K hK => ?_); (go_simp; try go_bits); refine hK _ ?_; clear hK K
          refine wpR_rd 3 #[true, true, true, true, false, false, false, false, false, false, false, false] rfl onlyN_noPanic (by kernel_rfl) (fun K hK => ?_); (go_simp; try go_bits); refine hK _ ?_; clear hK K
          refine wpR_rd 4 #[true, true, true, true, true, false, false, false, false, false, false, false] rfl onlyN_noPanic (by kernel_rfl) (fun K hK => ?_); (go_simp; try go_bits); refine hK _ ?_; clear hK K
          refine wpR_rd 5 #[true, true, true, true, true, true, false, false, false, false, false, false] rfl onlyN_noPanic (by kernel_rfl) (fun K hK => ?_); (go_simp; try go_bits); refine hK _ ?_; clear hK K
          refine wpR_rd 6 #[true, true, true, true, true, true, true, false, false, false, false, false] rfl onlyN_noPanic (by kernel_rfl) (fun K hK => ?_); (go_simp; try go_bits); refine hK _ ?_; clear hK K
          refine wpR_rd 7 #[true, true, true, true, true, true, true, true, false, false, false, false] rfl onlyN_noPanic (by kernel_rfl) (fun K hK => ?_); (go_simp; try go_bits); refine hK _ ?_; clear hK K
          refine wpR_rd 8 #[true, true, true, true, true, true, true, true, true, false, false, false] rfl onlyN_noPanic (by kernel_rfl) (fun K hK => ?_); (go_simp; try go_bits); refine hK _ ?_; clear hK K
          refine wpR_rd 9 #[true, true, true, true, true, true, true, true, true, true, false, false] rfl onlyN_noPanic (by kernel_rfl) (fun K hK => ?_); (go_simp; try go_bits); refine hK _ ?_; clear hK K
          refine wpR_rd 10 #[true, true, true, true, true, true, true, true, true, true, true, false] rfl onlyN_noPanic (by kernel_rfl) (fun K hK => ?_); (go_simp; try go_bits); refine hK _ ?_; clear hK K
          refine wpR_eff #[true, true, true, true, true, true, true, true, true, true, true, true] (i := 11) rfl (by kernel_rfl) (fun K hK => ?_)
          go_simp; refine hK _ _ ?_; clear hK K
          refine wpR_done (by kernel_rfl) ?_ _
          simp only [OnlyN]
          obtain ⟨h9, hxf1⟩ := HX.out
          obtain ⟨w5, hw5⟩ : ∃ w5, w5 = (w2.setCell ⟨bk, n, none⟩ (.int .u8 (bits .xor .u8 y mask))).drew := ⟨_, rfl⟩
          rw [← hw5] at h9 ⊢
          clear hw5 HX cw g2 f2 
          have g2 := cel_byte_durable h9 hxf1 hn8
          have f2 := cel_thaw h9 (128 + n)
          have h10 := cel_set_durable (h9.drew) hxf1 hn8 (xorB (c.durable.getD n 0) mask)
          have HH := Aside.mk (HR2.out _ h10)
          clear HR2 h9 hxf1 h10
          dsimp only at g2
          generalize c.durable.getD n 0 = y at *
          unfold xorB at HH
          go_wp2
          refine region_R [11] [] (fun _ => True) #[false, false, false, false, false, false, false, false, false, false, false, false] (by kernel_rfl) rfl rfl ?_
          refine wpR_rd 0 #[true, false, false, false, false, false, false, false, false, false, false, false] rfl onlyN_noPanic (by kernel_rfl) (fun K hK => ?_); (go_simp; try go_bits); refine hK _ ?_; clear hK K
          refine wpR_rd 1 #[true, true, false, false, false, false, false, false, false, false, false, false] rfl onlyN_noPanic (by kernel_rfl) (fun K hK => ?_); (go_simp; try go_bits); refine hK _ ?_; clear hK K
          refine wpR_rd 2 #[true, true, true, false, false, false, false, false, false, false, false, false] rfl onlyN_noPanic (by kernel_rfl) (fun K hK => ?_); (go_simp; try go_bits); refine hK _ ?_; clear hK K
          refine wpR_rd 3 #[true, true, true, true, false, false, false, false, false, false, false, false] rfl onlyN_noPanic (by kernel_rfl) (fun K hK => ?_); (go_simp; try go_bits); refine hK _ ?_; clear hK K
          refine wpR_rd 4 #[true, true, true, true, true, false, false, false, false, false, false, false] rfl onlyN_noPanic (by kernel_rfl) (fun K hK => ?_); (go_simp; try go_bits); refine hK _ ?_; clear hK K
          refine wpR_rd 5 #[true, true, true, true, true, true, false, false, false, false, false, false] rfl onlyN_noPanic (by kernel_rfl) (fun K hK => ?_); (go_simp; try go_bits); refine hK _ ?_; clear hK K
          refine wpR_rd 6 #[true, true, true, true, true, true, true, false, false, false, false, false] rfl onlyN_noPanic (by kernel_rfl) (fun K hK => ?_); (go_simp; try go_bits); refine hK _ ?_; clear hK K
          refine wpR_rd 7 #[true, true, true, true, true, true, true, true, false, false, false, false] rfl onlyN_noPanic (by kernel_rfl) (fun K hK => ?_); (go_simp; try go_bits); refine hK _ ?_; clear hK K
          refine wpR_rd 8 #[true, true, true, true, true, true, true, true, true, false, false, false] rfl onlyN_noPanic (by kernel_rfl) (fun K hK => ?_); (go_simp; try go_bits); refine hK _ ?_; clear hK K
          refine wpR_rd 9 #[true, true, true, true, true, true, true, true, true, true, false, false] rfl onlyN_noPanic (by kernel_rfl) (fun K hK => ?_); (go_simp; try go_bits); refine hK _ ?_; clear hK K
          refine wpR_rd 10 #[true, true, true, true, true, true, true, true, true, true, true, false] rfl onlyN_noPanic (by kernel_rfl) (fun K hK => ?_); (go_simp; try go_bits); refine hK _ ?_; clear hK K
          refine wpR_eff #[true, true, true, true, true, true, true, true, true, true, true, true] (i := 11) rfl (by kernel_rfl) (fun K hK => ?_)
          go_simp; refine hK _ _ ?_; clear hK K
          refine wpR_done (by kernel_rfl) ?_ _
          simp only [OnlyN]
          go_wp2
          go_ret
          rw [HT.out]
          exact ⟨rfl, HH.out⟩
end Go.Proofs.YtnpinegpajbkeaaGreatDoor
namespace Go.Proofs.YtnpinegpajbkeaaGreatDoor
open Go.RowKit HP
def mixN (L : List Int) (off : Nat) (O : List Int) : Nat → List Int
  | 0 => L
  | i + 1 => (mixN L off O i).set (off + i) (xorB (L.getD (off + i) 0) (O.getD i 0))
theorem mixN_length (L : List Int) (off : Nat) (O : List Int) : ∀ i, (mixN L off O i).length = L.length
  | 0 => rfl
  | i + 1 => by rw [mixN, List.length_set, mixN_length]
theorem mixN_ge (L : List Int) (off : Nat) (O : List Int) : ∀ i j, off + i ≤ j → (mixN L off O i)[j]? = L[j]?
  | 0, j, _ => rfl
  | i + 1, j, h => by rw [mixN, List.getElem?_set_ne (by omega), mixN_ge L off O i j (by omega)]
theorem mixN_lt (L : List Int) (off : Nat) (O : List Int) : ∀ i j, j < off → (mixN L off O i)[j]? = L[j]?
  | 0, j, _ => rfl
  | i + 1, j, h => by rw [mixN, List.getElem?_set_ne (by omega), mixN_lt L off O i j h]
theorem mixN_in (L : List Int) (off : Nat) (O : List Int) : ∀ i j, j < i → off + i ≤ L.length → (mixN L off O i)[off + j]? = some (xorB (L.getD (off + j) 0) (O.getD j 0))
  | 0, j, h, _ => by omega
  | i + 1, j, h, hl => by
    rcases Nat.lt_or_ge j i with h1 | h1
    · rw [mixN, List.getElem?_set_ne (by omega), mixN_in L off O i j h1 (by omega)]
    · obtain rfl : j = i := by omega
      rw [mixN, List.getElem?_set_self (by rw [mixN_length]; omega)]
theorem run_index_slot (w : World) (O : List Int) (k : Nat) (h : O.length = 106) (hk : k < 106) : (Instr.index 100 (.agg (b8s O).toArray) (.int .i64 (k : Int))).run Tryz.prog w = .ok (.int .u8 (O.getD k 0)) w := by
  have e0 : (0 : Int) ≤ (k : Int) ∧ (k : Int) < 106 := by omega
  have e6 : (sizeOf 5).run Tryz.prog w = .ok 1 w := by kernel_rfl
  have e7 : (isAgg 5).run Tryz.prog w = .ok false w := by kernel_rfl
  have e8 : (b8s O)[k]? = some (.int .u8 (O.getD k 0)) := by
    unfold b8s
    rw [List.getElem?_map, List.getD_eq_getElem?_getD, List.getElem?_eq_getElem (by omega)]
    rfl
  simp [Instr.index, run_underlying Tryz.underlying100, asIntOf, e0, e6, e7, e8, part]
  intro h2
  omega
theorem b8s_setv (L : List Int) (i : Nat) (x : Int) : (b8s L).toArray.setIfInBounds i (.int .u8 x) = (b8s (L.set i x)).toArray := by
  rw [List.setIfInBounds_toArray]
  unfold b8s
  rw [List.map_set]
theorem b8s_getD {L : List Int} {i : Nat} (h : i < L.length) : (b8s L).toArray[i]? = some (.int .u8 (L.getD i 0)) := by
  rw [List.getElem?_toArray]
  unfold b8s
  rw [List.getElem?_map, List.getD_eq_getElem?_getD, List.getElem?_eq_getElem h]
  rfl
set_option maxHeartbeats 2000000 in
set_option maxRecDepth 100000 in
theorem stripe_mix (E : Env) (q : HP) (g off : Nat) (ty : TypeId) (L O : List Int) (w : World) (hO : O.length = 106) (hL : off + 106 ≤ L.length) (hw : Sat E w (HP.pt g (.cells (b8s L).toArray ty) * q)) :
    Calls Tryz.prog 59 #[.pointer (some ⟨g, off, none⟩), .agg (b8s O).toArray] w fun e w' => e = .returned (.tuple #[]) ∧ Sat E w' (HP.pt g (.cells (b8s (mixN L off O 106)).toArray ty) * q) := by
  have h0 := hw.alloc (.cells (b8s O).toArray 100)
  have r0 := run_loadAgg (P := Tryz.prog) agSlot (by rw [b8s_length]; exact hO) (Sat.ptCells (off := 0) (l := b8s O) h0 (by rw [List.drop_zero, List.take_length]))
  have HL := Aside.mk hL
  have HIX := Aside.mk (fun (w : World) (k : Nat) (hk : k < 106) => run_index_slot w O k hO hk)
  have H0 : Aside (Sat E (w.alloc (.cells (b8s O).toArray 100)) (HP.pt g (.cells (b8s (mixN L off O 0)).toArray ty) * (HP.pt w.heap.size (.cells (b8s O).toArray 100) * q))) := ⟨h0.perm (by show HP.pt _ _ * (HP.pt g (.cells (b8s L).toArray ty) * q) = HP.pt g (.cells (b8s L).toArray ty) * (_ * q); ac_rfl)⟩
  clear hw h0 hL hO
  obtain ⟨C, hC⟩ : ∃ C, C = (b8s O).toArray := ⟨_, rfl⟩
  rw [← hC] at H0 HIX r0 ⊢
  clear hC
  go_enter Tryz.func59, Tryz.ntmps59
  go_wp2_with (first | (refine wpList_load_run rfl rfl rfl r0 ?_))
  go_loopw [7] (fun v7 wr => ∃ k : Nat, k ≤ 106 ∧ v7 = .int .i64 k ∧ Aside (Sat E wr (HP.pt g (.cells (b8s (mixN L off O k)).toArray ty) * (HP.pt w.heap.size (.cells C 100) * q)))) (fun i _ => 106 - (intOf i).toNat)
  case atStart => exact ⟨0, by omega, rfl, H0⟩
  case round =>
    clear H0
    obtain ⟨k, hk, rfl, HS⟩ := hrel
    by_cases hlt : k < 106
    · have hlt2 : (k : Int) < 106 := by omega
      have ix := HIX.out wr k hlt
      have hki : off + k < (mixN L off O k).length := by rw [mixN_length]; have := HL.out; omega
      have gc : wr.drew.cell? ⟨g, off + k, none⟩ = some (.int .u8 (L.getD (off + k) 0)) := by
        rw [HS.out.drew.cell (off + k), b8s_getD hki, List.getD_eq_getElem?_getD, mixN_ge L off O k (off + k) (Nat.le_refl _), ← List.getD_eq_getElem?_getD]
      have gf : wr.drew.frozen? ⟨g, off + k, none⟩ = false := HS.out.drew.thaw (off + k)
      have H2 : Aside (Sat E (wr.drew.setCell ⟨g, off + k, none⟩ (.int .u8 (xorB (L.getD (off + k) 0) (O.getD k 0)))) (HP.pt g (.cells (b8s (mixN L off O (k + 1))).toArray ty) * (HP.pt w.heap.size (.cells C 100) * q))) := ⟨by
        have h := HS.out.drew.set (i := off + k) (.int .u8 (xorB (L.getD (off + k) 0) (O.getD k 0)))
        rw [b8s_setv] at h
        exact h⟩
      clear HS hki
      generalize L.getD (off + k) 0 = x at *
      generalize O.getD k 0 = y at *
      unfold xorB at H2
      go_wp2
      refine region_R [9] [] (fun _ => True) #[false, false, false, false, false, false, false, false, false, false] (by kernel_rfl) rfl rfl ?_
      refine wpR_rd 0 #[true, false, false, false, false, false, false, false, false, false] rfl onlyN_noPanic (by kernel_rfl) (fun K hK => ?_); (go_simp; try go_bits); refine hK _ ?_; clear hK K
      refine wpR_rd 1 #[true, true, false, false, false, false, false, false, false, false] rfl onlyN_noPanic (by kernel_rfl) (fun K hK => ?_); (go_simp; try go_bits); refine hK _ ?_; clear hK K
      refine wpR_rd 2 #[true, true, true, false, false, false, false, false, false, false] rfl onlyN_noPanic (by kernel_rfl) (fun K hK => ?_); (go_simp; try go_bits); refine hK _ ?_; clear hK K
      refine wpR_rd 3 #[true, true, true, true, false, false, false, false, false, false] rfl onlyN_noPanic (by kernel_rfl) (fun K hK => ?_); (go_simp; try go_bits); refine hK _ ?_; clear hK K
      refine wpR_rd 4 #[true, true, true, true, true, false, false, false, false, false] rfl onlyN_noPanic (by kernel_rfl) (fun K hK => ?_); (go_simp; try go_bits); refine hK _ ?_; clear hK K
      refine wpR_rd 5 #[true, true, true, true, true, true, false, false, false, false] rfl onlyN_noPanic (by kernel_rfl) (fun K hK => ?_); (go_simp; try go_bits); refine hK _ ?_; clear hK K
      refine wpR_rd 6 #[true, true, true, true, true, true, true, false, false, false] rfl onlyN_noPanic (by kernel_rfl) (fun K hK => ?_); (go_simp; try go_bits); refine hK _ ?_; clear hK K
      refine wpR_rd 7 #[true, true, true, true, true, true, true, true, false, false] rfl onlyN_noPanic (by kernel_rfl) (fun K hK => ?_); (go_simp; try go_bits); refine hK _ ?_; clear hK K
      refine wpR_rd 8 #[true, true, true, true, true, true, true, true, true, false] rfl onlyN_noPanic (by kernel_rfl) (fun K hK => ?_); (go_simp; try go_bits); refine hK _ ?_; clear hK K
      refine wpR_eff #[true, true, true, true, true, true, true, true, true, true] (i := 9) rfl (by kernel_rfl) (fun K hK => ?_)
      go_simp; refine hK _ _ ?_; clear hK K
      refine wpR_done (by kernel_rfl) ?_ _
      simp only [OnlyN]
      go_wp2
      go_roundw
      case rel => exact ⟨k + 1, by omega, by push_cast; rfl, H2⟩
      case measure => simp [intOf]; omega
    · obtain rfl : k = 106 := by omega
      go_wp2
      exact ⟨rfl, .tuple #[], by first | rfl | (unfold results; rw [show Tryz.f59.results = #[] by kernel_rfl]; simp), rfl, HS.out.drop2⟩
def putP (A : Dk) (name : ByteArray) (i gen : Int) (p : List Int) : Int × Dk := if FrameOk i gen p.length then wrP A name i.toNat gen.toNat [p] else (1, A)
def dropL (A : Dk) : List ByteArray → Int × Dk
  | [] => (0, A)
  | f :: r => if (A.at f).length = 0 then dropL A r else if (A.remove f).1 = 0 then dropL (A.remove f).2 r else A.remove f
def dropP (A : Dk) (name : ByteArray) : Int × Dk := dropL A (halvesL name)
def needI (n : Int) : Int := if n ≤ 0 then 2 else 2 * ((n - 1) / 106 + 1)
end Go.Proofs.YtnpinegpajbkeaaGreatDoor
namespace Go.Proofs.YtnpinegpajbkeaaGreatDoor
open Go.RowKit Go.Shelf HP
attribute [local go_sem] Oper.semAt_some
def chunkN (n : Nat) : Nat := (n + 105) / 106
def chunkM (n k : Nat) : Nat := min 106 (n - 106 * k)
def chunkV (g o n k : Nat) : Value := .slice (some ⟨g, o + 106 * k, none⟩) (chunkM n k) (chunkM n k)
def Keep2 (b1 b2 : Nat) (W W' : World) : Prop := W'.heap[b1]? = W.heap[b1]? ∧ W'.heap[b2]? = W.heap[b2]?
theorem Keep2.refl {b1 b2 : Nat} (W : World) : Keep2 b1 b2 W W := ⟨rfl, rfl⟩
theorem Keep2.trans {b1 b2 : Nat} {W X Y : World} (h : Keep2 b1 b2 W X) (k : Keep2 b1 b2 X Y) : Keep2 b1 b2 W Y := ⟨k.1.trans h.1, k.2.trans h.2⟩
end Go.Proofs.YtnpinegpajbkeaaGreatDoor
namespace Go.Proofs.YtnpinegpajbkeaaGreatDoor
open Go.RowKit Go.Shelf HP
attribute [local go_sem] Oper.semAt_some
def HP.gath (bb : Nat) (l : List Value) : HP := HP.ex fun v => HP.pt bb (.cells #[v] 111) * HP.row 43 1 v l.length l
end Go.Proofs.YtnpinegpajbkeaaGreatDoor
namespace Go.Proofs.YtnpinegpajbkeaaGreatDoor
open Go.RowKit HP
def piece (l : List Int) (k : Nat) : List Int := (l.drop (106 * k)).take 106
def piecesI (l : List Int) : List (List Int) := if l.length = 0 then [[]] else (List.range (chunkN l.length)).map (piece l)
def storeP (A : Dk) (name : ByteArray) (gen : Nat) (l : List Int) : Int × Dk := if (dropP A name).1 = 0 then wrP (dropP A name).2 name 0 gen (piecesI l) else dropP A name
def pieceS (g o : Nat) (l : List Int) (k : Nat) : Sl Int := ⟨some ⟨g, o + 106 * k, none⟩, chunkM l.length k, piece l k⟩
end Go.Proofs.YtnpinegpajbkeaaGreatDoor
