/- DiskStays: the walk. -/
import Derived.Test.YtgdcdcacccaanaaDiskM
namespace Go.Proofs.Ytgdcdcacccaanaa
open Go.RowKit HP
set_option linter.unusedSimpArgs false
set_option linter.unusedVariables false

def nX : ByteArray := ⟨#[120]⟩
def nY : ByteArray := ⟨#[121]⟩
theorem nX_named : namedB nX = true := by kernel_rfl
theorem nY_named : namedB nY = true := by kernel_rfl
theorem nX_list : nX.toList = [120] := by rw [ByteArray.toList_eq]; rfl
theorem nY_list : nY.toList = [121] := by rw [ByteArray.toList_eq]; rfl
theorem nXY : nX ≠ nY := by decide
/-- What holds while other files are written. -/
structure StaysInv (A : Dk) (full other : List Int) : Prop where
  fuse : A.fuse = -1
  x : lk A.files nX = some [⟨full, full, full, full, false⟩]
  y : lk A.files nY = some [Cel.zero.wrote other]
theorem zeros_drop (n : Nat) : b8s (z128.drop n) = List.replicate (128 - n) (Value.int .u8 0) := by
  unfold b8s z128
  rw [List.drop_replicate, List.map_replicate]
def stA (full : List Int) : Dk := (Dk.new 10).set nX [Cel.zero.wrote full]
def stB (full : List Int) : Dk := (stA full).set nX [⟨full, full, full, full, false⟩]
def stC (full other : List Int) : Dk := (stB full).set nY [Cel.zero.wrote other]
theorem st1 {full : List Int} (h : full.length = 128) : (Dk.new 10).write nX 0 full = (0, stA full) := write_first nX_named h rfl (by show (0 : Int) < 10; omega) rfl
theorem st2 (full : List Int) : (stA full).sync nX = (0, stB full) := by
  have := sync_some (A := stA full) (s := nX) (l := [Cel.zero.wrote full]) (by simp [stA, Dk.set, Dk.new, putF, lk_cons]) rfl
  rw [this]; rfl
theorem stB_files (full : List Int) : (stB full).files = [(nX, [⟨full, full, full, full, false⟩])] := by simp [stB, stA, Dk.set, Dk.new, putF]
theorem st3 {full other : List Int} (h : other.length = 128) : (stB full).write nY 0 other = (0, stC full other) :=
  write_first nY_named h (by unfold Dk.at; rw [stB_files, lk_cons, if_neg nXY]; rfl) (by unfold Dk.free; rw [stB_files]; show (0 : Int) < 10 - _; simp [sizeF]) rfl
theorem stC_inv (full other : List Int) : StaysInv (stC full other) full other := by
  have hs : Sorted (stB full).files := by rw [stB_files]; exact List.pairwise_singleton _ _
  refine ⟨rfl, ?_, ?_⟩
  · unfold stC
    rw [lk_set hs, if_neg (Ne.symm nXY), stB_files, lk_cons, if_pos rfl]
  · unfold stC
    rw [lk_set hs, if_pos rfl]
theorem stays_crash {A : Dk} {full other : List Int} (h : StaysInv A full other) (L : Nat) (nn : Nat) (hn : nn = min L 128) (ho : other.length = 128) :
    (A.crash [⟨nY, 0, L⟩]).cel nX 0 = some ⟨full, full, full, full, false⟩ ∧ ∃ c, (A.crash [⟨nY, 0, L⟩]).cel nY 0 = some c ∧ c.read = other.take nn ++ z128.drop nn := by
  have e : ∀ s, lk (A.crash [⟨nY, 0, L⟩]).files s = (lk A.files s).map (crashL [⟨nY, 0, L⟩] s) := fun s => lk_map (crashL [⟨nY, 0, L⟩]) A.files s
  constructor
  · have h1 : lk (A.crash [⟨nY, 0, L⟩]).files nX = some [⟨full, full, full, full, false⟩] := by rw [e, h.x]; rfl
    have := cel_at h1 0
    rw [show ((0 : Nat) : Int) = 0 from rfl] at this
    rw [this]; rfl
  · have hk : keepOf [⟨nY, 0, L⟩] nY 0 = (nn : Int) := by
      unfold keepOf
      simp only [List.find?_cons, decide_true, Bool.and_self]
      unfold clampK
      omega
    have h1 : lk (A.crash [⟨nY, 0, L⟩]).files nY = some [(Cel.zero.wrote other).crashd (nn : Int)] := by
      rw [e, h.y]
      simp only [Option.map_some, crashL, List.mapIdx_cons, List.mapIdx_nil]
      rw [show ((0 : Nat) : Int) = 0 from rfl, hk]
    have := cel_at h1 0
    rw [show ((0 : Nat) : Int) = 0 from rfl] at this
    refine ⟨_, this, ?_⟩
    simp [Cel.crashd, Cel.wrote, Cel.zero]
set_option maxHeartbeats 4000000 in
set_option maxRecDepth 100000 in
theorem stays_ok (E : Env) (q : HP) (a b keep : Sl Int) (more : Sl StepV) (w : World) (ha : a.l.length ≤ a.cap) (hb : b.l.length ≤ b.cap) (hm : more.l.length ≤ maxLen) (hkl : keep.l.length ≤ maxLen) (hab : Bytes a.l) (hbb : Bytes b.l) (hok : ∀ s ∈ more.l, s.b.l.length ≤ s.b.cap ∧ s.name.size ≤ maxLen ∧ wf64 s.op ∧ wf64 s.i)
    (hq : ∀ E w, Sat E w q → Cells w a.A (b8s a.l) ∧ Cells w b.A (b8s b.l) ∧ Cells w more.A (more.l.flatMap StepV.vals) ∧ ∀ s ∈ more.l, Cells w s.b.A (b8s s.b.l)) (hw : Sat E w q) :
    Calls Try.prog 3 #[a.val, b.val, keep.val, more.val] w fun e w' => e = .returned (.bool true) ∧ Sat E w' q := by
  unfold Sl.val
  unfold maxLen at hm hkl
  have HQ := Aside.mk hq
  have HOK := Aside.mk (And.intro hok (And.intro hab hbb))
  clear hq hok hab hbb
  go_enter Try.func3, Try.ntmps3
  go_wp2_with fail
  refine (disk_new_ok E q 10 w (by omega) hw).mono ?_
  rintro e w1 ⟨d, rfl, h1⟩
  clear hw
  have H1 := Aside.mk h1
  clear h1
  go_wp2_with (first
    | (refine wpList_make_row (o := ⟨some 29, _, _, _, _, _⟩) (n := 128) slB8 rfl rfl rfl rfl rfl H1.out (by unfold maxLen; omega) (by omega) (fun gF w2 hw2 => ?_); have H2 := Aside.mk hw2; clear hw2 H1)
    | (refine wpList_copy_sat (o := ⟨some 32, _, _, _, _, _⟩) Try.underlying22 (by kernel_rfl) rfl rfl rfl rfl H2.out (b8s_length _) (HQ.out _ _ H2.out.right.right).1 (b8s_one _) (fun w3 hw3 => ?_); rw [full_cells] at hw3; have H3 := Aside.mk hw3; clear hw3 H2)
    | (refine wpList_make_row (o := ⟨some 33, _, _, _, _, _⟩) (n := 128) slB8 rfl rfl rfl rfl rfl H3.out (by unfold maxLen; omega) (by omega) (fun gG w4 hw4 => ?_); have H4 := Aside.mk hw4; clear hw4 H3)
    | (refine wpList_copy_sat (o := ⟨some 36, _, _, _, _, _⟩) Try.underlying22 (by kernel_rfl) rfl rfl rfl rfl H4.out (b8s_length _) (HQ.out _ _ H4.out.right.right.right).2.1 (b8s_one _) (fun w5 hw5 => ?_); rw [full_cells] at hw5; have H5 := Aside.mk hw5; clear hw5 H4)
    | fail)
  generalize hF : fullOf a.l = full at *
  generalize hG : fullOf b.l = other at *
  have hFl : full.length = 128 := by rw [← hF]; exact fullOf_length _
  have hGl : other.length = 128 := by rw [← hG]; exact fullOf_length _
  have HL := Aside.mk (And.intro hFl hGl)
  have HBy : Aside (Bytes full ∧ Bytes other) := ⟨by rw [← hF]; exact fullOf_bytes HOK.out.2.1, by rw [← hG]; exact fullOf_bytes HOK.out.2.2⟩
  have h5 : Sat E w5 (HP.disk d (Dk.new 10) * (HP.row 5 1 (.slice (some ⟨gF, 0, none⟩) 128 128) 128 (b8s full) * (HP.row 5 1 (.slice (some ⟨gG, 0, none⟩) 128 128) 128 (b8s other) * q))) := H5.out.perm (by ac_rfl)
  clear hF hG hFl hGl H5
  refine (disk_write E _ d (Dk.new 10) nX 0 (some ⟨gF, 0, none⟩) full 128 128 w5 (by decide) HL.out.1 (by unfold maxLen; omega) (fun w h => h.row_cells) h5).mono ?_
  rw [st1 HL.out.1]
  rintro e w6 ⟨rfl, h6⟩
  clear h5
  go_wp2_with fail
  refine (disk_sync E _ d _ nX w6 (by decide) h6).mono ?_
  rw [st2]
  rintro e w7 ⟨rfl, h7⟩
  clear h6
  go_wp2_with fail
  have h7 : Sat E w7 (HP.disk d (stB full) * (HP.row 5 1 (.slice (some ⟨gG, 0, none⟩) 128 128) 128 (b8s other) * (HP.row 5 1 (.slice (some ⟨gF, 0, none⟩) 128 128) 128 (b8s full) * q))) := h7.perm (by ac_rfl)
  refine (disk_write E _ d _ nY 0 (some ⟨gG, 0, none⟩) other 128 128 w7 (by decide) HL.out.2 (by unfold maxLen; omega) (fun w h => h.row_cells) h7).mono ?_
  rw [st3 HL.out.2]
  rintro e w8 ⟨rfl, h8⟩
  clear h7
  have H8 := Aside.mk h8
  clear h8
  generalize hN : more.l.length = n at *
  have HN := Aside.mk hN
  clear hN
  go_wp2
  go_loopw [54] (fun x wr => ∃ (k : Nat) (A : Dk), x = .int .i64 k ∧ k ≤ n ∧ Aside (StaysInv A full other) ∧ Aside (Sat E wr (HP.disk d A * (HP.row 5 1 (.slice (some ⟨gG, 0, none⟩) 128 128) 128 (b8s other) * (HP.row 5 1 (.slice (some ⟨gF, 0, none⟩) 128 128) 128 (b8s full) * q))))) (fun x _ => n - (intOf x).toNat)
  case atStart => exact ⟨0, _, rfl, Nat.zero_le _, ⟨stC_inv _ _⟩, H8⟩
  case round =>
    clear H8
    obtain ⟨k, A, rfl, hk, HI, HS⟩ := hrel
    by_cases hlt : k < n
    · obtain ⟨s, hs⟩ : ∃ s, more.l[k]? = some s := ⟨_, List.getElem?_eq_getElem (by rw [HN.out]; exact hlt)⟩
      have hcm := (HQ.out _ _ HS.out.right.right.right).2.2.1
      have hg := fun j (hj : j < 8) => flat_get StepV.vals 8 more.l (fun _ => rfl) k j s hs hj
      have g0 := hg 0 (by omega)
      have g1 := hg 1 (by omega)
      have g2 := hg 2 (by omega)
      have g3 := hg 3 (by omega)
      have g4 := hg 4 (by omega)
      have g5 := hg 5 (by omega)
      have g6 := hg 6 (by omega)
      have g7 := hg 7 (by omega)
      obtain ⟨pa, hpa, -⟩ := hcm _ _ g0
      obtain ⟨g, o, rfl⟩ : ∃ g o, pa = ⟨g, o, none⟩ := slice_addr hcm hpa (List.getElem?_eq_some_iff.1 g0).1
      rw [hpa] at hcm
      have g0 := hcm.some_ _ _ g0
      have g1 := hcm.some_ _ _ g1
      have g2 := hcm.some_ _ _ g2
      have g3 := hcm.some_ _ _ g3
      have g4 := hcm.some_ _ _ g4
      have g5 := hcm.some_ _ _ g5
      have g6 := hcm.some_ _ _ g6
      have g7 := hcm.some_ _ _ g7
      rw [addr_add] at g0 g1 g2 g3 g4 g5 g6 g7
      simp only [Nat.add_zero, ← Nat.add_assoc, Sl.val] at g0 g1 g2 g3 g4 g5 g6 g7
      clear hg hcm
      rw [hpa]
      have hk0 : (0 : Int) ≤ (k : Int) := by omega
      have hk1 : (k : Int) < (n : Int) := by omega
      by_cases h20 : k < 20
      · have h20' : (k : Int) < 20 := by omega
        have hsm : s ∈ more.l := List.mem_of_getElem? hs
        obtain ⟨hsb, hsn, -, -⟩ := HOK.out.1 s hsm
        have hB := HS.out.alloc (.cells #[.int .i64 s.op, .int .i64 s.i, .int .i64 s.at_, .int .i64 s.n, .string s.name, .slice s.b.A s.b.l.length s.b.cap, .int .u8 s.mask, .slice s.kept.A s.kept.l.length s.kept.cap] 32)
        have HB := Aside.mk hB
        clear hB h7 hs
        go_wp2
        all_goals first
          | exact ⟨⟨k + 1, A, by go_num, by omega, HI, ⟨HB.out.right⟩⟩, by simp [intOf]; omega⟩
          | skip
        have hx : ¬ s.name.toList = [120] := by assumption
        have hy : ¬ s.name.toList = [121] := by assumption
        have hx : nX ≠ s.name := fun h => hx (by rw [← h]; exact nX_list)
        have hy : nY ≠ s.name := fun h => hy (by rw [← h]; exact nY_list)
        have hB := HB.out
        generalize wr.heap.size = B at *
        generalize World.alloc wr _ = w8 at *
        have c0 := hB.cell 0
        have c1 := hB.cell 1
        have c2 := hB.cell 2
        have c3 := hB.cell 3
        have c4 := hB.cell 4
        have c5 := hB.cell 5
        have c6 := hB.cell 6
        have c7 := hB.cell 7
        simp only [List.getElem?_toArray, List.getElem?_cons_zero, List.getElem?_cons_succ] at c0 c1 c2 c3 c4 c5 c6 c7
        clear g0 g1 g2 g3 g4 g5 g6 g7
        refine region_R [6, 7] [6] (fun w' => w'.cell? ⟨B, 4, none⟩ = some (.string s.name) ∧ w'.cell? ⟨B, 1, none⟩ = some (.int .i64 s.i)) #[false, false, false, false, false, false, false, false] (by kernel_rfl) rfl rfl ?_
        refine wpR_pu 0 #[true, false, false, false, false, false, false, false] rfl onlyN_noPanic (by kernel_rfl) (fun K hK => ?_); (go_simp; try go_bits); refine hK _ ?_; clear hK K
        refine wpR_pu 1 #[true, true, false, false, false, false, false, false] rfl onlyN_noPanic (by kernel_rfl) (fun K hK => ?_); (go_simp; try go_bits); refine hK _ ?_; clear hK K
        refine wpR_held (i := 2) (v := .string s.name) #[true, true, true, false, false, false, false, false] rfl onlyN_noPanic (by kernel_rfl) ⟨c4, c1⟩ (.inl ⟨rfl, fun w' hT => ?_⟩) ?_
        · obtain ⟨t1, t2⟩ := hT
          go_simp
        simp only [Act.put, List.setIfInBounds_toArray, List.set_cons_zero, List.set_cons_succ]
        refine wpR_pu 3 #[true, true, true, true, false, false, false, false] rfl onlyN_noPanic (by kernel_rfl) (fun K hK => ?_); (go_simp; try go_bits); refine hK _ ?_; clear hK K
        refine wpR_held (i := 4) (v := .int .i64 s.i) #[true, true, true, true, true, false, false, false] rfl onlyN_noPanic (by kernel_rfl) ⟨c4, c1⟩ (.inl ⟨rfl, fun w' hT => ?_⟩) ?_
        · obtain ⟨t1, t2⟩ := hT
          go_simp
        simp only [Act.put, List.setIfInBounds_toArray, List.set_cons_zero, List.set_cons_succ]
        refine wpR_rd 5 #[true, true, true, true, true, true, false, false] rfl onlyN_noPanic (by kernel_rfl) (fun K hK => ?_); (go_simp; try go_bits); refine hK _ ?_; clear hK K
        refine wpR_keep #[true, true, true, true, true, true, true, false] (i := 6) rfl (by kernel_rfl) (fun K hK => ?_)
        go_simp
        refine (full_ok E _ s _ hsb (fun E' w' h => (HQ.out E' w' h.right.right.right.right).2.2.2 s hsm) hB.drew).mono ?_
        rintro e w9 ⟨gS, rfl, h9⟩
        have c4 := (h9.s2).cell 4
        have c1 := (h9.s2).cell 1
        simp only [List.getElem?_toArray, List.getElem?_cons_zero, List.getElem?_cons_succ] at c4 c1
        refine hK _ _ ⟨c4, c1⟩ ?_
        clear hK K
        refine wpR_eff #[true, true, true, true, true, true, true, true] (i := 7) rfl (by kernel_rfl) (fun K hK => ?_)
        go_simp
        have hd9 : Sat E w9 (HP.disk d A * (HP.row 5 1 (.slice (some ⟨gS, 0, none⟩) 128 128) 128 (b8s (fullOf s.b.l)) * (HP.row 5 1 (.slice (some ⟨gG, 0, none⟩) 128 128) 128 (b8s other) * (HP.row 5 1 (.slice (some ⟨gF, 0, none⟩) 128 128) 128 (b8s full) * q)))) := (h9.drop2).perm (by ac_rfl)
        refine (disk_write E _ d A s.name s.i (some ⟨gS, 0, none⟩) (fullOf s.b.l) 128 128 w9 hsn (fullOf_length _) (by unfold maxLen; omega) (fun w h => h.row_cells) hd9).mono ?_
        rintro e w10 ⟨rfl, h10⟩
        refine hK _ _ ?_
        clear hK K
        refine wpR_done (by kernel_rfl) ?_ _
        simp only [OnlyN]
        have HI2 : Aside (StaysInv (A.write s.name s.i (fullOf s.b.l)).2 full other) := ⟨by
          have hf := (h9.s3.disk_fine).sorted
          exact ⟨write_forever HI.out.fuse, by rw [write_other hf (Ne.symm hx)]; exact HI.out.x, by rw [write_other hf (Ne.symm hy)]; exact HI.out.y⟩⟩
        have H10 := Aside.mk h10.drop2
        clear h9 hd9 h10 hB HB c0 c1 c2 c3 c4 c5 c6 c7
        go_wp2
        go_roundw
        case rel => exact ⟨k + 1, _, by go_num, by omega, HI2, H10⟩
        case measure => simp [intOf]; omega
      · have h20' : ¬ (k : Int) < 20 := by omega
        have hB := HS.out.alloc (.cells #[.int .i64 s.op, .int .i64 s.i, .int .i64 s.at_, .int .i64 s.n, .string s.name, .slice s.b.A s.b.l.length s.b.cap, .int .u8 s.mask, .slice s.kept.A s.kept.l.length s.kept.cap] 32)
        have HB := Aside.mk hB
        clear hB h7 hs
        go_wp2
        go_roundw
        case rel => exact ⟨k + 1, A, by go_num, by omega, HI, ⟨HB.out.right⟩⟩
        case measure => simp [intOf]; omega
    · clear h7 HN
      generalize hL : keep.l.length = L at *
      obtain ⟨nn, hnn⟩ : ∃ nn, nn = min L 128 := ⟨_, rfl⟩
      have hmin : (if 128 < (L : Int) then (128 : Int) else (L : Int)) = (nn : Int) := by split <;> omega
      have hn8 : nn ≤ 128 := by omega
      obtain ⟨hcx, cy, hcy, hry⟩ := stays_crash HI.out L nn hnn HL.out.2
      have HM := Aside.mk (And.intro hmin (And.intro hcx (And.intro hcy hry)))
      have hLm : L ≤ 9223372036854775807 := by omega
      have HLM := Aside.mk hLm
      clear hmin hcx hcy hry hnn hkl hL hLm HI
      have h9 := HS.out.alloc (.cells #[.string ⟨#[121]⟩, .int .i64 0, .int .i64 L] 37)
      have H9 := Aside.mk h9
      clear h9 HS
      go_wp2_with fail
      generalize wr.heap.size = B at *
      generalize World.alloc wr _ = w9 at *
      have hKc : Cells w9 (some ⟨B, 0, none⟩) (kepCells [⟨nY, 0, L⟩]) := fun j u hj => ⟨_, rfl, by
        rw [addr_add, Nat.zero_add, H9.out.cell]
        rw [List.getElem?_toArray]
        exact hj⟩
      refine (disk_crash E _ d A (some ⟨B, 0, none⟩) [⟨nY, 0, L⟩] 1 w9 (by simp) (fun k hk => by
        simp only [List.mem_singleton] at hk
        subst hk
        have := HLM.out
        exact ⟨by show nY.size ≤ maxLen; decide, by show wf64 0; unfold wf64; omega, by show wf64 (L : Int); unfold wf64; omega⟩) (fun E' w' h => fun j u hj => ⟨_, rfl, by
        have h2 : Sat E' w' (HP.pt B (.cells #[.string nY, .int .i64 0, .int .i64 L] 37) * (HP.row 5 1 (.slice (some ⟨gG, 0, none⟩) 128 128) 128 (b8s other) * (HP.row 5 1 (.slice (some ⟨gF, 0, none⟩) 128 128) 128 (b8s full) * q))) := h
        rw [addr_add, Nat.zero_add, h2.cell]
        rw [List.getElem?_toArray]
        exact hj⟩) (H9.out.s2)).mono ?_
      rintro e w10 ⟨rfl, h10⟩
      have H10 := Aside.mk h10
      clear hKc H9 h10
      go_wp2_with fail
      refine (disk_read_ok E _ d _ nX 0 w10 (by decide) H10.out).mono ?_
      rw [HM.out.2.1]
      rintro e w11 ⟨vx, rfl, h11⟩
      obtain ⟨Ax, cx, rfl, hcx, -⟩ := h11.row_slice
      have H11 := Aside.mk h11
      clear H10 h11
      go_wp2_with fail
      refine (disk_read_ok E _ d _ nY 0 w11 (by decide) H11.out.s2).mono ?_
      rw [HM.out.2.2.1]
      rintro e w12 ⟨vy, rfl, h12⟩
      obtain ⟨Ay, cyy, rfl, hcy, -⟩ := h12.row_slice
      rw [HM.out.2.2.2] at h12
      have H12 := Aside.mk h12
      clear H11 h12
      have hmin := HM.out.1
      clear HM
      go_wp2
      have hyr := H12.out.row_cells
      have hlt1 : (other.take nn).length = nn := by rw [List.length_take, HL.out.2]; omega
      have hzl : (z128.drop nn).length = 128 - nn := by unfold z128; simp
      have hyl : (b8s (other.take nn ++ z128.drop nn)).length = 128 := by rw [b8s_length, List.length_append, hlt1, hzl]; omega
      obtain ⟨gy, oy, hya⟩ : ∃ g o, Ay = some ⟨g, o, none⟩ := by
        obtain ⟨ay, hay, -⟩ := hyr.at_ 0 (by rw [hyl]; omega)
        obtain ⟨g, o, rfl⟩ := slice_addr hyr hay (k := 0) (by rw [hyl]; omega)
        exact ⟨g, o, hay⟩
      subst hya
      have hHy : ∀ W, Sat E W (HP.row 5 1 (.slice (some ⟨gy, oy, none⟩) 128 cyy) 128 (b8s (other.take nn ++ z128.drop nn)) * (HP.disk d (A.crash [⟨nY, 0, L⟩]) * (HP.row 5 1 (.slice Ax 128 cx) 128 (b8s full) * (HP.pt B (.cells #[.string ⟨#[121]⟩, .int .i64 0, .int .i64 L] 37) * (HP.row 5 1 (.slice (some ⟨gG, 0, none⟩) 128 128) 128 (b8s other) * (HP.row 5 1 (.slice (some ⟨gF, 0, none⟩) 128 128) 128 (b8s full) * q)))))) →
          Cells W (some ⟨gy, oy, none⟩) (b8s (other.take nn)) ∧ Cells W (some ⟨gy, oy + nn, none⟩) (b8s (z128.drop nn)) := fun W h => by
        have h1 := h.row_cells
        have e : b8s (other.take nn ++ z128.drop nn) = b8s (other.take nn) ++ b8s (z128.drop nn) := by simp [b8s]
        rw [e] at h1
        have h2 := h1.take nn
        have h3 := h1.drop nn
        rw [List.take_append_of_le_length (by rw [b8s_length, hlt1]; omega), List.take_of_length_le (by rw [b8s_length, hlt1]; omega)] at h2
        rw [List.drop_append_of_le_length (by rw [b8s_length, hlt1]; omega), List.drop_eq_nil_of_le (by rw [b8s_length, hlt1]; omega), List.nil_append] at h3
        rw [addr_add] at h3
        exact ⟨h2, h3⟩
      have hws : IntKind.i64.wrap (128 - (nn : Int)) = ((128 - nn : Nat) : Int) := by rw [IntWalk.i64_in _ (by omega)]; omega
      have hbt : Bytes (other.take nn) := fun x hx => HBy.out.2 x (List.mem_of_mem_take hx)
      have hbz : Bytes (z128.drop nn) := fun x hx => z128_bytes x (List.mem_of_mem_drop hx)
      have hox : ∀ W, Sat E W (HP.row 5 1 (.slice (some ⟨gG, 0, none⟩) 128 128) 128 (b8s other) * (HP.row 5 1 (.slice (some ⟨gF, 0, none⟩) 128 128) 128 (b8s full) * q)) → Cells W (some ⟨gG, 0, none⟩) (b8s (other.take nn)) := fun W h => by
        have h1 := h.row_cells.take nn
        have e : (b8s other).take nn = b8s (other.take nn) := by simp [b8s]
        rwa [e] at h1
      have hd := H12.out.drew
      have HC := Aside.mk (And.intro (hd.right.s2.row_cells : Cells w12.drew Ax (b8s full)) (And.intro ((hd.right.right.right.right.s2.row_cells : Cells w12.drew (some ⟨gF, 0, none⟩) (b8s full))) (And.intro (hHy _ hd).1 (And.intro (hox _ hd.right.right.right.right) (And.intro HBy.out.1 (And.intro hlt1 (And.intro hbt (And.intro hzl (And.intro hbz hHy)))))))))
      have hzr := zeros_drop nn
      obtain ⟨zz, hzz⟩ : ∃ zz, zz = z128.drop nn := ⟨_, rfl⟩
      rw [← hzz] at HC hzr H12
      have HZ := Aside.mk (And.intro hzr hzz)
      clear hzr hzz hyr hlt1 hzl hyl hHy hbt hbz hox hd hmin hlt hk HLM
      have hk0 : (0 : Int) ≤ (nn : Int) := by omega
      have hk1 : (nn : Int) ≤ 128 := by omega
      have hk2 : (nn : Int) ≤ (cyy : Int) := by omega
      have hk3 : (128 : Int) ≤ (cyy : Int) := by omega
      have hk4 : (0 : Int) ≤ ((128 - nn : Nat) : Int) := by omega
      by_cases hcap : cyy = nn
      · obtain rfl : nn = 128 := by omega
        obtain rfl : cyy = 128 := hcap
        refine region_R [9, 18, 26, 27] [] (fun _ => True) #[false, false, false, false, false, false, false, false, false, false, false, false, false, false, false, false, false, false, false, false, false, false, false, false, false, false, false, false, false, false] (by kernel_rfl) rfl rfl ?_
        refine wpR_rd 0 #[true, false, false, false, false, false, false, false, false, false, false, false, false, false, false, false, false, false, false, false, false, false, false, false, false, false, false, false, false, false] rfl onlyN_noPanic (by kernel_rfl) (fun K hK => ?_); (go_simp; try go_bits); refine hK _ ?_; clear hK K
        refine wpR_rd 1 #[true, true, false, false, false, false, false, false, false, false, false, false, false, false, false, false, false, false, false, false, false, false, false, false, false, false, false, false, false, false] rfl onlyN_noPanic (by kernel_rfl) (fun K hK => ?_); (go_simp; try go_bits); refine hK _ ?_; clear hK K
        refine wpR_rd 2 #[true, true, true, false, false, false, false, false, false, false, false, false, false, false, false, false, false, false, false, false, false, false, false, false, false, false, false, false, false, false] rfl onlyN_noPanic (by kernel_rfl) (fun K hK => ?_); (go_simp; try go_bits); refine hK _ ?_; clear hK K
        refine wpR_rd 3 #[true, true, true, true, false, false, false, false, false, false, false, false, false, false, false, false, false, false, false, false, false, false, false, false, false, false, false, false, false, false] rfl onlyN_noPanic (by kernel_rfl) (fun K hK => ?_); (go_simp; try go_bits); refine hK _ ?_; clear hK K
        refine wpR_rd 4 #[true, true, true, true, true, false, false, false, false, false, false, false, false, false, false, false, false, false, false, false, false, false, false, false, false, false, false, false, false, false] rfl onlyN_noPanic (by kernel_rfl) (fun K hK => ?_); (go_simp; try go_bits); refine hK _ ?_; clear hK K
        refine wpR_rd 5 #[true, true, true, true, true, true, false, false, false, false, false, false, false, false, false, false, false, false, false, false, false, false, false, false, false, false, false, false, false, false] rfl onlyN_noPanic (by kernel_rfl) (fun K hK => ?_); (go_simp; try go_bits); refine hK _ ?_; clear hK K
        refine wpR_rd 6 #[true, true, true, true, true, true, true, false, false, false, false, false, false, false, false, false, false, false, false, false, false, false, false, false, false, false, false, false, false, false] rfl onlyN_noPanic (by kernel_rfl) (fun K hK => ?_); (go_simp; try go_bits); refine hK _ ?_; clear hK K
        refine wpR_rd 7 #[true, true, true, true, true, true, true, true, false, false, false, false, false, false, false, false, false, false, false, false, false, false, false, false, false, false, false, false, false, false] rfl onlyN_noPanic (by kernel_rfl) (fun K hK => ?_); (go_simp; try go_bits); refine hK _ ?_; clear hK K
        refine wpR_rd 8 #[true, true, true, true, true, true, true, true, true, false, false, false, false, false, false, false, false, false, false, false, false, false, false, false, false, false, false, false, false, false] rfl onlyN_noPanic (by kernel_rfl) (fun K hK => ?_); (go_simp; try go_bits); refine hK _ ?_; clear hK K
        refine wpR_eff #[true, true, true, true, true, true, true, true, true, true, false, false, false, false, false, false, false, false, false, false, false, false, false, false, false, false, false, false, false, false] (i := 9) rfl (by kernel_rfl) (fun K hK => ?_)
        go_simp
        refine (bytesEq_ok Ax (some ⟨gF, 0, none⟩) full full 128 128 cx 128 _ HL.out.1 HL.out.1 HC.out.1 HC.out.2.1 HC.out.2.2.2.2.1 HC.out.2.2.2.2.1).mono ?_
        rintro e w13 ⟨rfl, rfl⟩
        rw [decide_eq_true rfl]
        refine hK _ _ ?_
        clear hK K
        refine wpR_rd 10 #[true, true, true, true, true, true, true, true, true, true, true, false, false, false, false, false, false, false, false, false, false, false, false, false, false, false, false, false, false, false] rfl onlyN_noPanic (by kernel_rfl) (fun K hK => ?_); (go_simp; try go_bits); refine hK _ ?_; clear hK K
        refine wpR_rd 11 #[true, true, true, true, true, true, true, true, true, true, true, true, false, false, false, false, false, false, false, false, false, false, false, false, false, false, false, false, false, false] rfl onlyN_noPanic (by kernel_rfl) (fun K hK => ?_); (go_simp; try go_bits); refine hK _ ?_; clear hK K
        refine wpR_rd 12 #[true, true, true, true, true, true, true, true, true, true, true, true, true, false, false, false, false, false, false, false, false, false, false, false, false, false, false, false, false, false] rfl onlyN_noPanic (by kernel_rfl) (fun K hK => ?_); (go_simp; try go_bits); refine hK _ ?_; clear hK K
        refine wpR_rd 13 #[true, true, true, true, true, true, true, true, true, true, true, true, true, true, false, false, false, false, false, false, false, false, false, false, false, false, false, false, false, false] rfl onlyN_noPanic (by kernel_rfl) (fun K hK => ?_); (go_simp; try go_bits); refine hK _ ?_; clear hK K
        refine wpR_rd 14 #[true, true, true, true, true, true, true, true, true, true, true, true, true, true, true, false, false, false, false, false, false, false, false, false, false, false, false, false, false, false] rfl onlyN_noPanic (by kernel_rfl) (fun K hK => ?_); (go_simp; try go_bits); refine hK _ ?_; clear hK K
        refine wpR_rd 15 #[true, true, true, true, true, true, true, true, true, true, true, true, true, true, true, true, false, false, false, false, false, false, false, false, false, false, false, false, false, false] rfl onlyN_noPanic (by kernel_rfl) (fun K hK => ?_); (go_simp; try go_bits); refine hK _ ?_; clear hK K
        refine wpR_rd 16 #[true, true, true, true, true, true, true, true, true, true, true, true, true, true, true, true, true, false, false, false, false, false, false, false, false, false, false, false, false, false] rfl onlyN_noPanic (by kernel_rfl) (fun K hK => ?_); (go_simp; try go_bits); refine hK _ ?_; clear hK K
        refine wpR_rd 17 #[true, true, true, true, true, true, true, true, true, true, true, true, true, true, true, true, true, true, false, false, false, false, false, false, false, false, false, false, false, false] rfl onlyN_noPanic (by kernel_rfl) (fun K hK => ?_); (go_simp; try go_bits); refine hK _ ?_; clear hK K
        refine wpR_eff #[true, true, true, true, true, true, true, true, true, true, true, true, true, true, true, true, true, true, true, false, false, false, false, false, false, false, false, false, false, false] (i := 18) rfl (by kernel_rfl) (fun K hK => ?_)
        go_simp
        refine (bytesEq_ok (some ⟨gy, oy, none⟩) (some ⟨gG, 0, none⟩) (other.take 128) (other.take 128) 128 128 128 128 _ HC.out.2.2.2.2.2.1 HC.out.2.2.2.2.2.1 HC.out.2.2.1 HC.out.2.2.2.1 HC.out.2.2.2.2.2.2.1 HC.out.2.2.2.2.2.2.1).mono ?_
        rintro e w13 ⟨rfl, rfl⟩
        rw [decide_eq_true rfl]
        refine hK _ _ ?_
        clear hK K
        refine wpR_rd 19 #[true, true, true, true, true, true, true, true, true, true, true, true, true, true, true, true, true, true, true, true, false, false, false, false, false, false, false, false, false, false] rfl onlyN_noPanic (by kernel_rfl) (fun K hK => ?_); (go_simp; try go_bits); refine hK _ ?_; clear hK K
        refine wpR_rd 20 #[true, true, true, true, true, true, true, true, true, true, true, true, true, true, true, true, true, true, true, true, true, false, false, false, false, false, false, false, false, false] rfl onlyN_noPanic (by kernel_rfl) (fun K hK => ?_); (go_simp; try go_bits); refine hK _ ?_; clear hK K
        refine wpR_pu 21 #[true, true, true, true, true, true, true, true, true, true, true, true, true, true, true, true, true, true, true, true, true, true, false, false, false, false, false, false, false, false] rfl onlyN_noPanic (by kernel_rfl) (fun K hK => ?_); (go_simp; try go_bits); refine hK _ ?_; clear hK K
        refine wpR_pu 22 #[true, true, true, true, true, true, true, true, true, true, true, true, true, true, true, true, true, true, true, true, true, true, true, false, false, false, false, false, false, false] rfl onlyN_noPanic (by kernel_rfl) (fun K hK => ?_); (go_simp; try go_bits); refine hK _ ?_; clear hK K
        refine wpR_pu 23 #[true, true, true, true, true, true, true, true, true, true, true, true, true, true, true, true, true, true, true, true, true, true, true, true, false, false, false, false, false, false] rfl onlyN_noPanic (by kernel_rfl) (fun K hK => ?_); (go_simp; try go_bits); refine hK _ ?_; clear hK K
        refine wpR_rd 24 #[true, true, true, true, true, true, true, true, true, true, true, true, true, true, true, true, true, true, true, true, true, true, true, true, true, false, false, false, false, false] rfl onlyN_noPanic (by kernel_rfl) (fun K hK => ?_); (go_simp; try go_bits); refine hK _ ?_; clear hK K
        refine wpR_rd 25 #[true, true, true, true, true, true, true, true, true, true, true, true, true, true, true, true, true, true, true, true, true, true, true, true, true, true, false, false, false, false] rfl onlyN_noPanic (by kernel_rfl) (fun K hK => ?_); (go_simp; try go_bits); refine hK _ ?_; clear hK K
        refine wpR_eff #[true, true, true, true, true, true, true, true, true, true, true, true, true, true, true, true, true, true, true, true, true, true, true, true, true, true, true, false, false, false] (i := 26) rfl (by kernel_rfl) (fun K hK => ?_)
        refine Eq.mpr (if_pos (by rfl)) ?_
        refine wp_make_row (n := 0) slB8 rfl rfl rfl rfl H12.out.drew (by unfold maxLen; omega) (by omega) (fun g13 w13 h13 => ?_)
        refine hK _ _ ?_
        clear hK K
        simp only [Act.put, List.setIfInBounds_toArray, List.set_cons_zero, List.set_cons_succ]
        refine wpR_eff #[true, true, true, true, true, true, true, true, true, true, true, true, true, true, true, true, true, true, true, true, true, true, true, true, true, true, true, true, false, false] (i := 27) rfl (by kernel_rfl) (fun K hK => ?_)
        go_simp
        refine (bytesEq_ok (some ⟨gy, oy, none⟩) (some ⟨g13, 0, none⟩) [] [] 0 0 0 0 _ rfl rfl (by exact Cells.nil _ _) (by exact Cells.nil _ _) (fun x hx => by cases hx) (fun x hx => by cases hx)).mono ?_
        rintro e w14 ⟨rfl, rfl⟩
        rw [decide_eq_true rfl]
        refine hK _ _ ?_
        clear hK K
        refine wpR_rd 28 #[true, true, true, true, true, true, true, true, true, true, true, true, true, true, true, true, true, true, true, true, true, true, true, true, true, true, true, true, true, false] rfl onlyN_noPanic (by kernel_rfl) (fun K hK => ?_); (go_simp; try go_bits); refine hK _ ?_; clear hK K
        refine wpR_rd 29 #[true, true, true, true, true, true, true, true, true, true, true, true, true, true, true, true, true, true, true, true, true, true, true, true, true, true, true, true, true, true] rfl onlyN_noPanic (by kernel_rfl) (fun K hK => ?_); (go_simp; try go_bits); refine hK _ ?_; clear hK K
        refine wpR_done (by kernel_rfl) ?_ _
        simp only [OnlyN]
        go_wp2
        go_ret
        exact ⟨rfl, h13.right.right.right.right.right.right.right⟩
      · have hcap' : ¬ nn = cyy := fun h => hcap h.symm
        refine region_R [9, 18, 26, 27] [] (fun _ => True) #[false, false, false, false, false, false, false, false, false, false, false, false, false, false, false, false, false, false, false, false, false, false, false, false, false, false, false, false, false, false] (by kernel_rfl) rfl rfl ?_
        refine wpR_rd 0 #[true, false, false, false, false, false, false, false, false, false, false, false, false, false, false, false, false, false, false, false, false, false, false, false, false, false, false, false, false, false] rfl onlyN_noPanic (by kernel_rfl) (fun K hK => ?_); (go_simp; try go_bits); refine hK _ ?_; clear hK K
        refine wpR_rd 1 #[true, true, false, false, false, false, false, false, false, false, false, false, false, false, false, false, false, false, false, false, false, false, false, false, false, false, false, false, false, false] rfl onlyN_noPanic (by kernel_rfl) (fun K hK => ?_); (go_simp; try go_bits); refine hK _ ?_; clear hK K
        refine wpR_rd 2 #[true, true, true, false, false, false, false, false, false, false, false, false, false, false, false, false, false, false, false, false, false, false, false, false, false, false, false, false, false, false] rfl onlyN_noPanic (by kernel_rfl) (fun K hK => ?_); (go_simp; try go_bits); refine hK _ ?_; clear hK K
        refine wpR_rd 3 #[true, true, true, true, false, false, false, false, false, false, false, false, false, false, false, false, false, false, false, false, false, false, false, false, false, false, false, false, false, false] rfl onlyN_noPanic (by kernel_rfl) (fun K hK => ?_); (go_simp; try go_bits); refine hK _ ?_; clear hK K
        refine wpR_rd 4 #[true, true, true, true, true, false, false, false, false, false, false, false, false, false, false, false, false, false, false, false, false, false, false, false, false, false, false, false, false, false] rfl onlyN_noPanic (by kernel_rfl) (fun K hK => ?_); (go_simp; try go_bits); refine hK _ ?_; clear hK K
        refine wpR_rd 5 #[true, true, true, true, true, true, false, false, false, false, false, false, false, false, false, false, false, false, false, false, false, false, false, false, false, false, false, false, false, false] rfl onlyN_noPanic (by kernel_rfl) (fun K hK => ?_); (go_simp; try go_bits); refine hK _ ?_; clear hK K
        refine wpR_rd 6 #[true, true, true, true, true, true, true, false, false, false, false, false, false, false, false, false, false, false, false, false, false, false, false, false, false, false, false, false, false, false] rfl onlyN_noPanic (by kernel_rfl) (fun K hK => ?_); (go_simp; try go_bits); refine hK _ ?_; clear hK K
        refine wpR_rd 7 #[true, true, true, true, true, true, true, true, false, false, false, false, false, false, false, false, false, false, false, false, false, false, false, false, false, false, false, false, false, false] rfl onlyN_noPanic (by kernel_rfl) (fun K hK => ?_); (go_simp; try go_bits); refine hK _ ?_; clear hK K
        refine wpR_rd 8 #[true, true, true, true, true, true, true, true, true, false, false, false, false, false, false, false, false, false, false, false, false, false, false, false, false, false, false, false, false, false] rfl onlyN_noPanic (by kernel_rfl) (fun K hK => ?_); (go_simp; try go_bits); refine hK _ ?_; clear hK K
        refine wpR_eff #[true, true, true, true, true, true, true, true, true, true, false, false, false, false, false, false, false, false, false, false, false, false, false, false, false, false, false, false, false, false] (i := 9) rfl (by kernel_rfl) (fun K hK => ?_)
        go_simp
        refine (bytesEq_ok Ax (some ⟨gF, 0, none⟩) full full 128 128 cx 128 _ HL.out.1 HL.out.1 HC.out.1 HC.out.2.1 HC.out.2.2.2.2.1 HC.out.2.2.2.2.1).mono ?_
        rintro e w13 ⟨rfl, rfl⟩
        rw [decide_eq_true rfl]
        refine hK _ _ ?_
        clear hK K
        refine wpR_rd 10 #[true, true, true, true, true, true, true, true, true, true, true, false, false, false, false, false, false, false, false, false, false, false, false, false, false, false, false, false, false, false] rfl onlyN_noPanic (by kernel_rfl) (fun K hK => ?_); (go_simp; try go_bits); refine hK _ ?_; clear hK K
        refine wpR_rd 11 #[true, true, true, true, true, true, true, true, true, true, true, true, false, false, false, false, false, false, false, false, false, false, false, false, false, false, false, false, false, false] rfl onlyN_noPanic (by kernel_rfl) (fun K hK => ?_); (go_simp; try go_bits); refine hK _ ?_; clear hK K
        refine wpR_rd 12 #[true, true, true, true, true, true, true, true, true, true, true, true, true, false, false, false, false, false, false, false, false, false, false, false, false, false, false, false, false, false] rfl onlyN_noPanic (by kernel_rfl) (fun K hK => ?_); (go_simp; try go_bits); refine hK _ ?_; clear hK K
        refine wpR_rd 13 #[true, true, true, true, true, true, true, true, true, true, true, true, true, true, false, false, false, false, false, false, false, false, false, false, false, false, false, false, false, false] rfl onlyN_noPanic (by kernel_rfl) (fun K hK => ?_); (go_simp; try go_bits); refine hK _ ?_; clear hK K
        refine wpR_rd 14 #[true, true, true, true, true, true, true, true, true, true, true, true, true, true, true, false, false, false, false, false, false, false, false, false, false, false, false, false, false, false] rfl onlyN_noPanic (by kernel_rfl) (fun K hK => ?_); (go_simp; try go_bits); refine hK _ ?_; clear hK K
        refine wpR_rd 15 #[true, true, true, true, true, true, true, true, true, true, true, true, true, true, true, true, false, false, false, false, false, false, false, false, false, false, false, false, false, false] rfl onlyN_noPanic (by kernel_rfl) (fun K hK => ?_); (go_simp; try go_bits); refine hK _ ?_; clear hK K
        refine wpR_rd 16 #[true, true, true, true, true, true, true, true, true, true, true, true, true, true, true, true, true, false, false, false, false, false, false, false, false, false, false, false, false, false] rfl onlyN_noPanic (by kernel_rfl) (fun K hK => ?_); (go_simp; try go_bits); refine hK _ ?_; clear hK K
        refine wpR_rd 17 #[true, true, true, true, true, true, true, true, true, true, true, true, true, true, true, true, true, true, false, false, false, false, false, false, false, false, false, false, false, false] rfl onlyN_noPanic (by kernel_rfl) (fun K hK => ?_); (go_simp; try go_bits); refine hK _ ?_; clear hK K
        refine wpR_eff #[true, true, true, true, true, true, true, true, true, true, true, true, true, true, true, true, true, true, true, false, false, false, false, false, false, false, false, false, false, false] (i := 18) rfl (by kernel_rfl) (fun K hK => ?_)
        go_simp
        refine (bytesEq_ok (some ⟨gy, oy, none⟩) (some ⟨gG, 0, none⟩) (other.take nn) (other.take nn) nn nn cyy 128 _ HC.out.2.2.2.2.2.1 HC.out.2.2.2.2.2.1 HC.out.2.2.1 HC.out.2.2.2.1 HC.out.2.2.2.2.2.2.1 HC.out.2.2.2.2.2.2.1).mono ?_
        rintro e w13 ⟨rfl, rfl⟩
        rw [decide_eq_true rfl]
        refine hK _ _ ?_
        clear hK K
        refine wpR_rd 19 #[true, true, true, true, true, true, true, true, true, true, true, true, true, true, true, true, true, true, true, true, false, false, false, false, false, false, false, false, false, false] rfl onlyN_noPanic (by kernel_rfl) (fun K hK => ?_); (go_simp; try go_bits); refine hK _ ?_; clear hK K
        refine wpR_rd 20 #[true, true, true, true, true, true, true, true, true, true, true, true, true, true, true, true, true, true, true, true, true, false, false, false, false, false, false, false, false, false] rfl onlyN_noPanic (by kernel_rfl) (fun K hK => ?_); (go_simp; try go_bits); refine hK _ ?_; clear hK K
        refine wpR_pu 21 #[true, true, true, true, true, true, true, true, true, true, true, true, true, true, true, true, true, true, true, true, true, true, false, false, false, false, false, false, false, false] rfl onlyN_noPanic (by kernel_rfl) (fun K hK => ?_); (go_simp; try go_bits); refine hK _ ?_; clear hK K
        refine wpR_pu 22 #[true, true, true, true, true, true, true, true, true, true, true, true, true, true, true, true, true, true, true, true, true, true, true, false, false, false, false, false, false, false] rfl onlyN_noPanic (by kernel_rfl) (fun K hK => ?_); (go_simp; try go_bits); refine hK _ ?_; clear hK K
        refine wpR_pu 23 #[true, true, true, true, true, true, true, true, true, true, true, true, true, true, true, true, true, true, true, true, true, true, true, true, false, false, false, false, false, false] rfl onlyN_noPanic (by kernel_rfl) (fun K hK => ?_); (go_simp; try go_bits); refine hK _ ?_; clear hK K
        refine wpR_rd 24 #[true, true, true, true, true, true, true, true, true, true, true, true, true, true, true, true, true, true, true, true, true, true, true, true, true, false, false, false, false, false] rfl onlyN_noPanic (by kernel_rfl) (fun K hK => ?_); (go_simp; try go_bits); refine hK _ ?_; clear hK K
        refine wpR_rd 25 #[true, true, true, true, true, true, true, true, true, true, true, true, true, true, true, true, true, true, true, true, true, true, true, true, true, true, false, false, false, false] rfl onlyN_noPanic (by kernel_rfl) (fun K hK => ?_); (go_simp; try go_bits); refine hK _ ?_; clear hK K
        refine wpR_eff #[true, true, true, true, true, true, true, true, true, true, true, true, true, true, true, true, true, true, true, true, true, true, true, true, true, true, true, false, false, false] (i := 26) rfl (by kernel_rfl) (fun K hK => ?_)
        refine Eq.mpr (if_pos (by rfl)) ?_
        refine wp_make_row (n := 128 - nn) slB8 rfl rfl rfl rfl H12.out.drew (by unfold maxLen; omega) (by omega) (fun g13 w13 h13 => ?_)
        refine hK _ _ ?_
        clear hK K
        simp only [Act.put, List.setIfInBounds_toArray, List.set_cons_zero, List.set_cons_succ]
        refine wpR_eff #[true, true, true, true, true, true, true, true, true, true, true, true, true, true, true, true, true, true, true, true, true, true, true, true, true, true, true, true, false, false] (i := 27) rfl (by kernel_rfl) (fun K hK => ?_)
        go_simp
        refine (bytesEq_ok (some ⟨gy, oy + nn, none⟩) (some ⟨g13, 0, none⟩) zz zz (128 - nn) (128 - nn) (cyy - nn) (128 - nn) _ HC.out.2.2.2.2.2.2.2.1 HC.out.2.2.2.2.2.2.2.1 (HC.out.2.2.2.2.2.2.2.2.2 w13 (h13.right)).2 (by have := h13.row_cells; rw [HZ.out.1]; exact this) HC.out.2.2.2.2.2.2.2.2.1 HC.out.2.2.2.2.2.2.2.2.1).mono ?_
        rintro e w14 ⟨rfl, rfl⟩
        rw [decide_eq_true rfl]
        refine hK _ _ ?_
        clear hK K
        refine wpR_rd 28 #[true, true, true, true, true, true, true, true, true, true, true, true, true, true, true, true, true, true, true, true, true, true, true, true, true, true, true, true, true, false] rfl onlyN_noPanic (by kernel_rfl) (fun K hK => ?_); (go_simp; try go_bits); refine hK _ ?_; clear hK K
        refine wpR_rd 29 #[true, true, true, true, true, true, true, true, true, true, true, true, true, true, true, true, true, true, true, true, true, true, true, true, true, true, true, true, true, true] rfl onlyN_noPanic (by kernel_rfl) (fun K hK => ?_); (go_simp; try go_bits); refine hK _ ?_; clear hK K
        refine wpR_done (by kernel_rfl) ?_ _
        simp only [OnlyN]
        go_wp2
        go_ret
        exact ⟨rfl, h13.right.right.right.right.right.right.right⟩
end Go.Proofs.Ytgdcdcacccaanaa
