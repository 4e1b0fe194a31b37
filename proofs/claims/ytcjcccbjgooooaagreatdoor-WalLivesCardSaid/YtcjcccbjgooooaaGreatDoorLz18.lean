/- Texts of one claim, one behind the other: Same3, Disks3, WLvW, StpT, LaidN, TabO, WLvX. -/
import Derived.Test.YtcjcccbjgooooaaGreatDoorLz17
import Derived.Lib.LaidU8
import Derived.Lib.LaidTab
import Derived.Lib.ItoaNum
/- dryrotplain.Same: two disks told by one model are the same, as far as they tell. -/
namespace Go.Proofs.YtcjcccbjgooooaaGreatDoor
open Go.RowKit HP
set_option linter.unusedSimpArgs false
set_option linter.unusedVariables false

theorem cel_some {A : Dk} {s : ByteArray} {i : Nat} (hi : i < (A.at s).length) : ∃ c, A.cel s i = some c ∧ c ∈ A.at s := by
  unfold Dk.cel
  rw [if_pos (by omega), Int.toNat_natCast, List.getElem?_eq_getElem hi]
  exact ⟨_, rfl, List.getElem_mem hi⟩
theorem at_fine {A : Dk} (h : A.Fine) {s : ByteArray} {c : Cel} (hc : c ∈ A.at s) : c.Fine := by
  unfold Dk.at at hc
  cases hl : lk A.files s with
  | none => rw [hl] at hc; cases hc
  | some l => rw [hl] at hc; exact h.cels _ (lk_mem hl) c hc
theorem names_map (A : Dk) : namesV A = (A.files.map (·.1)).map Value.string := by unfold namesV; rw [List.map_map]; rfl
theorem damaged_le {A : Dk} (h : A.Fine) : A.damaged.length ≤ 100000 := by
  have h1 : A.damaged.length ≤ sizeF A.files := spots_length A.files
  have h2 := h.fits
  have h3 := h.room
  omega
set_option maxHeartbeats 4000000 in
set_option maxRecDepth 100000 in
theorem same_ok (E : Env) (q : HP) (d y : Nat) (A : Dk) (w : World) (hb : A.Byt) (hw : Sat E w (HP.disk d A * (HP.rdisk y A * q))) :
    Calls Tryz.prog 11 #[.pointer (some ⟨d, 0, none⟩), .pointer (some ⟨y, 0, none⟩)] w fun e w' => e = .returned (.bool true) ∧ Sat E w' (HP.disk d A * (HP.rdisk y A * q)) := by
  have HF := Aside.mk hw.disk_fine
  have HB := Aside.mk hb
  have hnl := files_le HF.out
  have hdl := damaged_le HF.out
  have HW := Aside.mk hw
  clear hw hb
  obtain ⟨nl, hnle⟩ : ∃ nl, nl = A.files.length := ⟨_, rfl⟩
  obtain ⟨dl, hdle⟩ : ∃ dl, dl = A.damaged.length := ⟨_, rfl⟩
  rw [← hnle] at hnl
  rw [← hdle] at hdl
  have HNL := Aside.mk hnle
  have HDL := Aside.mk hdle
  clear hnle hdle
  go_enter Tryz.func11, Tryz.ntmps11
  go_wp2_with fail
  refine (rdisk_list E _ y A _ HW.out.s2).mono ?_
  rintro e w1 ⟨v, rfl, h1⟩
  rw [← HNL.out] at h1
  obtain ⟨AL, cL, rfl, hcL, -⟩ := h1.row_slice
  have H1 : Aside (Sat E w1 (HP.disk d A * (HP.row 9 1 (.slice AL nl cL) nl (namesV A) * (HP.rdisk y A * q)))) := ⟨h1.perm (by ac_rfl)⟩
  clear h1 HW
  go_wp2_with fail
  refine (disk_list E _ d A _ H1.out).mono ?_
  rintro e w2 ⟨v, rfl, h2⟩
  rw [← HNL.out] at h2
  obtain ⟨AM, cM, rfl, hcM, -⟩ := h2.row_slice
  have H2 := Aside.mk h2
  clear h2 H1
  go_wp2_with fail
  refine (strs_equal E _ AM AL (A.files.map (·.1)) (A.files.map (·.1)) nl nl cM cL _ (by rw [List.length_map, ← HNL.out]) (by rw [List.length_map, ← HNL.out]) (by omega) (by omega) (fun w h => by rw [← names_map]; exact ⟨h.row_cells, h.s3.row_cells⟩) H2.out).mono ?_
  rintro e w3 ⟨rfl, h3⟩
  rw [decide_eq_true rfl]
  have H3 : Aside (Sat E w3 (HP.disk d A * (HP.row 9 1 (.slice AL nl cL) nl (namesV A) * (HP.rdisk y A * q)))) := ⟨h3.right⟩
  clear h3 H2
  go_wp2_with fail
  refine (disk_free_ok E _ d A _ H3.out).mono ?_
  rintro e w4 ⟨rfl, h4⟩
  have H4 : Aside (Sat E w4 (HP.rdisk y A * (HP.disk d A * (HP.row 9 1 (.slice AL nl cL) nl (namesV A) * q)))) := ⟨h4.perm (by ac_rfl)⟩
  clear h4 H3
  obtain ⟨fr, hfr⟩ : ∃ fr, fr = A.free := ⟨_, rfl⟩
  have HRF := Aside.mk (rdisk_free E _ y A _ H4.out)
  rw [← hfr] at HRF ⊢
  clear hfr
  go_wp2_with fail
  refine HRF.out.mono ?_
  rintro e w5 ⟨rfl, h5⟩
  have H5 : Aside (Sat E w5 (HP.disk d A * (HP.row 9 1 (.slice AL nl cL) nl (namesV A) * (HP.rdisk y A * q)))) := ⟨h5.perm (by ac_rfl)⟩
  clear h5 HRF H4
  go_wp2_with fail
  refine (disk_damaged E _ d A _ H5.out).mono ?_
  rintro e w6 ⟨v, rfl, h6⟩
  rw [← HDL.out] at h6
  obtain ⟨D0, e0, rfl, -, -⟩ := h6.row_slice
  have H6 : Aside (Sat E w6 (HP.rdisk y A * (HP.row 87 2 (.slice D0 dl e0) dl (A.damaged.flatMap encSpot) * (HP.disk d A * (HP.row 9 1 (.slice AL nl cL) nl (namesV A) * q))))) := ⟨h6.perm (by ac_rfl)⟩
  clear h6 H5
  go_wp2_with fail
  refine (rdisk_damaged E _ y A _ H6.out HB.out).mono ?_
  rintro e w7 ⟨v, rfl, h7⟩
  rw [← HDL.out] at h7
  obtain ⟨D1, e1, rfl, -, -⟩ := h7.row_slice
  have H7 := Aside.mk h7
  clear h7 H6
  go_wp2_with fail
  refine (spots_equal E _ D0 D1 A.damaged A.damaged dl dl e0 e1 _ HDL.out.symm HDL.out.symm (by omega) (by omega) (fun w h => ⟨h.s3.row_cells, h.row_cells⟩) H7.out).mono ?_
  rintro e w8 ⟨rfl, h8⟩
  rw [decide_eq_true rfl]
  have H8 : Aside (Sat E w8 (HP.row 9 1 (.slice AL nl cL) nl (namesV A) * (HP.disk d A * (HP.rdisk y A * q)))) := ⟨(h8.perm (by ac_rfl : _ = HP.row 87 2 (.slice D1 dl e1) dl (A.damaged.flatMap encSpot) * (HP.row 87 2 (.slice D0 dl e0) dl (A.damaged.flatMap encSpot) * (HP.row 9 1 (.slice AL nl cL) nl (namesV A) * (HP.disk d A * (HP.rdisk y A * q)))))).right.right⟩
  clear h8 H7
  go_wp2
  go_loopw [37] (fun v37 wr => ∃ j : Nat, v37 = .int .i64 j ∧ j ≤ nl ∧ Aside (Sat E wr (HP.row 9 1 (.slice AL nl cL) nl (namesV A) * (HP.disk d A * (HP.rdisk y A * q))))) (fun x _ => nl - (intOf x).toNat)
  case atStart => exact ⟨0, rfl, Nat.zero_le _, H8⟩
  case round =>
    clear H8
    obtain ⟨j, rfl, hj, HS⟩ := hrel
    by_cases hlt : j < nl
    · have hj1 : (j : Int) < (nl : Int) := by omega
      have hj0 : (0 : Int) ≤ (j : Int) := by omega
      obtain ⟨nm, hnm⟩ : ∃ nm, (A.files.map (·.1))[j]? = some nm := ⟨_, List.getElem?_eq_getElem (by rw [List.length_map, ← HNL.out]; exact hlt)⟩
      have hnsz : nm.size ≤ maxLen := by
        obtain ⟨x, hx, rfl⟩ := List.mem_map.1 (List.mem_of_getElem? hnm)
        exact names_le HF.out hx
      have gj : (namesV A)[j]? = some (.string nm) := by rw [names_map, List.getElem?_map, hnm]; rfl
      obtain ⟨gL, oL, rfl⟩ : ∃ g o, AL = some ⟨g, o, none⟩ := by
        obtain ⟨a, ha, -⟩ := HS.out.row_cells _ _ gj
        obtain ⟨g, o, rfl⟩ : ∃ g o, a = ⟨g, o, none⟩ := slice_addr HS.out.row_cells ha (List.getElem?_eq_some_iff.1 gj).1
        exact ⟨g, o, ha⟩
      have cj := HS.out.row_cells.some_ _ _ gj
      rw [addr_add] at cj
      clear gj hnm
      have hes := at_small HF.out nm
      have HNS := Aside.mk hnsz
      obtain ⟨ne, hne⟩ : ∃ ne, ne = (A.at nm).length := ⟨_, rfl⟩
      rw [← hne] at hes
      have HNE := Aside.mk hne
      have HX1 := Aside.mk (fun w (h : Sat E w (HP.disk d A * (HP.row 9 1 (.slice (some ⟨gL, oL, none⟩) nl cL) nl (namesV A) * (HP.rdisk y A * q)))) => disk_extents E _ d A nm w hnsz h)
      have HX2 := Aside.mk (fun w (h : Sat E w (HP.rdisk y A * (HP.disk d A * (HP.row 9 1 (.slice (some ⟨gL, oL, none⟩) nl cL) nl (namesV A) * q)))) => rdisk_extents E _ y A nm w h)
      rw [← hne] at HX1 HX2
      clear hnsz hne
      go_wp2_with fail
      refine (HX1.out _ HS.out.s2).mono ?_
      rintro e w4 ⟨rfl, hw4⟩; subst w4
      clear cj
      have H9 : Aside (Sat E wr (HP.rdisk y A * (HP.disk d A * (HP.row 9 1 (.slice (some ⟨gL, oL, none⟩) nl cL) nl (namesV A) * q)))) := ⟨HS.out.perm (by ac_rfl)⟩
      clear HS
      go_wp2_with fail
      refine (HX2.out _ H9.out).mono ?_
      rintro e w9 ⟨rfl, h9⟩
      have H10 := Aside.mk h9
      clear h9 H9
      go_wp2_with fail
      refine (HX2.out _ H10.out).mono ?_
      rintro e w10 ⟨rfl, h10⟩
      have HS : Aside (Sat E w10 (HP.disk d A * (HP.rdisk y A * (HP.row 9 1 (.slice (some ⟨gL, oL, none⟩) nl cL) nl (namesV A) * q)))) := ⟨h10.perm (by ac_rfl)⟩
      clear h10 H10 HX1 HX2
      go_wp2
      go_loopw [51] (fun v51 wi => ∃ i : Nat, v51 = .int .i64 i ∧ i ≤ ne ∧ Aside (Sat E wi (HP.disk d A * (HP.rdisk y A * (HP.row 9 1 (.slice (some ⟨gL, oL, none⟩) nl cL) nl (namesV A) * q))))) (fun x _ => ne - (intOf x).toNat)
      case atStart => exact ⟨0, rfl, Nat.zero_le _, HS⟩
      case round =>
        clear HS
        obtain ⟨i, rfl, hi, HS⟩ := hrel
        by_cases hil : i < ne
        · have hi1 : (i : Int) < (ne : Int) := by omega
          have hi0 : (0 : Int) ≤ (i : Int) := by omega
          obtain ⟨c, hc, hcm⟩ := cel_some (A := A) (s := nm) (i := i) (by rw [← HNE.out]; exact hil)
          have HC := Aside.mk (And.intro hc (And.intro (at_fine HF.out hcm) (HB.out.at nm c hcm)))
          clear hc hcm
          go_wp2_with fail
          refine (disk_read_ok E _ d A nm i _ HNS.out HS.out).mono ?_
          rw [HC.out.1]
          rintro e w11 ⟨v, rfl, h11⟩
          obtain ⟨B0, b0, rfl, -, -⟩ := h11.row_slice
          have H11 : Aside (Sat E w11 (HP.rdisk y A * (HP.row 5 1 (.slice B0 128 b0) 128 (b8s c.read) * (HP.disk d A * (HP.row 9 1 (.slice (some ⟨gL, oL, none⟩) nl cL) nl (namesV A) * q))))) := ⟨h11.perm (by ac_rfl)⟩
          clear h11 HS
          go_wp2_with fail
          refine (rdisk_read E _ y A nm i _ H11.out).mono ?_
          rw [HC.out.1]
          rintro e w12 ⟨v, rfl, h12⟩
          obtain ⟨B1, b1, rfl, -, -⟩ := h12.row_slice
          have H12 := Aside.mk h12
          clear h12 H11
          go_wp2_with fail
          refine (bytesEq_ok B0 B1 c.read c.read 128 128 b0 b1 _ HC.out.2.1.1 HC.out.2.1.1 H12.out.s3.row_cells H12.out.row_cells HC.out.2.2.1 HC.out.2.2.1).mono ?_
          rintro e w13 ⟨rfl, hw13⟩; subst w13
          rw [decide_eq_true rfl]
          have HS2 : Aside (Sat E w12 (HP.disk d A * (HP.rdisk y A * (HP.row 9 1 (.slice (some ⟨gL, oL, none⟩) nl cL) nl (namesV A) * q)))) := ⟨(H12.out.perm (by ac_rfl : _ = HP.row 5 1 (.slice B0 128 b0) 128 (b8s c.read) * (HP.row 5 1 (.slice B1 128 b1) 128 (b8s c.read) * (HP.disk d A * (HP.rdisk y A * (HP.row 9 1 (.slice (some ⟨gL, oL, none⟩) nl cL) nl (namesV A) * q)))))).right.right⟩
          clear H12
          go_wp2
          go_roundw
          case rel => exact ⟨i + 1, by go_num, by omega, HS2⟩
          case measure => simp [intOf]; omega
        · have HS2 : Aside (Sat E _ (HP.row 9 1 (.slice (some ⟨gL, oL, none⟩) nl cL) nl (namesV A) * (HP.disk d A * (HP.rdisk y A * q)))) := ⟨HS.out.s3⟩
          have hi1 : ¬ (i : Int) < (ne : Int) := by omega
          clear HS
          go_wp2
          go_roundw
          case rel => exact ⟨j + 1, by go_num, by omega, HS2⟩
          case measure => simp [intOf]; omega
    · have hj1 : ¬ (j : Int) < (nl : Int) := by omega
      go_wp2
      go_ret
      exact ⟨rfl, HS.out.right⟩
end Go.Proofs.YtcjcccbjgooooaaGreatDoor
/- dryrotplain.Disks: two new disks, with steps done on both: they are told by one model. -/
namespace Go.Proofs.YtcjcccbjgooooaaGreatDoor
open Go.RowKit HP
set_option linter.unusedSimpArgs false
set_option linter.unusedVariables false

theorem Dk.write_room (A : Dk) (s : ByteArray) (i : Int) (b : List Int) : (A.write s i b).2.room = A.room := by
  unfold Dk.write
  split
  · rfl
  split
  · rfl
  split
  · rfl
  split <;> rfl
theorem Dk.sync_room (A : Dk) (s : ByteArray) : (A.sync s).2.room = A.room := by
  unfold Dk.sync
  split
  · rfl
  · split <;> rfl
theorem Dk.remove_room (A : Dk) (s : ByteArray) : (A.remove s).2.room = A.room := by
  unfold Dk.remove
  split
  · rfl
  · split <;> rfl
theorem Dk.rot_room (A : Dk) (s : ByteArray) (i a m : Int) : (A.rot s i a m).2.room = A.room := by
  unfold Dk.rot
  split
  · rfl
  · split <;> rfl
theorem Dk.stepK_room (A : Dk) (s : StepV) (k : Int) : (A.stepK s k).room = A.room := by
  unfold Dk.stepK
  split
  · exact A.write_room _ _ _
  split
  · exact A.write_room _ _ _
  split
  · exact A.sync_room _
  split
  · exact A.remove_room _
  split
  · exact A.rot_room _ _ _ _
  split
  · rfl
  unfold Dk.fuseK
  split <;> rfl
/-- The steps of a list, read. -/
structure Steps (q : HP) (l : Sl StepV) : Prop where
  len : l.l.length ≤ maxLen
  wf : ∀ s ∈ l.l, s.Wf
  cells : ∀ E w, Sat E w q → Cells w l.A (l.l.flatMap StepV.vals) ∧ ∀ s ∈ l.l, Cells w s.b.A (b8s s.b.l) ∧ Cells w s.kept.A (kepCells s.kept.l)
theorem Steps.mul {q r : HP} {l : Sl StepV} (h : Steps q l) : Steps (r * q) l := ⟨h.len, h.wf, fun E w hw => h.cells E w hw.right⟩
theorem Steps.at_ {q : HP} {l : Sl StepV} (h : Steps q l) {E : Env} {w : World} (hw : Sat E w q) {k : Nat} {s : StepV} (hs : l.l[k]? = some s) :
    ∃ g o, l.A = some ⟨g, o, none⟩ ∧ w.cell? ⟨g, o + k * 8, none⟩ = some (.int .i64 s.op) ∧ w.cell? ⟨g, o + k * 8 + 1, none⟩ = some (.int .i64 s.i) ∧ w.cell? ⟨g, o + k * 8 + 2, none⟩ = some (.int .i64 s.at_) ∧ w.cell? ⟨g, o + k * 8 + 3, none⟩ = some (.int .i64 s.n) ∧ w.cell? ⟨g, o + k * 8 + 4, none⟩ = some (.string s.name) ∧ w.cell? ⟨g, o + k * 8 + 5, none⟩ = some (.slice s.b.A s.b.l.length s.b.cap) ∧ w.cell? ⟨g, o + k * 8 + 6, none⟩ = some (.int .u8 s.mask) ∧ w.cell? ⟨g, o + k * 8 + 7, none⟩ = some (.slice s.kept.A s.kept.l.length s.kept.cap) := by
  have hcm := (h.cells _ _ hw).1
  have hg := fun j (hj : j < 8) => flat_get StepV.vals 8 l.l (fun _ => rfl) k j s hs hj
  have g0 := hg 0 (by omega)
  obtain ⟨pa, hpa, -⟩ := hcm _ _ g0
  obtain ⟨g, o, rfl⟩ : ∃ g o, pa = ⟨g, o, none⟩ := slice_addr hcm hpa (List.getElem?_eq_some_iff.1 g0).1
  rw [hpa] at hcm
  have f : ∀ j, j < 8 → ∀ u, s.vals[j]? = some u → w.cell? ⟨g, o + k * 8 + j, none⟩ = some u := fun j hj u hu => by
    have h1 := hcm.some_ (k * 8 + j) u ((hg j hj).trans hu)
    rw [addr_add, ← Nat.add_assoc] at h1
    exact h1
  exact ⟨g, o, hpa, f 0 (by omega) _ rfl, f 1 (by omega) _ rfl, f 2 (by omega) _ rfl, f 3 (by omega) _ rfl, f 4 (by omega) _ rfl, f 5 (by omega) _ rfl, f 6 (by omega) _ rfl, f 7 (by omega) _ rfl⟩
set_option maxHeartbeats 4000000 in
set_option maxRecDepth 100000 in
theorem disks_ok (E : Env) (q : HP) (room : Int) (l : Sl StepV) (w : World) (hr : 0 ≤ room ∧ room ≤ 100000) (hst : Steps q l) (hw : Sat E w q) :
    Calls Tryz.prog 5 #[.int .i64 room, l.val] w fun e w' => ∃ d y A, e = .returned (.tuple #[.pointer (some ⟨d, 0, none⟩), .pointer (some ⟨y, 0, none⟩), .bool true]) ∧ A.Byt ∧ A.room = room ∧ Sat E w' (HP.disk d A * (HP.rdisk y A * q)) := by
  unfold Sl.val
  have HST := Aside.mk hst
  have hlen := hst.len
  unfold maxLen at hlen
  have HR := Aside.mk hr
  clear hst
  go_enter Tryz.func5, Tryz.ntmps5
  go_wp2_with fail
  refine (disk_new_ok E q room w hr hw).mono ?_
  rintro e w1 ⟨d, rfl, h1⟩
  have H1 := Aside.mk h1
  clear h1 hw
  go_wp2_with fail
  refine (ref_new E _ room w1 HR.out H1.out).mono ?_
  rintro e w2 ⟨y, rfl, h2⟩
  have H2 : Aside (Sat E w2 (HP.disk d (Dk.new room) * (HP.rdisk y (Dk.new room) * q))) := ⟨h2.s2⟩
  have HB0 := Aside.mk (Dk.Byt.new room)
  have HR0 : Aside ((Dk.new room).room = room) := ⟨rfl⟩
  clear h2 H1 hr
  generalize hN : l.l.length = n at *
  have HN := Aside.mk hN
  clear hN
  go_wp2
  go_loopw [38] (fun x wr => ∃ (k : Nat) (A : Dk), x = .int .i64 k ∧ k ≤ n ∧ Aside A.Byt ∧ Aside (A.room = room) ∧ Aside (Sat E wr (HP.disk d A * (HP.rdisk y A * q)))) (fun x _ => n - (intOf x).toNat)
  case atStart => exact ⟨0, _, rfl, Nat.zero_le _, HB0, HR0, H2⟩
  case round =>
    clear H2 HB0 HR0
    obtain ⟨k, A, rfl, hk, HB, HRM, HS⟩ := hrel
    by_cases hlt : k < n
    · obtain ⟨s, hs⟩ : ∃ s, l.l[k]? = some s := ⟨_, List.getElem?_eq_getElem (by rw [HN.out]; exact hlt)⟩
      have hsm : s ∈ l.l := List.mem_of_getElem? hs
      obtain ⟨g, o, hA, g0, g1, g2, g3, g4, g5, g6, g7⟩ := HST.out.at_ HS.out.right.right hs
      rw [hA]
      have hk0 : (0 : Int) ≤ (k : Int) := by omega
      have hk1 : (k : Int) < (n : Int) := by omega
      have HB2 := Aside.mk (HS.out.alloc (.cells #[.int .i64 s.op, .int .i64 s.i, .int .i64 s.at_, .int .i64 s.n, .string s.name, .slice s.b.A s.b.l.length s.b.cap, .int .u8 s.mask, .slice s.kept.A s.kept.l.length s.kept.cap] 49)).right
      have HWF := Aside.mk (HST.out.wf s hsm)
      have HCL : Aside (∀ E w, Sat E w q → Cells w s.b.A (b8s s.b.l) ∧ Cells w s.kept.A (kepCells s.kept.l)) := ⟨fun E w h => (HST.out.cells E w h).2 s hsm⟩
      clear hs hsm HS hA
      by_cases h40 : (k : Int) < 40
      · go_wp2_with fail
        refine (do_ok E q d y A s _ HWF.out HCL.out HB2.out).mono ?_
        rintro e w10 ⟨rfl, h10⟩
        have H10 := Aside.mk h10
        have HB3 := Aside.mk (HB.out.stepK HWF.out (opK s.op))
        have HRM3 : Aside ((A.stepK s (opK s.op)).room = room) := ⟨by rw [Dk.stepK_room]; exact HRM.out⟩
        clear h10 HB2 g0 g1 g2 g3 g4 g5 g6 g7
        go_wp2
        go_roundw
        case rel => exact ⟨k + 1, _, by go_num, by omega, HB3, HRM3, H10⟩
        case measure => simp [intOf]; omega
      · go_wp2
        go_roundw
        case rel => exact ⟨k + 1, A, by go_num, by omega, HB, HRM, HB2⟩
        case measure => simp [intOf]; omega
    · obtain rfl : k = n := by omega
      go_wp2_with fail
      refine (same_ok E q d y A _ HB.out HS.out).mono ?_
      rintro e w3 ⟨rfl, h3⟩
      have H3 := Aside.mk h3
      clear h3 HS
      go_wp2
      go_ret3
      exact ⟨d, y, A, rfl, HB.out, HRM.out, H3.out⟩
end Go.Proofs.YtcjcccbjgooooaaGreatDoor
/- WalLives: the walk. -/
namespace Go.Proofs.YtcjcccbjgooooaaGreatDoor
open Go.RowKit HP
set_option linter.unusedSimpArgs false
set_option linter.unusedVariables false

def RecV.valsZ (r : RecV) : List Value := [.int .i64 r.seg, .int .i64 r.at_, .int .i64 r.lsn, .slice r.b.A r.b.l.length r.b.cap]
/-- The records of a list, read. -/
structure RecsInZ (q : HP) (l : Sl RecV) : Prop where
  len : l.l.length ≤ maxLen
  cells : ∀ E w, Sat E w q → Cells w l.A (l.l.flatMap RecV.valsZ) ∧ ∀ r ∈ l.l, RecOk w r
theorem RecsInZ.at_ {q : HP} {l : Sl RecV} (h : RecsInZ q l) {E : Env} {w : World} (hw : Sat E w q) {k : Nat} {r : RecV} (hs : l.l[k]? = some r) :
    ∃ g o, l.A = some ⟨g, o, none⟩ ∧ w.cell? ⟨g, o + k * 4, none⟩ = some (.int .i64 r.seg) ∧ w.cell? ⟨g, o + k * 4 + 1, none⟩ = some (.int .i64 r.at_) ∧ w.cell? ⟨g, o + k * 4 + 2, none⟩ = some (.int .i64 r.lsn) ∧ w.cell? ⟨g, o + k * 4 + 3, none⟩ = some (.slice r.b.A r.b.l.length r.b.cap) := by
  have hcm := (h.cells _ _ hw).1
  have hg := fun j (hj : j < 4) => flat_get RecV.valsZ 4 l.l (fun _ => rfl) k j r hs hj
  have g0 := hg 0 (by omega)
  obtain ⟨pa, hpa, -⟩ := hcm _ _ g0
  obtain ⟨g, o, rfl⟩ : ∃ g o, pa = ⟨g, o, none⟩ := slice_addr hcm hpa (List.getElem?_eq_some_iff.1 g0).1
  rw [hpa] at hcm
  have f : ∀ j, j < 4 → ∀ u, r.valsZ[j]? = some u → w.cell? ⟨g, o + k * 4 + j, none⟩ = some u := fun j hj u hu => by
    have h1 := hcm.some_ (k * 4 + j) u ((hg j hj).trans hu)
    rw [addr_add, ← Nat.add_assoc] at h1
    exact h1
  exact ⟨g, o, hpa, f 0 (by omega) _ rfl, f 1 (by omega) _ rfl, f 2 (by omega) _ rfl, f 3 (by omega) _ rfl⟩
theorem rec_box {E : Env} {w : World} {BX : Nat} {r : RecV} {q : HP} (h : Sat E w (HP.pt BX (.cells #[.int .i64 r.seg, .int .i64 r.at_, .int .i64 r.lsn, .slice r.b.A r.b.l.length r.b.cap] 30) * q)) :
    w.cell? ⟨BX, 0, none⟩ = some (.int .i64 r.seg) ∧ w.cell? ⟨BX, 1, none⟩ = some (.int .i64 r.at_) ∧ w.cell? ⟨BX, 2, none⟩ = some (.int .i64 r.lsn) ∧ w.cell? ⟨BX, 3, none⟩ = some (.slice r.b.A r.b.l.length r.b.cap) := by
  have g := fun j => h.cell j
  exact ⟨by rw [g 0]; rfl, by rw [g 1]; rfl, by rw [g 2]; rfl, by rw [g 3]; rfl⟩
set_option maxHeartbeats 16000000 in
set_option maxRecDepth 100000 in
theorem walLives_ok (E : Env) (q : HP) (l : Sl StepV) (more : Sl RecV) (ext : Int) (w : World) (hst : Steps q l) (hm : RecsInZ q more) (hext : wf64 ext)
    (hq : ∀ E w, Sat E w q → Quarter w ∧ Lib.TabIs Tryz.prog w "internal/strconv.uint64pow10" .u64 Lib.pow10Tab) (hw : Sat E w q) :
    Calls Tryz.prog 3 #[l.val, more.val, .int .i64 ext] w fun e w' => e = .returned (.bool true) ∧ Sat E w' q := by
  unfold Sl.val
  have HST := Aside.mk hst
  have HQ := Aside.mk hq
  have HAN := Aside.mk hm
  have HW0 := Aside.mk hw
  have HEX := Aside.mk hext
  have hlen := hm.len
  have hlen3 := hst.len
  unfold maxLen at hlen hlen3
  generalize hN : more.l.length = n at *
  have HN := Aside.mk hN
  clear hN hq hst hm hw hext
  go_enter Tryz.func3, Tryz.ntmps3
  go_wp2_with fail
  refine (disks_ok E q 60 l _ ⟨by omega, by omega⟩ HST.out HW0.out).mono ?_
  rintro e w1 ⟨d, y, A0, rfl, hb1, hroom, h1⟩
  have H1 := Aside.mk h1
  have HB1 := Aside.mk hb1
  clear h1 hb1 hroom HW0
  go_wp2
  go_loopw [29] (fun v29 wr => ∃ (kx : Nat) (A : Dk), v29 = .int .i64 kx ∧ kx ≤ n ∧ Aside A.Byt ∧ Aside (Sat E wr (HP.disk d A * (HP.rdisk y A * q)))) (fun x _ => n - (intOf x).toNat)
  case atStart => exact ⟨0, A0, rfl, Nat.zero_le _, HB1, H1⟩
  case round =>
    clear H1 HB1
    obtain ⟨kx, A, rfl, hk, HB, HS⟩ := hrel
    by_cases hlt : kx < n
    · obtain ⟨r, ha⟩ : ∃ r, more.l[kx]? = some r := ⟨_, List.getElem?_eq_getElem (by rw [HN.out]; exact hlt)⟩
      have ham : r ∈ more.l := List.mem_of_getElem? ha
      have HR : Aside (∀ E w, Sat E w q → RecOk w r) := ⟨fun E w h => (HAN.out.cells E w h).2 r ham⟩
      have hro := HR.out _ _ HS.out.right.right
      obtain ⟨g, o, hA, g0, g1, g2, g3⟩ := HAN.out.at_ HS.out.right.right ha
      rw [hA]
      have hk0 : (0 : Int) ≤ (kx : Int) := by omega
      have hk1 : (kx : Int) < (n : Int) := by omega
      by_cases h12 : 12 < kx
      · have h12b : (12 : Int) < (kx : Int) := by omega
        have H2 := Aside.mk (HS.out.alloc (.cells #[.int .i64 r.seg, .int .i64 r.at_, .int .i64 r.lsn, .slice r.b.A r.b.l.length r.b.cap] 30)).right.right.right
        clear ha ham hA HS hro
        go_wp2_with fail
        refine (awake18_ok E q _ (fun w h => HQ.out _ w h) H2.out).mono ?_
        rintro e w2 ⟨rfl, h2⟩
        go_wp2
        go_ret
        exact ⟨rfl, h2⟩
      · have h12b : ¬ (12 : Int) < (kx : Int) := by omega
        have HRO := Aside.mk (And.intro hro.le (And.intro hro.cap hro.bytes))
        have HRW := Aside.mk (And.intro hro.seg (And.intro hro.at_ hro.lsn))
        obtain ⟨m, hm⟩ : ∃ m, m = min r.b.l.length 500 := ⟨_, rfl⟩
        have hm5 : m ≤ 500 := by omega
        have HM := Aside.mk hm
        have HCL : Aside (r.cut.length = m ∧ Bytes r.cut) := ⟨by rw [RecV.cut_length, HM.out], fun x hx => HRO.out.2.2 x (List.mem_of_mem_take hx)⟩
        have H2 := Aside.mk (HS.out.alloc (.cells #[.int .i64 r.seg, .int .i64 r.at_, .int .i64 r.lsn, .slice r.b.A r.b.l.length r.b.cap] 30))
        clear ha ham hA HS hro hm
        go_wp2_with fail
        refine (rec_cut E _ _ _ _ r.b.A r.b.l.length r.b.cap _ HRO.out.1 HRO.out.2.1 H2.out).mono ?_
        rintro e w3 ⟨rfl, h3⟩
        rw [← HM.out]
        obtain ⟨BX, hBX⟩ : ∃ BX, BX = wr.heap.size := ⟨_, rfl⟩
        rw [← hBX] at h3 ⊢
        have H3 := Aside.mk h3
        clear h3 H2 g0 g1 g2 g3 hBX
        go_wp2_with fail
        refine (bytesClone_ok E _ r.b.A r.cut m r.b.cap _ HCL.out.1 (by omega) H3.out (HR.out _ _ H3.out.right.right.right).cut_cells).mono ?_
        rintro e w4 ⟨vg, rfl, h4⟩
        obtain ⟨Ag, cg, rfl, hcg, hcgm⟩ := h4.row_slice
        have HCG := Aside.mk (And.intro hcg hcgm)
        clear hcg hcgm
        have H4 : Aside (Sat E w4 (HP.disk d A * (HP.pt BX (.cells #[.int .i64 r.seg, .int .i64 r.at_, .int .i64 r.lsn, .slice r.b.A r.b.l.length r.b.cap] 30) * (HP.rdisk y A * (HP.row 5 1 (.slice Ag m cg) m (b8s r.cut) * q))))) := ⟨h4.perm (by ac_rfl)⟩
        obtain ⟨c0, c1, c2, c3⟩ := rec_box H4.out.right
        clear h4 H3
        go_wp2_with fail
        refine (wal_append E _ d A r.seg r.at_ r.lsn Ag r.cut m cg _ HRW.out.1 HRW.out.2.1 HRW.out.2.2 HCL.out.1 HCG.out.1 HCG.out.2 HCL.out.2 (fun w h => ⟨(HQ.out _ w h.right.right.right).1, (HQ.out _ w h.right.right.right).2, h.right.right.row_cells⟩) H4.out).mono ?_
        rintro e w5 ⟨rfl, h5⟩
        have HB2 := Aside.mk (HB.out.appendW r.seg r.at_ r.lsn HCL.out.2)
        obtain ⟨⟨nn, en⟩, B, hap⟩ : ∃ r2 B, appendW A r.seg r.at_ r.lsn r.cut = (r2, B) := ⟨_, _, rfl⟩
        have HAP := Aside.mk hap
        rw [hap] at h5 HB2 ⊢
        clear hap c0 c1 c2 c3
        dsimp only at h5 HB2 ⊢
        have HS : Aside (Sat E w5 (HP.pt BX (.cells #[.int .i64 r.seg, .int .i64 r.at_, .int .i64 r.lsn, .slice r.b.A r.b.l.length r.b.cap] 30) * (HP.disk d B * (HP.rdisk y A * (HP.row 5 1 (.slice Ag m cg) m (b8s r.cut) * q))))) := ⟨h5.perm (by ac_rfl)⟩
        obtain ⟨c0, c1, c2, c3⟩ := rec_box HS.out
        clear h5 H4 HB
        go_upto_region 10 with fail
        clear c0 c1 c2 c3
        obtain ⟨c0, c1, c2, c3⟩ := rec_box HS.out.drew
        refine region_R [8, 9] [8] (fun W => Sat E W (HP.pt BX (.cells #[.int .i64 r.seg, .int .i64 r.at_, .int .i64 r.lsn, .slice r.b.A r.b.l.length r.b.cap] 30) * HP.any)) #[false, false, false, false, false, false, false, false, false, false, false, false, false, false, false] (by kernel_rfl) rfl rfl ?_
        have HT : Aside ((fun W => Sat E W (HP.pt BX (.cells #[.int .i64 r.seg, .int .i64 r.at_, .int .i64 r.lsn, .slice r.b.A r.b.l.length r.b.cap] 30) * HP.any)) _) := ⟨(Sat.any_of HS.out).drew⟩
        refine wpR_pu 0 #[true, false, false, false, false, false, false, false, false, false, false, false, false, false, false] rfl onlyN_noPanic (by kernel_rfl) (fun K hK => ?_); (go_simp; try go_bits); refine hK _ ?_; clear hK K
        refine wpR_pu 1 #[true, true, false, false, false, false, false, false, false, false, false, false, false, false, false] rfl onlyN_noPanic (by kernel_rfl) (fun K hK => ?_); (go_simp; try go_bits); refine hK _ ?_; clear hK K
        refine wpR_held (i := 2) (v := .int .i64 r.seg) #[true, true, true, false, false, false, false, false, false, false, false, false, false, false, false] rfl onlyN_noPanic (by kernel_rfl) HT.out (.inl ⟨rfl, fun w' hT => ?_⟩) ?_
        · obtain ⟨c0, c1, c2, c3⟩ := rec_box hT; go_simp
        simp only [Act.put, List.setIfInBounds_toArray, List.set_cons_zero, List.set_cons_succ]
        refine wpR_pu 3 #[true, true, true, true, false, false, false, false, false, false, false, false, false, false, false] rfl onlyN_noPanic (by kernel_rfl) (fun K hK => ?_); (go_simp; try go_bits); refine hK _ ?_; clear hK K
        refine wpR_held (i := 4) (v := .int .i64 r.at_) #[true, true, true, true, true, false, false, false, false, false, false, false, false, false, false] rfl onlyN_noPanic (by kernel_rfl) HT.out (.inl ⟨rfl, fun w' hT => ?_⟩) ?_
        · obtain ⟨c0, c1, c2, c3⟩ := rec_box hT; go_simp
        simp only [Act.put, List.setIfInBounds_toArray, List.set_cons_zero, List.set_cons_succ]
        refine wpR_pu 5 #[true, true, true, true, true, true, false, false, false, false, false, false, false, false, false] rfl onlyN_noPanic (by kernel_rfl) (fun K hK => ?_); (go_simp; try go_bits); refine hK _ ?_; clear hK K
        refine wpR_held (i := 6) (v := .int .i64 r.lsn) #[true, true, true, true, true, true, true, false, false, false, false, false, false, false, false] rfl onlyN_noPanic (by kernel_rfl) HT.out (.inl ⟨rfl, fun w' hT => ?_⟩) ?_
        · obtain ⟨c0, c1, c2, c3⟩ := rec_box hT; go_simp
        simp only [Act.put, List.setIfInBounds_toArray, List.set_cons_zero, List.set_cons_succ]
        refine wpR_rd 7 #[true, true, true, true, true, true, true, true, false, false, false, false, false, false, false] rfl onlyN_noPanic (by kernel_rfl) (fun K hK => ?_); (go_simp; try go_bits); refine hK _ ?_; clear hK K
        clear HT
        have HS0 := Aside.mk HS.out.drew
        clear HS
        revert HS0
        generalize World.drew w5 = W0
        intro HS0
        refine wpR_keep #[true, true, true, true, true, true, true, true, true, false, false, false, false, false, false] (i := 8) rfl (by kernel_rfl) (fun K hK => ?_)
        go_simp
        refine (rec_cut E _ _ _ _ r.b.A r.b.l.length r.b.cap _ HRO.out.1 HRO.out.2.1 HS0.out).mono ?_
        rintro e W1 ⟨rfl, hn1⟩
        rw [← HM.out]
        refine hK _ _ (Sat.any_of hn1) ?_
        clear hK K
        have HS1 : Aside (Sat E W1 (HP.pt BX (.cells #[.int .i64 r.seg, .int .i64 r.at_, .int .i64 r.lsn, .slice r.b.A r.b.l.length r.b.cap] 30) * (HP.disk d B * (HP.rdisk y A * (HP.row 5 1 (.slice Ag m cg) m (b8s r.cut) * q))))) := ⟨hn1.perm (by ac_rfl)⟩
        clear hn1
        refine wpR_eff #[true, true, true, true, true, true, true, true, true, true, false, false, false, false, false] (i := 9) rfl (by kernel_rfl) (fun K hK => ?_)
        go_simp
        refine (ref_wappend E _ y A r.seg r.at_ r.lsn r.b.A r.cut m r.b.cap _ HRW.out.1 HRW.out.2.1 HRW.out.2.2 HCL.out.1 (by have := HRO.out.1; have := HM.out; omega) HRO.out.2.1 HCL.out.2 (fun w h => (HR.out _ w h.right.right.right).cut_cells) HS1.out.s3).mono ?_
        rintro e W2 ⟨rfl, hn2a⟩
        have hn2 : Sat E W2 (HP.pt BX (.cells #[.int .i64 r.seg, .int .i64 r.at_, .int .i64 r.lsn, .slice r.b.A r.b.l.length r.b.cap] 30) * (HP.disk d B * (HP.rdisk y B * (HP.row 5 1 (.slice Ag m cg) m (b8s r.cut) * q)))) := by
          have h := hn2a
          rw [HAP.out] at h
          exact h.perm (by ac_rfl)
        rw [HAP.out]
        dsimp only
        refine hK _ _ ?_
        clear hK K hn2a
        have HS2 : Aside (Sat E W2 (HP.pt BX (.cells #[.int .i64 r.seg, .int .i64 r.at_, .int .i64 r.lsn, .slice r.b.A r.b.l.length r.b.cap] 30) * (HP.disk d B * (HP.rdisk y B * (HP.row 5 1 (.slice Ag m cg) m (b8s r.cut) * q))))) := ⟨hn2.perm (by ac_rfl)⟩
        clear hn2 HS1
        refine wpR_rd 10 #[true, true, true, true, true, true, true, true, true, true, true, false, false, false, false] rfl onlyN_noPanic (by kernel_rfl) (fun K hK => ?_); (go_simp; try go_bits); refine hK _ ?_; clear hK K
        refine wpR_rd 11 #[true, true, true, true, true, true, true, true, true, true, true, true, false, false, false] rfl onlyN_noPanic (by kernel_rfl) (fun K hK => ?_); (go_simp; try go_bits); refine hK _ ?_; clear hK K
        refine wpR_rd 12 #[true, true, true, true, true, true, true, true, true, true, true, true, true, false, false] rfl onlyN_noPanic (by kernel_rfl) (fun K hK => ?_); (go_simp; try go_bits); refine hK _ ?_; clear hK K
        refine wpR_rd 13 #[true, true, true, true, true, true, true, true, true, true, true, true, true, true, false] rfl onlyN_noPanic (by kernel_rfl) (fun K hK => ?_); (go_simp; try go_bits); refine hK _ ?_; clear hK K
        refine wpR_rd 14 #[true, true, true, true, true, true, true, true, true, true, true, true, true, true, true] rfl onlyN_noPanic (by kernel_rfl) (fun K hK => ?_); (go_simp; try go_bits); refine hK _ ?_; clear hK K
        refine wpR_done (by kernel_rfl) ?_ _
        simp only [OnlyN]
        have HS9 : Aside (Sat E W2 (HP.pt BX (.cells #[.int .i64 r.seg, .int .i64 r.at_, .int .i64 r.lsn, .slice r.b.A r.b.l.length r.b.cap] 30) * (HP.disk d B * (HP.rdisk y B * (HP.row 5 1 (.slice Ag m cg) m (b8s r.cut) * q))))) := ⟨HS2.out⟩
        clear HS2 c0 c1 c2 c3
        generalize W2 = w9 at *
        obtain ⟨c0, c1, c2, c3⟩ := rec_box HS9.out
        go_wp2_with fail
        refine (rec_cut E _ _ _ _ r.b.A r.b.l.length r.b.cap _ HRO.out.1 HRO.out.2.1 HS9.out).mono ?_
        rintro e w10 ⟨rfl, h10⟩
        rw [← HM.out]
        have H10 := Aside.mk h10
        clear h10 HS9 c0 c1 c2 c3
        obtain ⟨c0, c1, c2, c3⟩ := rec_box H10.out
        go_wp2_with fail
        refine (bytesEq_ok Ag r.b.A r.cut r.cut m m cg r.b.cap _ HCL.out.1 HCL.out.1 H10.out.right.right.right.row_cells (HR.out _ _ H10.out.right.right.right.right).cut_cells HCL.out.2 HCL.out.2).mono ?_
        rintro e w11 ⟨rfl, hw11⟩
        subst w11
        rw [decide_eq_true rfl]
        have H11 : Aside (Sat E w10 (HP.disk d B * (HP.rdisk y B * (HP.pt BX (.cells #[.int .i64 r.seg, .int .i64 r.at_, .int .i64 r.lsn, .slice r.b.A r.b.l.length r.b.cap] 30) * q)))) := ⟨(H10.out.perm (by ac_rfl : _ = HP.row 5 1 (.slice Ag m cg) m (b8s r.cut) * (HP.disk d B * (HP.rdisk y B * (HP.pt BX (.cells #[.int .i64 r.seg, .int .i64 r.at_, .int .i64 r.lsn, .slice r.b.A r.b.l.length r.b.cap] 30) * q))))).right⟩
        clear H10
        go_wp2_with fail
        refine (same_ok E _ d y B _ HB2.out H11.out).mono ?_
        rintro e w12 ⟨rfl, h12⟩
        have H12 := Aside.mk h12
        clear h12 H11 c0 c1 c2 c3
        obtain ⟨c0, c1, c2, c3⟩ := rec_box H12.out.right.right
        go_wp2_with fail
        refine (wal_readx E _ d B r.seg ext _ HRW.out.1 HEX.out HB2.out (fun w h => HQ.out _ w h.right.right) H12.out).mono ?_
        rintro e w13 ⟨V1, k1, R1, ss1, hl1, rfl, hc1, h13, hx1⟩
        obtain ⟨XC, XL, hX⟩ : ∃ XC XL, readX B r.seg ext = (XC, XL) := ⟨_, _, rfl⟩
        have HXA := Aside.mk (readX_all HB2.out r.seg ext)
        have HX := Aside.mk hX
        rw [hX] at hl1 HXA ⊢
        dsimp only at hl1 HXA ⊢
        have HL1 := Aside.mk (And.intro hl1 hx1)
        have H13 : Aside (Sat E w13 (HP.rdisk y B * (R1 * (HP.disk d B * (HP.pt BX (.cells #[.int .i64 r.seg, .int .i64 r.at_, .int .i64 r.lsn, .slice r.b.A r.b.l.length r.b.cap] 30) * q))))) := ⟨h13.perm (by ac_rfl)⟩
        clear hl1 hx1 hX h13 H12 c0 c1 c2 c3
        obtain ⟨c0, c1, c2, c3⟩ := rec_box (H13.out.right.right.right)
        go_wp2_with fail
        refine (ref_wreadx E _ y B r.seg ext _ HRW.out.1 HEX.out HB2.out H13.out).mono ?_
        rintro e w14 ⟨V2, k2, R2, ss2, hl2, rfl, hc2, h14, hx2⟩
        rw [HX.out] at hl2 ⊢
        dsimp only at hl2 ⊢
        have hN1 : ss1.length ≤ 2147483647 := by
          have h := congrArg List.length HL1.out.1
          have h2 := HXA.out.2
          rw [List.length_map] at h
          omega
        have hN2 : ss2.length ≤ 2147483647 := by
          have h := congrArg List.length hl2
          have h2 := HXA.out.2
          rw [List.length_map] at h
          omega
        have HT1 : Aside (Texts w14 V1 ss1) := ⟨by
          have h := HL1.out.2 w14 _ (h14.perm (by ac_rfl : _ = R1 * (R2 * (HP.rdisk y B * (HP.disk d B * (HP.pt BX (.cells #[.int .i64 r.seg, .int .i64 r.at_, .int .i64 r.lsn, .slice r.b.A r.b.l.length r.b.cap] 30) * q))))))
          exact ⟨h.1, h.2, fun s hs => HXA.out.1 _ (by rw [← HL1.out.1]; exact List.mem_map_of_mem hs)⟩⟩
        have HT2 : Aside (Texts w14 V2 ss2) := ⟨by
          have h := hx2 w14 _ h14
          exact ⟨h.1, h.2, fun s hs => HXA.out.1 _ (by rw [← hl2]; exact List.mem_map_of_mem hs)⟩⟩
        have HLL : Aside (ss1.map (·.l) = ss2.map (·.l)) := ⟨by rw [HL1.out.1, hl2]⟩
        have H14 : Aside (Sat E w14 (HP.disk d B * (HP.rdisk y B * q))) := ⟨(h14.perm (by ac_rfl : _ = R2 * (R1 * (HP.pt BX (.cells #[.int .i64 r.seg, .int .i64 r.at_, .int .i64 r.lsn, .slice r.b.A r.b.l.length r.b.cap] 30) * (HP.disk d B * (HP.rdisk y B * q)))))).right.right.right⟩
        clear hl2 hx2 h14 H13 c0 c1 c2 c3 HL1 HXA
        go_wp2_with fail
        refine (sameTexts_ok V1 V2 ss1 ss2 ss1.length ss2.length k1 k2 _ rfl rfl (by omega) (by omega) HT1.out HT2.out).mono ?_
        rintro e w15 ⟨rfl, hw15⟩
        subst w15
        rw [decide_eq_true HLL.out]
        clear HT1 HT2 HLL
        go_wp2
        go_roundw
        case rel => exact ⟨kx + 1, B, by go_num, by omega, HB2, H14⟩
        case measure => simp [intOf]; omega
    · obtain rfl : kx = n := by omega
      have H2 := Aside.mk HS.out.right.right
      clear HS
      go_wp2_with fail
      refine (awake18_ok E q _ (fun w h => HQ.out _ w h) H2.out).mono ?_
      rintro e w2 ⟨rfl, h2⟩
      go_wp2
      go_ret
      exact ⟨rfl, h2⟩
end Go.Proofs.YtcjcccbjgooooaaGreatDoor
/- Steps as a law's argument, behind tied cards. -/
namespace Go.Proofs.YtcjcccbjgooooaaGreatDoor
open Go.ChangeShapes Go.WideShapes Go.ChangeAt Go.RowKit HP
set_option linter.unusedVariables false

theorem rdSteps_at : (rdSl rdStep).At Tryz.prog 22 := rdSl_at (n := 8) Tryz.underlying22 (by kernel_rfl) rdStep_at
structure StepsOk (W : World) (s : Sl StepV) : Prop where
  len : s.l.length ≤ s.cap
  cap : s.cap ≤ maxLen
  cells : Cells W s.A (s.l.flatMap StepV.vals)
  each : ∀ x ∈ s.l, x.Ok W
theorem steps_ok {W : World} {s : Sl StepV} (h : (rdSl rdStep).ok W s) : StepsOk W s := ⟨h.1, h.2.1, h.2.2.1, fun x hx => step_ok (h.2.2.2 x hx)⟩
theorem steps_old {W : World} {s : Sl StepV} (h : (rdSl rdStep).ok W s) : Steps (HP.old W) s :=
  ⟨Nat.le_trans (steps_ok h).len (steps_ok h).cap, fun x hx => ((steps_ok h).each x hx).wf, fun E w hw => ⟨(steps_ok h).cells.carry (old_carry hw), fun x hx => ⟨((steps_ok h).each x hx).b.2.2.1.carry (old_carry hw), ((steps_ok h).each x hx).kept.2.2.1.carry (old_carry hw)⟩⟩⟩
end Go.Proofs.YtcjcccbjgooooaaGreatDoor
/- The listed tables of AnchorNames: what the condition gives a walk. -/
namespace Go.Proofs.YtcjcccbjgooooaaGreatDoor
open Go.ChangeShapes Go.WideShapes Go.ChangeAt Go.WideMaps Go.WideElems Go.RowKit HP
set_option linter.unusedVariables false

theorem quarter_of_reads {W : World} (h : Lib.VarReads Tryz.prog W "dryrot/crc.quarter" Rows.laid_dryrot_crc_quarter) : Quarter W := by
  obtain ⟨g0, t0, cs0, f0, p0, hg0, ht0, hv0, hd0⟩ := h
  obtain rfl := Option.some.inj (gQuarter.symm.trans hg0)
  obtain rfl := Option.some.inj (tQuarter.symm.trans ht0)
  obtain ⟨xs, m1, rfl, hx1, hlen, hn3, hel⟩ := DataW.trod_array Tryz.underlying215 hd0
  have c3 : Tryz.prog.cellsOf 161 = 1 := by kernel_rfl
  simp only [Prod.mk.injEq, DataW.agg.injEq, Rows.laid_dryrot_crc_quarter] at hx1
  intro i hi
  have hi' := hel i hi
  rw [c3, Nat.mul_one] at hi'
  have hxl : i < xs.length := by omega
  rw [List.getElem?_eq_getElem hxl] at hi'
  obtain ⟨k, e1, e2, _⟩ := DataW.trod_int Tryz.underlying161 hi'
  have e3 : (xs.map (·.1))[i]? = some (DataW.lit (.int .u32 k)) := by
    rw [List.getElem?_map, List.getElem?_eq_getElem hxl]
    simp [e2]
  rw [← hx1.1] at e3
  have hk : k = quarterN i := by
    match i, hi with
    | 0, _ => simpa [quarterN] using e3.symm
    | 1, _ => simpa [quarterN] using e3.symm
    | 2, _ => simpa [quarterN] using e3.symm
    | 3, _ => simpa [quarterN] using e3.symm
  have e4 := World.var?_cell hg0 hv0 i
  have e5 : cs0.toList[i]? = some (.int .u32 k) := by
    have := congrArg (fun l => l[0]?) e1
    simpa [List.getElem?_take] using this
  rw [Array.getElem?_toList, hk] at e5
  rw [← e5, ← e4]
theorem pow10_tab : (Rows.laid_internal_strconv_uint64pow10 : DataW Unit) = Lib.tabData .u64 Lib.pow10Tab := by kernel_rfl
theorem pow10_of_reads {W : World} (h : Lib.VarReads Tryz.prog W "internal/strconv.uint64pow10" Rows.laid_internal_strconv_uint64pow10) : Lib.TabIs Tryz.prog W "internal/strconv.uint64pow10" .u64 Lib.pow10Tab := by
  obtain ⟨g0, t0, cs0, f0, p0, hg0, ht0, hv0, hd0⟩ := h
  have hg : Tryz.prog.globalNamed "internal/strconv.uint64pow10" = some 1 := by kernel_rfl
  have ht : (Tryz.prog.globals[1]?).map (·.type) = some 229 := by kernel_rfl
  obtain rfl := Option.some.inj (hg.symm.trans hg0)
  obtain rfl := Option.some.inj (ht.symm.trans ht0)
  unfold Lib.TabIs
  rw [hv0, ← Lib.cells_of_tab Tryz.underlying229 Tryz.underlying72 (by kernel_rfl) (by kernel_rfl) (pow10_tab ▸ hd0)]
def laidN : List (String × DataW Unit) := [("dryrot/crc.quarter", Rows.laid_dryrot_crc_quarter), ("math/bits.deBruijn32tab", Rows.laid_math_bits_deBruijn32tab), ("math/bits.deBruijn64tab", Rows.laid_math_bits_deBruijn64tab), ("internal/strconv.uint64pow10", Rows.laid_internal_strconv_uint64pow10)]
theorem door_metN (os : Os) (args : Array Value) : laidMetH Tryz.prog laidN ((World.doorLaid Tryz.prog 400 os).forCall (fun _ _ => 0) ⟨#[], args, []⟩).memory :=
  laidMetH_of_parts3 (fuel := 8) (laidMet_of_run' 8 (by kernel_rfl) (by kernel_rfl)) (by kernel_rfl) (by kernel_rfl)
theorem laidN_reads {W : World} (h : laidMetH Tryz.prog laidN W) : Quarter W ∧ Lib.TabIs Tryz.prog W "internal/strconv.uint64pow10" .u64 Lib.pow10Tab := by
  rw [MakeChecks.laidMetH_plain _ _ _ (by kernel_rfl)] at h
  obtain ⟨ps, hL, -⟩ := h
  exact ⟨quarter_of_reads (Lib.LaidVars_reads hL _ _ (by simp [laidN])), pow10_of_reads (Lib.LaidVars_reads hL _ _ (by simp [laidN]))⟩
end Go.Proofs.YtcjcccbjgooooaaGreatDoor
/- The listed tables stay. -/
namespace Go.Proofs.YtcjcccbjgooooaaGreatDoor
open Go.ChangeShapes Go.WideShapes Go.ChangeAt Go.RowKit HP
set_option linter.unusedVariables false
theorem tab_old {E : Env} {W w : World} {name : String} {k : IntKind} {zs : List Int} (h : Lib.TabIs Tryz.prog W name k zs) (ho : Sat E w (HP.old W)) : Lib.TabIs Tryz.prog w name k zs := by
  unfold Lib.TabIs World.var? at *
  cases hg : Tryz.prog.globalNamed name with
  | none => simp [hg] at h
  | some g =>
    simp only [hg, Option.bind_some] at h ⊢
    have hlt : g < W.heap.size := by
      rcases Nat.lt_or_ge g W.heap.size with h' | h'
      · exact h'
      · rw [Array.getElem?_eq_none h'] at h; simp at h
    rw [old_carry ho g hlt]
    exact h
end Go.Proofs.YtcjcccbjgooooaaGreatDoor
/- A list of records as an argument. -/
namespace Go.Proofs.YtcjcccbjgooooaaGreatDoor
open Go.ChangeShapes Go.WideShapes Go.ChangeAt Go.RowKit HP
set_option linter.unusedVariables false
theorem rdRecsZ_at : (rdSl rdRec).At Tryz.prog 23 := rdSl_at (n := 4) Tryz.underlying23 (by kernel_rfl) rdRec_at
theorem recs_inZ {W : World} {s : Sl RecV} (h : (rdSl rdRec).ok W s) : RecsInZ (HP.old W) s :=
  ⟨Nat.le_trans h.1 h.2.1, fun E w hw => ⟨Cells.carry (cs := s.l.flatMap RecV.valsZ) h.2.2.1 (old_carry hw), fun r hr => (rec_ok (h.2.2.2 r hr)).carry (old_carry hw)⟩⟩
end Go.Proofs.YtcjcccbjgooooaaGreatDoor
