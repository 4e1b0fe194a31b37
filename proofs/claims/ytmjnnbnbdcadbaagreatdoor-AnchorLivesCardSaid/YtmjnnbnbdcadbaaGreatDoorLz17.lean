/- Texts of one claim, one behind the other: Same3, Disks3, ALvW, StpT. -/
import Derived.Test.YtmjnnbnbdcadbaaGreatDoorLz16
/- dryrotplain.Same: two disks told by one model are the same, as far as they tell. -/
namespace Go.Proofs.YtmjnnbnbdcadbaaGreatDoor
open Go.RowKit HP
set_option linter.unusedSimpArgs false
set_option linter.unusedVariables false

theorem cel_some {A : Dk} {s : ByteArray} {i : Nat} (hi : i < (A.at s).length) : ∃ c, A.cel s i = some c ∧ c ∈ A.at s := by
  unfold Dk.cel
  rw [if_pos (by omega), Int.toNat_natCast, List.getElem?_eq_getElem hi]
  exact ⟨_, rfl, List.getElem_mem hi⟩
theorem at_fine {A : Dk} (h : A.Fine) {s : ByteArray} {c : Cel} (hc : c ∈ A.at s) : c.Fine := by
  unfold Dk.at at hc
  cases hl : lk A.files s with
  | none => rw [hl] at hc; cases hc
  | some l => rw [hl] at hc; exact h.cels _ (lk_mem hl) c hc
theorem names_map (A : Dk) : namesV A = (A.files.map (·.1)).map Value.string := by unfold namesV; rw [List.map_map]; rfl
theorem damaged_le {A : Dk} (h : A.Fine) : A.damaged.length ≤ 100000 := by
  have h1 : A.damaged.length ≤ sizeF A.files := spots_length A.files
  have h2 := h.fits
  have h3 := h.room
  omega
set_option maxHeartbeats 4000000 in
set_option maxRecDepth 100000 in
theorem same_ok (E : Env) (q : HP) (d y : Nat) (A : Dk) (w : World) (hb : A.Byt) (hw : Sat E w (HP.disk d A * (HP.rdisk y A * q))) :
    Calls Tryz.prog 11 #[.pointer (some ⟨d, 0, none⟩), .pointer (some ⟨y, 0, none⟩)] w fun e w' => e = .returned (.bool true) ∧ Sat E w' (HP.disk d A * (HP.rdisk y A * q)) := by
  have HF := Aside.mk hw.disk_fine
  have HB := Aside.mk hb
  have hnl := files_le HF.out
  have hdl := damaged_le HF.out
  have HW := Aside.mk hw
  clear hw hb
  obtain ⟨nl, hnle⟩ : ∃ nl, nl = A.files.length := ⟨_, rfl⟩
  obtain ⟨dl, hdle⟩ : ∃ dl, dl = A.damaged.length := ⟨_, rfl⟩
  rw [← hnle] at hnl
  rw [← hdle] at hdl
  have HNL := Aside.mk hnle
  have HDL := Aside.mk hdle
  clear hnle hdle
  go_enter Tryz.func11, Tryz.ntmps11
  go_wp2_with fail
  refine (rdisk_list E _ y A _ HW.out.s2).mono ?_
  rintro e w1 ⟨v, rfl, h1⟩
  rw [← HNL.out] at h1
  obtain ⟨AL, cL, rfl, hcL, -⟩ := h1.row_slice
  have H1 : Aside (Sat E w1 (HP.disk d A * (HP.row 9 1 (.slice AL nl cL) nl (namesV A) * (HP.rdisk y A * q)))) := ⟨h1.perm (by ac_rfl)⟩
  clear h1 HW
  go_wp2_with fail
  refine (disk_list E _ d A _ H1.out).mono ?_
  rintro e w2 ⟨v, rfl, h2⟩
  rw [← HNL.out] at h2
  obtain ⟨AM, cM, rfl, hcM, -⟩ := h2.row_slice
  have H2 := Aside.mk h2
  clear h2 H1
  go_wp2_with fail
  refine (strs_equal E _ AM AL (A.files.map (·.1)) (A.files.map (·.1)) nl nl cM cL _ (by rw [List.length_map, ← HNL.out]) (by rw [List.length_map, ← HNL.out]) (by omega) (by omega) (fun w h => by rw [← names_map]; exact ⟨h.row_cells, h.s3.row_cells⟩) H2.out).mono ?_
  rintro e w3 ⟨rfl, h3⟩
  rw [decide_eq_true rfl]
  have H3 : Aside (Sat E w3 (HP.disk d A * (HP.row 9 1 (.slice AL nl cL) nl (namesV A) * (HP.rdisk y A * q)))) := ⟨h3.right⟩
  clear h3 H2
  go_wp2_with fail
  refine (disk_free_ok E _ d A _ H3.out).mono ?_
  rintro e w4 ⟨rfl, h4⟩
  have H4 : Aside (Sat E w4 (HP.rdisk y A * (HP.disk d A * (HP.row 9 1 (.slice AL nl cL) nl (namesV A) * q)))) := ⟨h4.perm (by ac_rfl)⟩
  clear h4 H3
  obtain ⟨fr, hfr⟩ : ∃ fr, fr = A.free := ⟨_, rfl⟩
  have HRF := Aside.mk (rdisk_free E _ y A _ H4.out)
  rw [← hfr] at HRF ⊢
  clear hfr
  go_wp2_with fail
  refine HRF.out.mono ?_
  rintro e w5 ⟨rfl, h5⟩
  have H5 : Aside (Sat E w5 (HP.disk d A * (HP.row 9 1 (.slice AL nl cL) nl (namesV A) * (HP.rdisk y A * q)))) := ⟨h5.perm (by ac_rfl)⟩
  clear h5 HRF H4
  go_wp2_with fail
  refine (disk_damaged E _ d A _ H5.out).mono ?_
  rintro e w6 ⟨v, rfl, h6⟩
  rw [← HDL.out] at h6
  obtain ⟨D0, e0, rfl, -, -⟩ := h6.row_slice
  have H6 : Aside (Sat E w6 (HP.rdisk y A * (HP.row 105 2 (.slice D0 dl e0) dl (A.damaged.flatMap encSpot) * (HP.disk d A * (HP.row 9 1 (.slice AL nl cL) nl (namesV A) * q))))) := ⟨h6.perm (by ac_rfl)⟩
  clear h6 H5
  go_wp2_with fail
  refine (rdisk_damaged E _ y A _ H6.out HB.out).mono ?_
  rintro e w7 ⟨v, rfl, h7⟩
  rw [← HDL.out] at h7
  obtain ⟨D1, e1, rfl, -, -⟩ := h7.row_slice
  have H7 := Aside.mk h7
  clear h7 H6
  go_wp2_with fail
  refine (spots_equal E _ D0 D1 A.damaged A.damaged dl dl e0 e1 _ HDL.out.symm HDL.out.symm (by omega) (by omega) (fun w h => ⟨h.s3.row_cells, h.row_cells⟩) H7.out).mono ?_
  rintro e w8 ⟨rfl, h8⟩
  rw [decide_eq_true rfl]
  have H8 : Aside (Sat E w8 (HP.row 9 1 (.slice AL nl cL) nl (namesV A) * (HP.disk d A * (HP.rdisk y A * q)))) := ⟨(h8.perm (by ac_rfl : _ = HP.row 105 2 (.slice D1 dl e1) dl (A.damaged.flatMap encSpot) * (HP.row 105 2 (.slice D0 dl e0) dl (A.damaged.flatMap encSpot) * (HP.row 9 1 (.slice AL nl cL) nl (namesV A) * (HP.disk d A * (HP.rdisk y A * q)))))).right.right⟩
  clear h8 H7
  go_wp2
  go_loopw [37] (fun v37 wr => ∃ j : Nat, v37 = .int .i64 j ∧ j ≤ nl ∧ Aside (Sat E wr (HP.row 9 1 (.slice AL nl cL) nl (namesV A) * (HP.disk d A * (HP.rdisk y A * q))))) (fun x _ => nl - (intOf x).toNat)
  case atStart => exact ⟨0, rfl, Nat.zero_le _, H8⟩
  case round =>
    clear H8
    obtain ⟨j, rfl, hj, HS⟩ := hrel
    by_cases hlt : j < nl
    · have hj1 : (j : Int) < (nl : Int) := by omega
      have hj0 : (0 : Int) ≤ (j : Int) := by omega
      obtain ⟨nm, hnm⟩ : ∃ nm, (A.files.map (·.1))[j]? = some nm := ⟨_, List.getElem?_eq_getElem (by rw [List.length_map, ← HNL.out]; exact hlt)⟩
      have hnsz : nm.size ≤ maxLen := by
        obtain ⟨x, hx, rfl⟩ := List.mem_map.1 (List.mem_of_getElem? hnm)
        exact names_le HF.out hx
      have gj : (namesV A)[j]? = some (.string nm) := by rw [names_map, List.getElem?_map, hnm]; rfl
      obtain ⟨gL, oL, rfl⟩ : ∃ g o, AL = some ⟨g, o, none⟩ := by
        obtain ⟨a, ha, -⟩ := HS.out.row_cells _ _ gj
        obtain ⟨g, o, rfl⟩ : ∃ g o, a = ⟨g, o, none⟩ := slice_addr HS.out.row_cells ha (List.getElem?_eq_some_iff.1 gj).1
        exact ⟨g, o, ha⟩
      have cj := HS.out.row_cells.some_ _ _ gj
      rw [addr_add] at cj
      clear gj hnm
      have hes := at_small HF.out nm
      have HNS := Aside.mk hnsz
      obtain ⟨ne, hne⟩ : ∃ ne, ne = (A.at nm).length := ⟨_, rfl⟩
      rw [← hne] at hes
      have HNE := Aside.mk hne
      have HX1 := Aside.mk (fun w (h : Sat E w (HP.disk d A * (HP.row 9 1 (.slice (some ⟨gL, oL, none⟩) nl cL) nl (namesV A) * (HP.rdisk y A * q)))) => disk_extents E _ d A nm w hnsz h)
      have HX2 := Aside.mk (fun w (h : Sat E w (HP.rdisk y A * (HP.disk d A * (HP.row 9 1 (.slice (some ⟨gL, oL, none⟩) nl cL) nl (namesV A) * q)))) => rdisk_extents E _ y A nm w h)
      rw [← hne] at HX1 HX2
      clear hnsz hne
      go_wp2_with fail
      refine (HX1.out _ HS.out.s2).mono ?_
      rintro e w4 ⟨rfl, hw4⟩; subst w4
      clear cj
      have H9 : Aside (Sat E wr (HP.rdisk y A * (HP.disk d A * (HP.row 9 1 (.slice (some ⟨gL, oL, none⟩) nl cL) nl (namesV A) * q)))) := ⟨HS.out.perm (by ac_rfl)⟩
      clear HS
      go_wp2_with fail
      refine (HX2.out _ H9.out).mono ?_
      rintro e w9 ⟨rfl, h9⟩
      have H10 := Aside.mk h9
      clear h9 H9
      go_wp2_with fail
      refine (HX2.out _ H10.out).mono ?_
      rintro e w10 ⟨rfl, h10⟩
      have HS : Aside (Sat E w10 (HP.disk d A * (HP.rdisk y A * (HP.row 9 1 (.slice (some ⟨gL, oL, none⟩) nl cL) nl (namesV A) * q)))) := ⟨h10.perm (by ac_rfl)⟩
      clear h10 H10 HX1 HX2
      go_wp2
      go_loopw [51] (fun v51 wi => ∃ i : Nat, v51 = .int .i64 i ∧ i ≤ ne ∧ Aside (Sat E wi (HP.disk d A * (HP.rdisk y A * (HP.row 9 1 (.slice (some ⟨gL, oL, none⟩) nl cL) nl (namesV A) * q))))) (fun x _ => ne - (intOf x).toNat)
      case atStart => exact ⟨0, rfl, Nat.zero_le _, HS⟩
      case round =>
        clear HS
        obtain ⟨i, rfl, hi, HS⟩ := hrel
        by_cases hil : i < ne
        · have hi1 : (i : Int) < (ne : Int) := by omega
          have hi0 : (0 : Int) ≤ (i : Int) := by omega
          obtain ⟨c, hc, hcm⟩ := cel_some (A := A) (s := nm) (i := i) (by rw [← HNE.out]; exact hil)
          have HC := Aside.mk (And.intro hc (And.intro (at_fine HF.out hcm) (HB.out.at nm c hcm)))
          clear hc hcm
          go_wp2_with fail
          refine (disk_read_ok E _ d A nm i _ HNS.out HS.out).mono ?_
          rw [HC.out.1]
          rintro e w11 ⟨v, rfl, h11⟩
          obtain ⟨B0, b0, rfl, -, -⟩ := h11.row_slice
          have H11 : Aside (Sat E w11 (HP.rdisk y A * (HP.row 5 1 (.slice B0 128 b0) 128 (b8s c.read) * (HP.disk d A * (HP.row 9 1 (.slice (some ⟨gL, oL, none⟩) nl cL) nl (namesV A) * q))))) := ⟨h11.perm (by ac_rfl)⟩
          clear h11 HS
          go_wp2_with fail
          refine (rdisk_read E _ y A nm i _ H11.out).mono ?_
          rw [HC.out.1]
          rintro e w12 ⟨v, rfl, h12⟩
          obtain ⟨B1, b1, rfl, -, -⟩ := h12.row_slice
          have H12 := Aside.mk h12
          clear h12 H11
          go_wp2_with fail
          refine (bytesEq_ok B0 B1 c.read c.read 128 128 b0 b1 _ HC.out.2.1.1 HC.out.2.1.1 H12.out.s3.row_cells H12.out.row_cells HC.out.2.2.1 HC.out.2.2.1).mono ?_
          rintro e w13 ⟨rfl, hw13⟩; subst w13
          rw [decide_eq_true rfl]
          have HS2 : Aside (Sat E w12 (HP.disk d A * (HP.rdisk y A * (HP.row 9 1 (.slice (some ⟨gL, oL, none⟩) nl cL) nl (namesV A) * q)))) := ⟨(H12.out.perm (by ac_rfl : _ = HP.row 5 1 (.slice B0 128 b0) 128 (b8s c.read) * (HP.row 5 1 (.slice B1 128 b1) 128 (b8s c.read) * (HP.disk d A * (HP.rdisk y A * (HP.row 9 1 (.slice (some ⟨gL, oL, none⟩) nl cL) nl (namesV A) * q)))))).right.right⟩
          clear H12
          go_wp2
          go_roundw
          case rel => exact ⟨i + 1, by go_num, by omega, HS2⟩
          case measure => simp [intOf]; omega
        · have HS2 : Aside (Sat E _ (HP.row 9 1 (.slice (some ⟨gL, oL, none⟩) nl cL) nl (namesV A) * (HP.disk d A * (HP.rdisk y A * q)))) := ⟨HS.out.s3⟩
          have hi1 : ¬ (i : Int) < (ne : Int) := by omega
          clear HS
          go_wp2
          go_roundw
          case rel => exact ⟨j + 1, by go_num, by omega, HS2⟩
          case measure => simp [intOf]; omega
    · have hj1 : ¬ (j : Int) < (nl : Int) := by omega
      go_wp2
      go_ret
      exact ⟨rfl, HS.out.right⟩
end Go.Proofs.YtmjnnbnbdcadbaaGreatDoor
/- dryrotplain.Disks: two new disks, with steps done on both: they are told by one model. -/
namespace Go.Proofs.YtmjnnbnbdcadbaaGreatDoor
open Go.RowKit HP
set_option linter.unusedSimpArgs false
set_option linter.unusedVariables false

theorem Dk.write_room (A : Dk) (s : ByteArray) (i : Int) (b : List Int) : (A.write s i b).2.room = A.room := by
  unfold Dk.write
  split
  · rfl
  split
  · rfl
  split
  · rfl
  split <;> rfl
theorem Dk.sync_room (A : Dk) (s : ByteArray) : (A.sync s).2.room = A.room := by
  unfold Dk.sync
  split
  · rfl
  · split <;> rfl
theorem Dk.remove_room (A : Dk) (s : ByteArray) : (A.remove s).2.room = A.room := by
  unfold Dk.remove
  split
  · rfl
  · split <;> rfl
theorem Dk.rot_room (A : Dk) (s : ByteArray) (i a m : Int) : (A.rot s i a m).2.room = A.room := by
  unfold Dk.rot
  split
  · rfl
  · split <;> rfl
theorem Dk.stepK_room (A : Dk) (s : StepV) (k : Int) : (A.stepK s k).room = A.room := by
  unfold Dk.stepK
  split
  · exact A.write_room _ _ _
  split
  · exact A.write_room _ _ _
  split
  · exact A.sync_room _
  split
  · exact A.remove_room _
  split
  · exact A.rot_room _ _ _ _
  split
  · rfl
  unfold Dk.fuseK
  split <;> rfl
/-- The steps of a list, read. -/
structure Steps (q : HP) (l : Sl StepV) : Prop where
  len : l.l.length ≤ maxLen
  wf : ∀ s ∈ l.l, s.Wf
  cells : ∀ E w, Sat E w q → Cells w l.A (l.l.flatMap StepV.vals) ∧ ∀ s ∈ l.l, Cells w s.b.A (b8s s.b.l) ∧ Cells w s.kept.A (kepCells s.kept.l)
theorem Steps.mul {q r : HP} {l : Sl StepV} (h : Steps q l) : Steps (r * q) l := ⟨h.len, h.wf, fun E w hw => h.cells E w hw.right⟩
theorem Steps.at_ {q : HP} {l : Sl StepV} (h : Steps q l) {E : Env} {w : World} (hw : Sat E w q) {k : Nat} {s : StepV} (hs : l.l[k]? = some s) :
    ∃ g o, l.A = some ⟨g, o, none⟩ ∧ w.cell? ⟨g, o + k * 8, none⟩ = some (.int .i64 s.op) ∧ w.cell? ⟨g, o + k * 8 + 1, none⟩ = some (.int .i64 s.i) ∧ w.cell? ⟨g, o + k * 8 + 2, none⟩ = some (.int .i64 s.at_) ∧ w.cell? ⟨g, o + k * 8 + 3, none⟩ = some (.int .i64 s.n) ∧ w.cell? ⟨g, o + k * 8 + 4, none⟩ = some (.string s.name) ∧ w.cell? ⟨g, o + k * 8 + 5, none⟩ = some (.slice s.b.A s.b.l.length s.b.cap) ∧ w.cell? ⟨g, o + k * 8 + 6, none⟩ = some (.int .u8 s.mask) ∧ w.cell? ⟨g, o + k * 8 + 7, none⟩ = some (.slice s.kept.A s.kept.l.length s.kept.cap) := by
  have hcm := (h.cells _ _ hw).1
  have hg := fun j (hj : j < 8) => flat_get StepV.vals 8 l.l (fun _ => rfl) k j s hs hj
  have g0 := hg 0 (by omega)
  obtain ⟨pa, hpa, -⟩ := hcm _ _ g0
  obtain ⟨g, o, rfl⟩ : ∃ g o, pa = ⟨g, o, none⟩ := slice_addr hcm hpa (List.getElem?_eq_some_iff.1 g0).1
  rw [hpa] at hcm
  have f : ∀ j, j < 8 → ∀ u, s.vals[j]? = some u → w.cell? ⟨g, o + k * 8 + j, none⟩ = some u := fun j hj u hu => by
    have h1 := hcm.some_ (k * 8 + j) u ((hg j hj).trans hu)
    rw [addr_add, ← Nat.add_assoc] at h1
    exact h1
  exact ⟨g, o, hpa, f 0 (by omega) _ rfl, f 1 (by omega) _ rfl, f 2 (by omega) _ rfl, f 3 (by omega) _ rfl, f 4 (by omega) _ rfl, f 5 (by omega) _ rfl, f 6 (by omega) _ rfl, f 7 (by omega) _ rfl⟩
set_option maxHeartbeats 4000000 in
set_option maxRecDepth 100000 in
theorem disks_ok (E : Env) (q : HP) (room : Int) (l : Sl StepV) (w : World) (hr : 0 ≤ room ∧ room ≤ 100000) (hst : Steps q l) (hw : Sat E w q) :
    Calls Tryz.prog 7 #[.int .i64 room, l.val] w fun e w' => ∃ d y A, e = .returned (.tuple #[.pointer (some ⟨d, 0, none⟩), .pointer (some ⟨y, 0, none⟩), .bool true]) ∧ A.Byt ∧ A.room = room ∧ Sat E w' (HP.disk d A * (HP.rdisk y A * q)) := by
  unfold Sl.val
  have HST := Aside.mk hst
  have hlen := hst.len
  unfold maxLen at hlen
  have HR := Aside.mk hr
  clear hst
  go_enter Tryz.func7, Tryz.ntmps7
  go_wp2_with fail
  refine (disk_new_ok E q room w hr hw).mono ?_
  rintro e w1 ⟨d, rfl, h1⟩
  have H1 := Aside.mk h1
  clear h1 hw
  go_wp2_with fail
  refine (ref_new E _ room w1 HR.out H1.out).mono ?_
  rintro e w2 ⟨y, rfl, h2⟩
  have H2 : Aside (Sat E w2 (HP.disk d (Dk.new room) * (HP.rdisk y (Dk.new room) * q))) := ⟨h2.s2⟩
  have HB0 := Aside.mk (Dk.Byt.new room)
  have HR0 : Aside ((Dk.new room).room = room) := ⟨rfl⟩
  clear h2 H1 hr
  generalize hN : l.l.length = n at *
  have HN := Aside.mk hN
  clear hN
  go_wp2
  go_loopw [38] (fun x wr => ∃ (k : Nat) (A : Dk), x = .int .i64 k ∧ k ≤ n ∧ Aside A.Byt ∧ Aside (A.room = room) ∧ Aside (Sat E wr (HP.disk d A * (HP.rdisk y A * q)))) (fun x _ => n - (intOf x).toNat)
  case atStart => exact ⟨0, _, rfl, Nat.zero_le _, HB0, HR0, H2⟩
  case round =>
    clear H2 HB0 HR0
    obtain ⟨k, A, rfl, hk, HB, HRM, HS⟩ := hrel
    by_cases hlt : k < n
    · obtain ⟨s, hs⟩ : ∃ s, l.l[k]? = some s := ⟨_, List.getElem?_eq_getElem (by rw [HN.out]; exact hlt)⟩
      have hsm : s ∈ l.l := List.mem_of_getElem? hs
      obtain ⟨g, o, hA, g0, g1, g2, g3, g4, g5, g6, g7⟩ := HST.out.at_ HS.out.right.right hs
      rw [hA]
      have hk0 : (0 : Int) ≤ (k : Int) := by omega
      have hk1 : (k : Int) < (n : Int) := by omega
      have HB2 := Aside.mk (HS.out.alloc (.cells #[.int .i64 s.op, .int .i64 s.i, .int .i64 s.at_, .int .i64 s.n, .string s.name, .slice s.b.A s.b.l.length s.b.cap, .int .u8 s.mask, .slice s.kept.A s.kept.l.length s.kept.cap] 37)).right
      have HWF := Aside.mk (HST.out.wf s hsm)
      have HCL : Aside (∀ E w, Sat E w q → Cells w s.b.A (b8s s.b.l) ∧ Cells w s.kept.A (kepCells s.kept.l)) := ⟨fun E w h => (HST.out.cells E w h).2 s hsm⟩
      clear hs hsm HS hA
      by_cases h40 : (k : Int) < 40
      · go_wp2_with fail
        refine (do_ok E q d y A s _ HWF.out HCL.out HB2.out).mono ?_
        rintro e w10 ⟨rfl, h10⟩
        have H10 := Aside.mk h10
        have HB3 := Aside.mk (HB.out.stepK HWF.out (opK s.op))
        have HRM3 : Aside ((A.stepK s (opK s.op)).room = room) := ⟨by rw [Dk.stepK_room]; exact HRM.out⟩
        clear h10 HB2 g0 g1 g2 g3 g4 g5 g6 g7
        go_wp2
        go_roundw
        case rel => exact ⟨k + 1, _, by go_num, by omega, HB3, HRM3, H10⟩
        case measure => simp [intOf]; omega
      · go_wp2
        go_roundw
        case rel => exact ⟨k + 1, A, by go_num, by omega, HB, HRM, HB2⟩
        case measure => simp [intOf]; omega
    · obtain rfl : k = n := by omega
      go_wp2_with fail
      refine (same_ok E q d y A _ HB.out HS.out).mono ?_
      rintro e w3 ⟨rfl, h3⟩
      have H3 := Aside.mk h3
      clear h3 HS
      go_wp2
      go_ret3
      exact ⟨d, y, A, rfl, HB.out, HRM.out, H3.out⟩
end Go.Proofs.YtmjnnbnbdcadbaaGreatDoor
/- AnchorLives: the walk. -/
namespace Go.Proofs.YtmjnnbnbdcadbaaGreatDoor
open Go.RowKit HP
set_option linter.unusedSimpArgs false
set_option linter.unusedVariables false

/-- The anchors of a list, read. -/
structure AnchsIn (q : HP) (l : Sl Anch) : Prop where
  len : l.l.length ≤ maxLen
  ok : ∀ a ∈ l.l, a.Ok
  cells : ∀ E w, Sat E w q → Cells w l.A (l.l.flatMap fun a => i8s a.l)
theorem AnchsIn.at_ {q : HP} {l : Sl Anch} (h : AnchsIn q l) {E : Env} {w : World} (hw : Sat E w q) {k : Nat} {s : Anch} (hs : l.l[k]? = some s) :
    ∃ g o, l.A = some ⟨g, o, none⟩ ∧ w.cell? ⟨g, o + k * 10, none⟩ = some (.int .i64 s.seq) ∧ w.cell? ⟨g, o + k * 10 + 1, none⟩ = some (.int .i64 s.gen) ∧ w.cell? ⟨g, o + k * 10 + 2, none⟩ = some (.int .i64 s.lsn) ∧ w.cell? ⟨g, o + k * 10 + 3, none⟩ = some (.int .i64 s.seg) ∧ w.cell? ⟨g, o + k * 10 + 4, none⟩ = some (.int .i64 s.ext) ∧ w.cell? ⟨g, o + k * 10 + 5, none⟩ = some (.int .i64 s.flo) ∧ w.cell? ⟨g, o + k * 10 + 6, none⟩ = some (.int .i64 s.new) ∧ w.cell? ⟨g, o + k * 10 + 7, none⟩ = some (.int .i64 s.keep) ∧ w.cell? ⟨g, o + k * 10 + 8, none⟩ = some (.int .i64 s.next) ∧ w.cell? ⟨g, o + k * 10 + 9, none⟩ = some (.int .i64 s.cur) := by
  have hcm := h.cells _ _ hw
  have hg := fun j (hj : j < 10) => flat_get (fun a : Anch => i8s a.l) 10 l.l (fun _ => rfl) k j s hs hj
  have g0 := hg 0 (by omega)
  obtain ⟨pa, hpa, -⟩ := hcm _ _ g0
  obtain ⟨g, o, rfl⟩ : ∃ g o, pa = ⟨g, o, none⟩ := slice_addr hcm hpa (List.getElem?_eq_some_iff.1 g0).1
  rw [hpa] at hcm
  have f : ∀ j, j < 10 → ∀ u, (i8s s.l)[j]? = some u → w.cell? ⟨g, o + k * 10 + j, none⟩ = some u := fun j hj u hu => by
    have h1 := hcm.some_ (k * 10 + j) u ((hg j hj).trans hu)
    rw [addr_add, ← Nat.add_assoc] at h1
    exact h1
  exact ⟨g, o, hpa, f 0 (by omega) _ rfl, f 1 (by omega) _ rfl, f 2 (by omega) _ rfl, f 3 (by omega) _ rfl, f 4 (by omega) _ rfl, f 5 (by omega) _ rfl, f 6 (by omega) _ rfl, f 7 (by omega) _ rfl, f 8 (by omega) _ rfl, f 9 (by omega) _ rfl⟩
set_option maxHeartbeats 8000000 in
set_option maxRecDepth 100000 in
theorem anchLives_ok (E : Env) (q : HP) (l : Sl StepV) (more : Sl Anch) (steps : Sl StepV) (w : World) (hst : Steps q l) (hm : AnchsIn q more) (hs2 : Steps q steps) (hq : ∀ E w, Sat E w q → Quarter w) (hw : Sat E w q) :
    Calls Tryz.prog 3 #[l.val, more.val, steps.val] w fun e w' => e = .returned (.bool true) ∧ Sat E w' q := by
  unfold Sl.val
  have HST := Aside.mk hst
  have HS2 := Aside.mk hs2
  have HQ := Aside.mk hq
  have HAN := Aside.mk hm
  have HW0 := Aside.mk hw
  have hlen := hm.len
  have hlen2 := hs2.len
  have hlen3 := hst.len
  unfold maxLen at hlen hlen2 hlen3
  generalize hN : more.l.length = n at *
  generalize hN2 : steps.l.length = n2 at *
  have HN := Aside.mk (And.intro hN hN2)
  clear hN hN2 hq hst hm hs2 hw
  go_enter Tryz.func3, Tryz.ntmps3
  go_wp2_with fail
  refine (disks_ok E q 30 l _ ⟨by omega, by omega⟩ HST.out HW0.out).mono ?_
  rintro e w1 ⟨d, y, A0, rfl, hb1, hroom, h1⟩
  have H1 := Aside.mk h1
  have HB1 := Aside.mk hb1
  clear h1 hb1 hroom HW0
  go_wp2
  go_loopw [26] (fun v26 wr => ∃ (k : Nat) (A : Dk), v26 = .int .i64 k ∧ k ≤ n ∧ Aside A.Byt ∧ Aside (Sat E wr (HP.disk d A * (HP.rdisk y A * q)))) (fun x _ => n - (intOf x).toNat)
  case atStart => exact ⟨0, A0, rfl, Nat.zero_le _, HB1, H1⟩
  case round =>
    clear H1 HB1
    obtain ⟨k, A, rfl, hk, HB, HS⟩ := hrel
    by_cases hlt : k < n
    · obtain ⟨a, ha⟩ : ∃ a, more.l[k]? = some a := ⟨_, List.getElem?_eq_getElem (by rw [HN.out.1]; exact hlt)⟩
      have ham : a ∈ more.l := List.mem_of_getElem? ha
      have HOK := Aside.mk (HAN.out.ok a ham)
      obtain ⟨g, o, hA, g0, g1, g2, g3, g4, g5, g6, g7, g8, g9⟩ := HAN.out.at_ HS.out.right.right ha
      rw [hA]
      have hk0 : (0 : Int) ≤ (k : Int) := by omega
      have hk1 : (k : Int) < (n : Int) := by omega
      by_cases h12 : 12 < k
      · have h12b : (12 : Int) < (k : Int) := by omega
        have H2 := Aside.mk (HS.out.alloc (.cells #[.int .i64 a.seq, .int .i64 a.gen, .int .i64 a.lsn, .int .i64 a.seg, .int .i64 a.ext, .int .i64 a.flo, .int .i64 a.new, .int .i64 a.keep, .int .i64 a.next, .int .i64 a.cur] 29)).right.right.right
        clear ha ham hA HS
        go_wp2_with fail
        refine (awake17_ok E q _ (fun w h => HQ.out _ w h) H2.out).mono ?_
        rintro e w2 ⟨rfl, h2⟩
        go_wp2
        go_ret
        exact ⟨rfl, h2⟩
      · have h12b : ¬ (12 : Int) < (k : Int) := by omega
        have H2 : Aside (Sat E (wr.alloc (.cells #[.int .i64 a.seq, .int .i64 a.gen, .int .i64 a.lsn, .int .i64 a.seg, .int .i64 a.ext, .int .i64 a.flo, .int .i64 a.new, .int .i64 a.keep, .int .i64 a.next, .int .i64 a.cur] 29)) (HP.disk d A * (HP.pt wr.heap.size (.cells #[.int .i64 a.seq, .int .i64 a.gen, .int .i64 a.lsn, .int .i64 a.seg, .int .i64 a.ext, .int .i64 a.flo, .int .i64 a.new, .int .i64 a.keep, .int .i64 a.next, .int .i64 a.cur] 29) * (HP.rdisk y A * q)))) := ⟨(HS.out.alloc _).s2⟩
        have rl : (loadVar 29 ⟨wr.heap.size, 0, none⟩).run Tryz.prog (wr.alloc (.cells #[.int .i64 a.seq, .int .i64 a.gen, .int .i64 a.lsn, .int .i64 a.seg, .int .i64 a.ext, .int .i64 a.flo, .int .i64 a.new, .int .i64 a.keep, .int .i64 a.next, .int .i64 a.cur] 29)) = .ok (.agg #[.int .i64 a.seq, .int .i64 a.gen, .int .i64 a.lsn, .int .i64 a.seg, .int .i64 a.ext, .int .i64 a.flo, .int .i64 a.new, .int .i64 a.keep, .int .i64 a.next, .int .i64 a.cur]) (wr.alloc (.cells #[.int .i64 a.seq, .int .i64 a.gen, .int .i64 a.lsn, .int .i64 a.seg, .int .i64 a.ext, .int .i64 a.flo, .int .i64 a.new, .int .i64 a.keep, .int .i64 a.next, .int .i64 a.cur] 29)) := run_loadAgg agAnch (cs := i8s a.l) rfl (Sat.ptCells (off := 0) H2.out.right rfl)
        clear ha ham hA HS
        go_wp2_with (first | (refine wpList_load_run rfl rfl rfl rl ?_))
        refine (anchor_save E _ d A a _ HOK.out.seq (fun w h => HQ.out _ w h.right.right) H2.out).mono ?_
        rintro e w3 ⟨rfl, h3⟩
        have HBY2 := Aside.mk (HB.out.saveP a)
        have HSV : Aside (∃ p c B, saveP A a = ((p, c), B)) := ⟨_, _, _, rfl⟩
        obtain ⟨p, c, B, hsv⟩ := HSV.out
        have HSV := Aside.mk hsv
        rw [hsv] at h3 HBY2 ⊢
        clear hsv
        dsimp only at h3 HBY2 ⊢
        rw [show p.val = .agg #[.int .i64 p.seq, .int .i64 p.gen, .int .i64 p.lsn, .int .i64 p.seg, .int .i64 p.ext, .int .i64 p.flo, .int .i64 p.new, .int .i64 p.keep, .int .i64 p.next, .int .i64 p.cur] from rfl]
        have h4 := h3.alloc (.cells #[.int .i64 p.seq, .int .i64 p.gen, .int .i64 p.lsn, .int .i64 p.seg, .int .i64 p.ext, .int .i64 p.flo, .int .i64 p.new, .int .i64 p.keep, .int .i64 p.next, .int .i64 p.cur] 29)
        have H4 : Aside (Sat E (w3.alloc (.cells #[.int .i64 p.seq, .int .i64 p.gen, .int .i64 p.lsn, .int .i64 p.seg, .int .i64 p.ext, .int .i64 p.flo, .int .i64 p.new, .int .i64 p.keep, .int .i64 p.next, .int .i64 p.cur] 29)) (HP.rdisk y A * (HP.pt w3.heap.size (.cells #[.int .i64 p.seq, .int .i64 p.gen, .int .i64 p.lsn, .int .i64 p.seg, .int .i64 p.ext, .int .i64 p.flo, .int .i64 p.new, .int .i64 p.keep, .int .i64 p.next, .int .i64 p.cur] 29) * (HP.disk d B * (HP.pt wr.heap.size (.cells #[.int .i64 a.seq, .int .i64 a.gen, .int .i64 a.lsn, .int .i64 a.seg, .int .i64 a.ext, .int .i64 a.flo, .int .i64 a.new, .int .i64 a.keep, .int .i64 a.next, .int .i64 a.cur] 29) * q))))) := ⟨h4.perm (by ac_rfl)⟩
        have rl2 : (loadVar 29 ⟨wr.heap.size, 0, none⟩).run Tryz.prog (w3.alloc (.cells #[.int .i64 p.seq, .int .i64 p.gen, .int .i64 p.lsn, .int .i64 p.seg, .int .i64 p.ext, .int .i64 p.flo, .int .i64 p.new, .int .i64 p.keep, .int .i64 p.next, .int .i64 p.cur] 29)) = .ok (.agg #[.int .i64 a.seq, .int .i64 a.gen, .int .i64 a.lsn, .int .i64 a.seg, .int .i64 a.ext, .int .i64 a.flo, .int .i64 a.new, .int .i64 a.keep, .int .i64 a.next, .int .i64 a.cur]) (w3.alloc (.cells #[.int .i64 p.seq, .int .i64 p.gen, .int .i64 p.lsn, .int .i64 p.seg, .int .i64 p.ext, .int .i64 p.flo, .int .i64 p.new, .int .i64 p.keep, .int .i64 p.next, .int .i64 p.cur] 29)) := run_loadAgg agAnch (cs := i8s a.l) rfl (Sat.ptCells (off := 0) H4.out.right.right.right rfl)
        clear h3 h4 H2 rl g0 g1 g2 g3 g4 g5 g6 g7 g8 g9
        go_wp2_with (first | (refine wpList_load_run rfl rfl rfl rl2 ?_))
        refine (ref_asave E _ y A a _ HOK.out.seq H4.out).mono ?_
        rintro e w5 ⟨rfl, h5⟩
        rw [HSV.out] at h5 ⊢
        dsimp only at h5 ⊢
        rw [show p.val = .agg #[.int .i64 p.seq, .int .i64 p.gen, .int .i64 p.lsn, .int .i64 p.seg, .int .i64 p.ext, .int .i64 p.flo, .int .i64 p.new, .int .i64 p.keep, .int .i64 p.next, .int .i64 p.cur] from rfl]
        have h6 := h5.alloc (.cells #[.int .i64 p.seq, .int .i64 p.gen, .int .i64 p.lsn, .int .i64 p.seg, .int .i64 p.ext, .int .i64 p.flo, .int .i64 p.new, .int .i64 p.keep, .int .i64 p.next, .int .i64 p.cur] 29)
        have k0 : (w5.alloc (.cells #[.int .i64 p.seq, .int .i64 p.gen, .int .i64 p.lsn, .int .i64 p.seg, .int .i64 p.ext, .int .i64 p.flo, .int .i64 p.new, .int .i64 p.keep, .int .i64 p.next, .int .i64 p.cur] 29)).cell? ⟨w5.heap.size, 0, none⟩ = some (.int .i64 p.seq) := h6.cell 0
        have k1 : (w5.alloc (.cells #[.int .i64 p.seq, .int .i64 p.gen, .int .i64 p.lsn, .int .i64 p.seg, .int .i64 p.ext, .int .i64 p.flo, .int .i64 p.new, .int .i64 p.keep, .int .i64 p.next, .int .i64 p.cur] 29)).cell? ⟨w5.heap.size, 1, none⟩ = some (.int .i64 p.gen) := h6.cell 1
        have k2 : (w5.alloc (.cells #[.int .i64 p.seq, .int .i64 p.gen, .int .i64 p.lsn, .int .i64 p.seg, .int .i64 p.ext, .int .i64 p.flo, .int .i64 p.new, .int .i64 p.keep, .int .i64 p.next, .int .i64 p.cur] 29)).cell? ⟨w5.heap.size, 2, none⟩ = some (.int .i64 p.lsn) := h6.cell 2
        have k3 : (w5.alloc (.cells #[.int .i64 p.seq, .int .i64 p.gen, .int .i64 p.lsn, .int .i64 p.seg, .int .i64 p.ext, .int .i64 p.flo, .int .i64 p.new, .int .i64 p.keep, .int .i64 p.next, .int .i64 p.cur] 29)).cell? ⟨w5.heap.size, 3, none⟩ = some (.int .i64 p.seg) := h6.cell 3
        have k4 : (w5.alloc (.cells #[.int .i64 p.seq, .int .i64 p.gen, .int .i64 p.lsn, .int .i64 p.seg, .int .i64 p.ext, .int .i64 p.flo, .int .i64 p.new, .int .i64 p.keep, .int .i64 p.next, .int .i64 p.cur] 29)).cell? ⟨w5.heap.size, 4, none⟩ = some (.int .i64 p.ext) := h6.cell 4
        have k5 : (w5.alloc (.cells #[.int .i64 p.seq, .int .i64 p.gen, .int .i64 p.lsn, .int .i64 p.seg, .int .i64 p.ext, .int .i64 p.flo, .int .i64 p.new, .int .i64 p.keep, .int .i64 p.next, .int .i64 p.cur] 29)).cell? ⟨w5.heap.size, 5, none⟩ = some (.int .i64 p.flo) := h6.cell 5
        have k6 : (w5.alloc (.cells #[.int .i64 p.seq, .int .i64 p.gen, .int .i64 p.lsn, .int .i64 p.seg, .int .i64 p.ext, .int .i64 p.flo, .int .i64 p.new, .int .i64 p.keep, .int .i64 p.next, .int .i64 p.cur] 29)).cell? ⟨w5.heap.size, 6, none⟩ = some (.int .i64 p.new) := h6.cell 6
        have k7 : (w5.alloc (.cells #[.int .i64 p.seq, .int .i64 p.gen, .int .i64 p.lsn, .int .i64 p.seg, .int .i64 p.ext, .int .i64 p.flo, .int .i64 p.new, .int .i64 p.keep, .int .i64 p.next, .int .i64 p.cur] 29)).cell? ⟨w5.heap.size, 7, none⟩ = some (.int .i64 p.keep) := h6.cell 7
        have k8 : (w5.alloc (.cells #[.int .i64 p.seq, .int .i64 p.gen, .int .i64 p.lsn, .int .i64 p.seg, .int .i64 p.ext, .int .i64 p.flo, .int .i64 p.new, .int .i64 p.keep, .int .i64 p.next, .int .i64 p.cur] 29)).cell? ⟨w5.heap.size, 8, none⟩ = some (.int .i64 p.next) := h6.cell 8
        have k9 : (w5.alloc (.cells #[.int .i64 p.seq, .int .i64 p.gen, .int .i64 p.lsn, .int .i64 p.seg, .int .i64 p.ext, .int .i64 p.flo, .int .i64 p.new, .int .i64 p.keep, .int .i64 p.next, .int .i64 p.cur] 29)).cell? ⟨w5.heap.size, 9, none⟩ = some (.int .i64 p.cur) := h6.cell 9
        have m0 : (w5.alloc (.cells #[.int .i64 p.seq, .int .i64 p.gen, .int .i64 p.lsn, .int .i64 p.seg, .int .i64 p.ext, .int .i64 p.flo, .int .i64 p.new, .int .i64 p.keep, .int .i64 p.next, .int .i64 p.cur] 29)).cell? ⟨w3.heap.size, 0, none⟩ = some (.int .i64 p.seq) := h6.right.right.cell 0
        have m1 : (w5.alloc (.cells #[.int .i64 p.seq, .int .i64 p.gen, .int .i64 p.lsn, .int .i64 p.seg, .int .i64 p.ext, .int .i64 p.flo, .int .i64 p.new, .int .i64 p.keep, .int .i64 p.next, .int .i64 p.cur] 29)).cell? ⟨w3.heap.size, 1, none⟩ = some (.int .i64 p.gen) := h6.right.right.cell 1
        have m2 : (w5.alloc (.cells #[.int .i64 p.seq, .int .i64 p.gen, .int .i64 p.lsn, .int .i64 p.seg, .int .i64 p.ext, .int .i64 p.flo, .int .i64 p.new, .int .i64 p.keep, .int .i64 p.next, .int .i64 p.cur] 29)).cell? ⟨w3.heap.size, 2, none⟩ = some (.int .i64 p.lsn) := h6.right.right.cell 2
        have m3 : (w5.alloc (.cells #[.int .i64 p.seq, .int .i64 p.gen, .int .i64 p.lsn, .int .i64 p.seg, .int .i64 p.ext, .int .i64 p.flo, .int .i64 p.new, .int .i64 p.keep, .int .i64 p.next, .int .i64 p.cur] 29)).cell? ⟨w3.heap.size, 3, none⟩ = some (.int .i64 p.seg) := h6.right.right.cell 3
        have m4 : (w5.alloc (.cells #[.int .i64 p.seq, .int .i64 p.gen, .int .i64 p.lsn, .int .i64 p.seg, .int .i64 p.ext, .int .i64 p.flo, .int .i64 p.new, .int .i64 p.keep, .int .i64 p.next, .int .i64 p.cur] 29)).cell? ⟨w3.heap.size, 4, none⟩ = some (.int .i64 p.ext) := h6.right.right.cell 4
        have m5 : (w5.alloc (.cells #[.int .i64 p.seq, .int .i64 p.gen, .int .i64 p.lsn, .int .i64 p.seg, .int .i64 p.ext, .int .i64 p.flo, .int .i64 p.new, .int .i64 p.keep, .int .i64 p.next, .int .i64 p.cur] 29)).cell? ⟨w3.heap.size, 5, none⟩ = some (.int .i64 p.flo) := h6.right.right.cell 5
        have m6 : (w5.alloc (.cells #[.int .i64 p.seq, .int .i64 p.gen, .int .i64 p.lsn, .int .i64 p.seg, .int .i64 p.ext, .int .i64 p.flo, .int .i64 p.new, .int .i64 p.keep, .int .i64 p.next, .int .i64 p.cur] 29)).cell? ⟨w3.heap.size, 6, none⟩ = some (.int .i64 p.new) := h6.right.right.cell 6
        have m7 : (w5.alloc (.cells #[.int .i64 p.seq, .int .i64 p.gen, .int .i64 p.lsn, .int .i64 p.seg, .int .i64 p.ext, .int .i64 p.flo, .int .i64 p.new, .int .i64 p.keep, .int .i64 p.next, .int .i64 p.cur] 29)).cell? ⟨w3.heap.size, 7, none⟩ = some (.int .i64 p.keep) := h6.right.right.cell 7
        have m8 : (w5.alloc (.cells #[.int .i64 p.seq, .int .i64 p.gen, .int .i64 p.lsn, .int .i64 p.seg, .int .i64 p.ext, .int .i64 p.flo, .int .i64 p.new, .int .i64 p.keep, .int .i64 p.next, .int .i64 p.cur] 29)).cell? ⟨w3.heap.size, 8, none⟩ = some (.int .i64 p.next) := h6.right.right.cell 8
        have m9 : (w5.alloc (.cells #[.int .i64 p.seq, .int .i64 p.gen, .int .i64 p.lsn, .int .i64 p.seg, .int .i64 p.ext, .int .i64 p.flo, .int .i64 p.new, .int .i64 p.keep, .int .i64 p.next, .int .i64 p.cur] 29)).cell? ⟨w3.heap.size, 9, none⟩ = some (.int .i64 p.cur) := h6.right.right.cell 9
        have H6 : Aside (Sat E (w5.alloc (.cells #[.int .i64 p.seq, .int .i64 p.gen, .int .i64 p.lsn, .int .i64 p.seg, .int .i64 p.ext, .int .i64 p.flo, .int .i64 p.new, .int .i64 p.keep, .int .i64 p.next, .int .i64 p.cur] 29)) (HP.disk d B * (HP.rdisk y B * (HP.pt w5.heap.size (.cells #[.int .i64 p.seq, .int .i64 p.gen, .int .i64 p.lsn, .int .i64 p.seg, .int .i64 p.ext, .int .i64 p.flo, .int .i64 p.new, .int .i64 p.keep, .int .i64 p.next, .int .i64 p.cur] 29) * (HP.pt w3.heap.size (.cells #[.int .i64 p.seq, .int .i64 p.gen, .int .i64 p.lsn, .int .i64 p.seg, .int .i64 p.ext, .int .i64 p.flo, .int .i64 p.new, .int .i64 p.keep, .int .i64 p.next, .int .i64 p.cur] 29) * (HP.pt wr.heap.size (.cells #[.int .i64 a.seq, .int .i64 a.gen, .int .i64 a.lsn, .int .i64 a.seg, .int .i64 a.ext, .int .i64 a.flo, .int .i64 a.new, .int .i64 a.keep, .int .i64 a.next, .int .i64 a.cur] 29) * q)))))) := ⟨h6.perm (by ac_rfl)⟩
        clear h5 h6 H4 rl2
        by_cases hst : k < n2
        · have hst2 : (k : Int) < (n2 : Int) := by omega
          obtain ⟨s, hs⟩ : ∃ s, steps.l[k]? = some s := ⟨_, List.getElem?_eq_getElem (by rw [HN.out.2]; exact hst)⟩
          have hsm : s ∈ steps.l := List.mem_of_getElem? hs
          obtain ⟨gs, os, hAs, s0, s1, s2, s3, s4, s5, s6, s7⟩ := HS2.out.at_ H6.out.right.right.right.right.right hs
          rw [hAs]
          have HWF := Aside.mk (HS2.out.wf s hsm)
          have HCL : Aside (∀ E w, Sat E w q → Cells w s.b.A (b8s s.b.l) ∧ Cells w s.kept.A (kepCells s.kept.l)) := ⟨fun E w h => (HS2.out.cells E w h).2 s hsm⟩
          have HAS := Aside.mk hAs
          clear hs hsm hAs
          go_wp2_with fail
          refine (do_ok E _ d y B s _ HWF.out (fun E w h => HCL.out E w h.right.right.right) H6.out).mono ?_
          rintro e w7 ⟨rfl, h7⟩
          have HBY3 := Aside.mk (HBY2.out.stepK HWF.out (opK s.op))
          have H7 := Aside.mk h7
          clear h7 H6 s0 s1 s2 s3 s4 s5 s6 s7 k0 k1 k2 k3 k4 k5 k6 k7 k8 k9 m0 m1 m2 m3 m4 m5 m6 m7 m8 m9
          generalize B.stepK s (opK s.op) = B3 at *
          go_wp2_with fail
          refine (same_ok E _ d y B3 _ HBY3.out H7.out).mono ?_
          rintro e w8 ⟨rfl, h8⟩
          have H8 := Aside.mk h8
          clear h8 H7
          go_wp2_with fail
          refine (anchor_load E _ d B3 _ (fun f hf c hc => HBY3.out.reads f _ c hc) (fun w h => HQ.out _ w h.right.right.right.right) H8.out).mono ?_
          rintro e w9 ⟨rfl, h9⟩
          obtain ⟨r, cr, hr⟩ : ∃ r cr, loadA B3 = (r, cr) := ⟨_, _, rfl⟩
          have HLR := Aside.mk hr
          rw [hr]
          clear hr
          dsimp only
          rw [show r.val = .agg #[.int .i64 r.seq, .int .i64 r.gen, .int .i64 r.lsn, .int .i64 r.seg, .int .i64 r.ext, .int .i64 r.flo, .int .i64 r.new, .int .i64 r.keep, .int .i64 r.next, .int .i64 r.cur] from rfl]
          have r12 : (storeVar 29 ⟨w3.heap.size, 0, none⟩ (.agg (i8s r.l).toArray)).run Tryz.prog w9 = .ok () (World.setRow w9 (w3.heap.size) (i8s r.l).toArray) := run_storeAgg agAnch (g := w3.heap.size) (off := 0) (cs := i8s r.l) h9.s4.get rfl (by show 0 + 10 ≤ 10; omega) rfl
          have h10 := h9.s4.splice (i8s r.l)
          have H10 : Aside (Sat E (World.setRow w9 (w3.heap.size) (i8s r.l).toArray) (HP.rdisk y B3 * (HP.pt w5.heap.size (.cells #[.int .i64 p.seq, .int .i64 p.gen, .int .i64 p.lsn, .int .i64 p.seg, .int .i64 p.ext, .int .i64 p.flo, .int .i64 p.new, .int .i64 p.keep, .int .i64 p.next, .int .i64 p.cur] 29) * (HP.pt w3.heap.size (.cells #[.int .i64 r.seq, .int .i64 r.gen, .int .i64 r.lsn, .int .i64 r.seg, .int .i64 r.ext, .int .i64 r.flo, .int .i64 r.new, .int .i64 r.keep, .int .i64 r.next, .int .i64 r.cur] 29) * (HP.disk d B3 * (HP.pt wr.heap.size (.cells #[.int .i64 a.seq, .int .i64 a.gen, .int .i64 a.lsn, .int .i64 a.seg, .int .i64 a.ext, .int .i64 a.flo, .int .i64 a.new, .int .i64 a.keep, .int .i64 a.next, .int .i64 a.cur] 29) * q)))))) := ⟨h10.perm (by show HP.pt w3.heap.size (.cells #[.int .i64 r.seq, .int .i64 r.gen, .int .i64 r.lsn, .int .i64 r.seg, .int .i64 r.ext, .int .i64 r.flo, .int .i64 r.new, .int .i64 r.keep, .int .i64 r.next, .int .i64 r.cur] 29) * _ = _; ac_rfl)⟩
          clear h9 h10 H8
          generalize World.setRow w9 _ _ = w10 at *
          go_wp2_with (first | (refine wpList_store_run rfl rfl rfl rfl rfl r12 ?_))
          clear r12
          refine (ref_aload E _ y B3 _ (fun f hf c hc => HBY3.out.reads f _ c hc) H10.out).mono ?_
          rintro e w11 ⟨rfl, h11⟩
          rw [HLR.out]
          dsimp only
          rw [show r.val = .agg #[.int .i64 r.seq, .int .i64 r.gen, .int .i64 r.lsn, .int .i64 r.seg, .int .i64 r.ext, .int .i64 r.flo, .int .i64 r.new, .int .i64 r.keep, .int .i64 r.next, .int .i64 r.cur] from rfl]
          have r14 : (storeVar 29 ⟨w5.heap.size, 0, none⟩ (.agg (i8s r.l).toArray)).run Tryz.prog w11 = .ok () (World.setRow w11 (w5.heap.size) (i8s r.l).toArray) := run_storeAgg agAnch (g := w5.heap.size) (off := 0) (cs := i8s r.l) h11.s2.get rfl (by show 0 + 10 ≤ 10; omega) rfl
          have h12 := h11.s2.splice (i8s r.l)
          generalize World.setRow w11 _ _ = w12 at *
          have u0 : w12.cell? ⟨w5.heap.size, 0, none⟩ = some (.int .i64 r.seq) := h12.cell 0
          have u1 : w12.cell? ⟨w5.heap.size, 1, none⟩ = some (.int .i64 r.gen) := h12.cell 1
          have u2 : w12.cell? ⟨w5.heap.size, 2, none⟩ = some (.int .i64 r.lsn) := h12.cell 2
          have u3 : w12.cell? ⟨w5.heap.size, 3, none⟩ = some (.int .i64 r.seg) := h12.cell 3
          have u4 : w12.cell? ⟨w5.heap.size, 4, none⟩ = some (.int .i64 r.ext) := h12.cell 4
          have u5 : w12.cell? ⟨w5.heap.size, 5, none⟩ = some (.int .i64 r.flo) := h12.cell 5
          have u6 : w12.cell? ⟨w5.heap.size, 6, none⟩ = some (.int .i64 r.new) := h12.cell 6
          have u7 : w12.cell? ⟨w5.heap.size, 7, none⟩ = some (.int .i64 r.keep) := h12.cell 7
          have u8 : w12.cell? ⟨w5.heap.size, 8, none⟩ = some (.int .i64 r.next) := h12.cell 8
          have u9 : w12.cell? ⟨w5.heap.size, 9, none⟩ = some (.int .i64 r.cur) := h12.cell 9
          have v0 : w12.cell? ⟨w3.heap.size, 0, none⟩ = some (.int .i64 r.seq) := h12.right.right.cell 0
          have v1 : w12.cell? ⟨w3.heap.size, 1, none⟩ = some (.int .i64 r.gen) := h12.right.right.cell 1
          have v2 : w12.cell? ⟨w3.heap.size, 2, none⟩ = some (.int .i64 r.lsn) := h12.right.right.cell 2
          have v3 : w12.cell? ⟨w3.heap.size, 3, none⟩ = some (.int .i64 r.seg) := h12.right.right.cell 3
          have v4 : w12.cell? ⟨w3.heap.size, 4, none⟩ = some (.int .i64 r.ext) := h12.right.right.cell 4
          have v5 : w12.cell? ⟨w3.heap.size, 5, none⟩ = some (.int .i64 r.flo) := h12.right.right.cell 5
          have v6 : w12.cell? ⟨w3.heap.size, 6, none⟩ = some (.int .i64 r.new) := h12.right.right.cell 6
          have v7 : w12.cell? ⟨w3.heap.size, 7, none⟩ = some (.int .i64 r.keep) := h12.right.right.cell 7
          have v8 : w12.cell? ⟨w3.heap.size, 8, none⟩ = some (.int .i64 r.next) := h12.right.right.cell 8
          have v9 : w12.cell? ⟨w3.heap.size, 9, none⟩ = some (.int .i64 r.cur) := h12.right.right.cell 9
          have H12 : Aside (Sat E w12 (HP.disk d B3 * (HP.rdisk y B3 * q))) := ⟨(h12.perm (by ac_rfl : _ = HP.pt w5.heap.size (.cells (i8s r.l).toArray 29) * (HP.pt w3.heap.size (.cells #[.int .i64 r.seq, .int .i64 r.gen, .int .i64 r.lsn, .int .i64 r.seg, .int .i64 r.ext, .int .i64 r.flo, .int .i64 r.new, .int .i64 r.keep, .int .i64 r.next, .int .i64 r.cur] 29) * (HP.pt wr.heap.size (.cells #[.int .i64 a.seq, .int .i64 a.gen, .int .i64 a.lsn, .int .i64 a.seg, .int .i64 a.ext, .int .i64 a.flo, .int .i64 a.new, .int .i64 a.keep, .int .i64 a.next, .int .i64 a.cur] 29) * (HP.disk d B3 * (HP.rdisk y B3 * q)))))).right.right.right⟩
          clear h11 h12 H10 HLR
          go_wp2_with (first | (refine wpList_store_run rfl rfl rfl rfl rfl r14 ?_))
          refine ⟨?_, ?measure⟩
          (repeat apply Exists.intro)
          refine ⟨?rel, (by rw [HAS.out]; first | done | exact rfl)⟩
          case rel => exact ⟨k + 1, B3, by go_num, by omega, HBY3, H12⟩
          case measure => simp [intOf]; omega
        · have hst2 : ¬ (k : Int) < (n2 : Int) := by omega
          go_wp2_with fail
          refine (same_ok E _ d y B _ HBY2.out H6.out).mono ?_
          rintro e w8 ⟨rfl, h8⟩
          have H8 := Aside.mk h8
          clear h8 H6
          go_wp2_with fail
          refine (anchor_load E _ d B _ (fun f hf c hc => HBY2.out.reads f _ c hc) (fun w h => HQ.out _ w h.right.right.right.right) H8.out).mono ?_
          rintro e w9 ⟨rfl, h9⟩
          obtain ⟨r, cr, hr⟩ : ∃ r cr, loadA B = (r, cr) := ⟨_, _, rfl⟩
          have HLR := Aside.mk hr
          rw [hr]
          clear hr
          dsimp only
          rw [show r.val = .agg #[.int .i64 r.seq, .int .i64 r.gen, .int .i64 r.lsn, .int .i64 r.seg, .int .i64 r.ext, .int .i64 r.flo, .int .i64 r.new, .int .i64 r.keep, .int .i64 r.next, .int .i64 r.cur] from rfl]
          have r12 : (storeVar 29 ⟨w3.heap.size, 0, none⟩ (.agg (i8s r.l).toArray)).run Tryz.prog w9 = .ok () (World.setRow w9 (w3.heap.size) (i8s r.l).toArray) := run_storeAgg agAnch (g := w3.heap.size) (off := 0) (cs := i8s r.l) h9.s4.get rfl (by show 0 + 10 ≤ 10; omega) rfl
          have h10 := h9.s4.splice (i8s r.l)
          have H10 : Aside (Sat E (World.setRow w9 (w3.heap.size) (i8s r.l).toArray) (HP.rdisk y B * (HP.pt w5.heap.size (.cells #[.int .i64 p.seq, .int .i64 p.gen, .int .i64 p.lsn, .int .i64 p.seg, .int .i64 p.ext, .int .i64 p.flo, .int .i64 p.new, .int .i64 p.keep, .int .i64 p.next, .int .i64 p.cur] 29) * (HP.pt w3.heap.size (.cells #[.int .i64 r.seq, .int .i64 r.gen, .int .i64 r.lsn, .int .i64 r.seg, .int .i64 r.ext, .int .i64 r.flo, .int .i64 r.new, .int .i64 r.keep, .int .i64 r.next, .int .i64 r.cur] 29) * (HP.disk d B * (HP.pt wr.heap.size (.cells #[.int .i64 a.seq, .int .i64 a.gen, .int .i64 a.lsn, .int .i64 a.seg, .int .i64 a.ext, .int .i64 a.flo, .int .i64 a.new, .int .i64 a.keep, .int .i64 a.next, .int .i64 a.cur] 29) * q)))))) := ⟨h10.perm (by show HP.pt w3.heap.size (.cells #[.int .i64 r.seq, .int .i64 r.gen, .int .i64 r.lsn, .int .i64 r.seg, .int .i64 r.ext, .int .i64 r.flo, .int .i64 r.new, .int .i64 r.keep, .int .i64 r.next, .int .i64 r.cur] 29) * _ = _; ac_rfl)⟩
          clear h9 h10 H8
          generalize World.setRow w9 _ _ = w10 at *
          go_wp2_with (first | (refine wpList_store_run rfl rfl rfl rfl rfl r12 ?_))
          clear r12
          refine (ref_aload E _ y B _ (fun f hf c hc => HBY2.out.reads f _ c hc) H10.out).mono ?_
          rintro e w11 ⟨rfl, h11⟩
          rw [HLR.out]
          dsimp only
          rw [show r.val = .agg #[.int .i64 r.seq, .int .i64 r.gen, .int .i64 r.lsn, .int .i64 r.seg, .int .i64 r.ext, .int .i64 r.flo, .int .i64 r.new, .int .i64 r.keep, .int .i64 r.next, .int .i64 r.cur] from rfl]
          have r14 : (storeVar 29 ⟨w5.heap.size, 0, none⟩ (.agg (i8s r.l).toArray)).run Tryz.prog w11 = .ok () (World.setRow w11 (w5.heap.size) (i8s r.l).toArray) := run_storeAgg agAnch (g := w5.heap.size) (off := 0) (cs := i8s r.l) h11.s2.get rfl (by show 0 + 10 ≤ 10; omega) rfl
          have h12 := h11.s2.splice (i8s r.l)
          generalize World.setRow w11 _ _ = w12 at *
          have u0 : w12.cell? ⟨w5.heap.size, 0, none⟩ = some (.int .i64 r.seq) := h12.cell 0
          have u1 : w12.cell? ⟨w5.heap.size, 1, none⟩ = some (.int .i64 r.gen) := h12.cell 1
          have u2 : w12.cell? ⟨w5.heap.size, 2, none⟩ = some (.int .i64 r.lsn) := h12.cell 2
          have u3 : w12.cell? ⟨w5.heap.size, 3, none⟩ = some (.int .i64 r.seg) := h12.cell 3
          have u4 : w12.cell? ⟨w5.heap.size, 4, none⟩ = some (.int .i64 r.ext) := h12.cell 4
          have u5 : w12.cell? ⟨w5.heap.size, 5, none⟩ = some (.int .i64 r.flo) := h12.cell 5
          have u6 : w12.cell? ⟨w5.heap.size, 6, none⟩ = some (.int .i64 r.new) := h12.cell 6
          have u7 : w12.cell? ⟨w5.heap.size, 7, none⟩ = some (.int .i64 r.keep) := h12.cell 7
          have u8 : w12.cell? ⟨w5.heap.size, 8, none⟩ = some (.int .i64 r.next) := h12.cell 8
          have u9 : w12.cell? ⟨w5.heap.size, 9, none⟩ = some (.int .i64 r.cur) := h12.cell 9
          have v0 : w12.cell? ⟨w3.heap.size, 0, none⟩ = some (.int .i64 r.seq) := h12.right.right.cell 0
          have v1 : w12.cell? ⟨w3.heap.size, 1, none⟩ = some (.int .i64 r.gen) := h12.right.right.cell 1
          have v2 : w12.cell? ⟨w3.heap.size, 2, none⟩ = some (.int .i64 r.lsn) := h12.right.right.cell 2
          have v3 : w12.cell? ⟨w3.heap.size, 3, none⟩ = some (.int .i64 r.seg) := h12.right.right.cell 3
          have v4 : w12.cell? ⟨w3.heap.size, 4, none⟩ = some (.int .i64 r.ext) := h12.right.right.cell 4
          have v5 : w12.cell? ⟨w3.heap.size, 5, none⟩ = some (.int .i64 r.flo) := h12.right.right.cell 5
          have v6 : w12.cell? ⟨w3.heap.size, 6, none⟩ = some (.int .i64 r.new) := h12.right.right.cell 6
          have v7 : w12.cell? ⟨w3.heap.size, 7, none⟩ = some (.int .i64 r.keep) := h12.right.right.cell 7
          have v8 : w12.cell? ⟨w3.heap.size, 8, none⟩ = some (.int .i64 r.next) := h12.right.right.cell 8
          have v9 : w12.cell? ⟨w3.heap.size, 9, none⟩ = some (.int .i64 r.cur) := h12.right.right.cell 9
          have H12 : Aside (Sat E w12 (HP.disk d B * (HP.rdisk y B * q))) := ⟨(h12.perm (by ac_rfl : _ = HP.pt w5.heap.size (.cells (i8s r.l).toArray 29) * (HP.pt w3.heap.size (.cells #[.int .i64 r.seq, .int .i64 r.gen, .int .i64 r.lsn, .int .i64 r.seg, .int .i64 r.ext, .int .i64 r.flo, .int .i64 r.new, .int .i64 r.keep, .int .i64 r.next, .int .i64 r.cur] 29) * (HP.pt wr.heap.size (.cells #[.int .i64 a.seq, .int .i64 a.gen, .int .i64 a.lsn, .int .i64 a.seg, .int .i64 a.ext, .int .i64 a.flo, .int .i64 a.new, .int .i64 a.keep, .int .i64 a.next, .int .i64 a.cur] 29) * (HP.disk d B * (HP.rdisk y B * q)))))).right.right.right⟩
          clear h11 h12 H10 HLR
          go_wp2_with (first | (refine wpList_store_run rfl rfl rfl rfl rfl r14 ?_))
          go_roundw
          case rel => exact ⟨k + 1, B, by go_num, by omega, HBY2, H12⟩
          case measure => simp [intOf]; omega
    · obtain rfl : k = n := by omega
      have H2 := Aside.mk HS.out.right.right
      clear HS
      go_wp2_with fail
      refine (awake17_ok E q _ (fun w h => HQ.out _ w h) H2.out).mono ?_
      rintro e w2 ⟨rfl, h2⟩
      go_wp2
      go_ret
      exact ⟨rfl, h2⟩
end Go.Proofs.YtmjnnbnbdcadbaaGreatDoor
/- Steps as a law's argument, behind tied cards. -/
namespace Go.Proofs.YtmjnnbnbdcadbaaGreatDoor
open Go.ChangeShapes Go.WideShapes Go.ChangeAt Go.RowKit HP
set_option linter.unusedVariables false

theorem rdSteps_at : (rdSl rdStep).At Tryz.prog 22 := rdSl_at (n := 8) Tryz.underlying22 (by kernel_rfl) rdStep_at
structure StepsOk (W : World) (s : Sl StepV) : Prop where
  len : s.l.length ≤ s.cap
  cap : s.cap ≤ maxLen
  cells : Cells W s.A (s.l.flatMap StepV.vals)
  each : ∀ x ∈ s.l, x.Ok W
theorem steps_ok {W : World} {s : Sl StepV} (h : (rdSl rdStep).ok W s) : StepsOk W s := ⟨h.1, h.2.1, h.2.2.1, fun x hx => step_ok (h.2.2.2 x hx)⟩
theorem steps_old {W : World} {s : Sl StepV} (h : (rdSl rdStep).ok W s) : Steps (HP.old W) s :=
  ⟨Nat.le_trans (steps_ok h).len (steps_ok h).cap, fun x hx => ((steps_ok h).each x hx).wf, fun E w hw => ⟨(steps_ok h).cells.carry (old_carry hw), fun x hx => ⟨((steps_ok h).each x hx).b.2.2.1.carry (old_carry hw), ((steps_ok h).each x hx).kept.2.2.1.carry (old_carry hw)⟩⟩⟩
end Go.Proofs.YtmjnnbnbdcadbaaGreatDoor
