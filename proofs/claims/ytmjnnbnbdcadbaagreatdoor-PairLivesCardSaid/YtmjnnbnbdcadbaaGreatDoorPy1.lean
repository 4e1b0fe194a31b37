/- dryrotplain.Same: two disks told by one model are the same, as far as they tell. -/
import Derived.Test.YtmjnnbnbdcadbaaGreatDoorLz16
import Derived.Lib.SlBytesConst
namespace Go.Proofs.YtmjnnbnbdcadbaaGreatDoor
open Go.RowKit HP
set_option linter.unusedSimpArgs false
set_option linter.unusedVariables false

theorem cel_some {A : Dk} {s : ByteArray} {i : Nat} (hi : i < (A.at s).length) : ∃ c, A.cel s i = some c ∧ c ∈ A.at s := by
  unfold Dk.cel
  rw [if_pos (by omega), Int.toNat_natCast, List.getElem?_eq_getElem hi]
  exact ⟨_, rfl, List.getElem_mem hi⟩
theorem at_fine {A : Dk} (h : A.Fine) {s : ByteArray} {c : Cel} (hc : c ∈ A.at s) : c.Fine := by
  unfold Dk.at at hc
  cases hl : lk A.files s with
  | none => rw [hl] at hc; cases hc
  | some l => rw [hl] at hc; exact h.cels _ (lk_mem hl) c hc
theorem names_map (A : Dk) : namesV A = (A.files.map (·.1)).map Value.string := by unfold namesV; rw [List.map_map]; rfl
theorem damaged_le {A : Dk} (h : A.Fine) : A.damaged.length ≤ 100000 := by
  have h1 : A.damaged.length ≤ sizeF A.files := spots_length A.files
  have h2 := h.fits
  have h3 := h.room
  omega
set_option maxHeartbeats 4000000 in
set_option maxRecDepth 100000 in
theorem same_ok (E : Env) (q : HP) (d y : Nat) (A : Dk) (w : World) (hb : A.Byt) (hw : Sat E w (HP.disk d A * (HP.rdisk y A * q))) :
    Calls Tryz.prog 11 #[.pointer (some ⟨d, 0, none⟩), .pointer (some ⟨y, 0, none⟩)] w fun e w' => e = .returned (.bool true) ∧ Sat E w' (HP.disk d A * (HP.rdisk y A * q)) := by
  have HF := Aside.mk hw.disk_fine
  have HB := Aside.mk hb
  have hnl := files_le HF.out
  have hdl := damaged_le HF.out
  have HW := Aside.mk hw
  clear hw hb
  obtain ⟨nl, hnle⟩ : ∃ nl, nl = A.files.length := ⟨_, rfl⟩
  obtain ⟨dl, hdle⟩ : ∃ dl, dl = A.damaged.length := ⟨_, rfl⟩
  rw [← hnle] at hnl
  rw [← hdle] at hdl
  have HNL := Aside.mk hnle
  have HDL := Aside.mk hdle
  clear hnle hdle
  go_enter Tryz.func11, Tryz.ntmps11
  go_wp2_with fail
  refine (rdisk_list E _ y A _ HW.out.s2).mono ?_
  rintro e w1 ⟨v, rfl, h1⟩
  rw [← HNL.out] at h1
  obtain ⟨AL, cL, rfl, hcL, -⟩ := h1.row_slice
  have H1 : Aside (Sat E w1 (HP.disk d A * (HP.row 9 1 (.slice AL nl cL) nl (namesV A) * (HP.rdisk y A * q)))) := ⟨h1.perm (by ac_rfl)⟩
  clear h1 HW
  go_wp2_with fail
  refine (disk_list E _ d A _ H1.out).mono ?_
  rintro e w2 ⟨v, rfl, h2⟩
  rw [← HNL.out] at h2
  obtain ⟨AM, cM, rfl, hcM, -⟩ := h2.row_slice
  have H2 := Aside.mk h2
  clear h2 H1
  go_wp2_with fail
  refine (strs_equal E _ AM AL (A.files.map (·.1)) (A.files.map (·.1)) nl nl cM cL _ (by rw [List.length_map, ← HNL.out]) (by rw [List.length_map, ← HNL.out]) (by omega) (by omega) (fun w h => by rw [← names_map]; exact ⟨h.row_cells, h.s3.row_cells⟩) H2.out).mono ?_
  rintro e w3 ⟨rfl, h3⟩
  rw [decide_eq_true rfl]
  have H3 : Aside (Sat E w3 (HP.disk d A * (HP.row 9 1 (.slice AL nl cL) nl (namesV A) * (HP.rdisk y A * q)))) := ⟨h3.right⟩
  clear h3 H2
  go_wp2_with fail
  refine (disk_free_ok E _ d A _ H3.out).mono ?_
  rintro e w4 ⟨rfl, h4⟩
  have H4 : Aside (Sat E w4 (HP.rdisk y A * (HP.disk d A * (HP.row 9 1 (.slice AL nl cL) nl (namesV A) * q)))) := ⟨h4.perm (by ac_rfl)⟩
  clear h4 H3
  obtain ⟨fr, hfr⟩ : ∃ fr, fr = A.free := ⟨_, rfl⟩
  have HRF := Aside.mk (rdisk_free E _ y A _ H4.out)
  rw [← hfr] at HRF ⊢
  clear hfr
  go_wp2_with fail
  refine HRF.out.mono ?_
  rintro e w5 ⟨rfl, h5⟩
  have H5 : Aside (Sat E w5 (HP.disk d A * (HP.row 9 1 (.slice AL nl cL) nl (namesV A) * (HP.rdisk y A * q)))) := ⟨h5.perm (by ac_rfl)⟩
  clear h5 HRF H4
  go_wp2_with fail
  refine (disk_damaged E _ d A _ H5.out).mono ?_
  rintro e w6 ⟨v, rfl, h6⟩
  rw [← HDL.out] at h6
  obtain ⟨D0, e0, rfl, -, -⟩ := h6.row_slice
  have H6 : Aside (Sat E w6 (HP.rdisk y A * (HP.row 105 2 (.slice D0 dl e0) dl (A.damaged.flatMap encSpot) * (HP.disk d A * (HP.row 9 1 (.slice AL nl cL) nl (namesV A) * q))))) := ⟨h6.perm (by ac_rfl)⟩
  clear h6 H5
  go_wp2_with fail
  refine (rdisk_damaged E _ y A _ H6.out HB.out).mono ?_
  rintro e w7 ⟨v, rfl, h7⟩
  rw [← HDL.out] at h7
  obtain ⟨D1, e1, rfl, -, -⟩ := h7.row_slice
  have H7 := Aside.mk h7
  clear h7 H6
  go_wp2_with fail
  refine (spots_equal E _ D0 D1 A.damaged A.damaged dl dl e0 e1 _ HDL.out.symm HDL.out.symm (by omega) (by omega) (fun w h => ⟨h.s3.row_cells, h.row_cells⟩) H7.out).mono ?_
  rintro e w8 ⟨rfl, h8⟩
  rw [decide_eq_true rfl]
  have H8 : Aside (Sat E w8 (HP.row 9 1 (.slice AL nl cL) nl (namesV A) * (HP.disk d A * (HP.rdisk y A * q)))) := ⟨(h8.perm (by ac_rfl : _ = HP.row 105 2 (.slice D1 dl e1) dl (A.damaged.flatMap encSpot) * (HP.row 105 2 (.slice D0 dl e0) dl (A.damaged.flatMap encSpot) * (HP.row 9 1 (.slice AL nl cL) nl (namesV A) * (HP.disk d A * (HP.rdisk y A * q)))))).right.right⟩
  clear h8 H7
  go_wp2
  go_loopw [37] (fun v37 wr => ∃ j : Nat, v37 = .int .i64 j ∧ j ≤ nl ∧ Aside (Sat E wr (HP.row 9 1 (.slice AL nl cL) nl (namesV A) * (HP.disk d A * (HP.rdisk y A * q))))) (fun x _ => nl - (intOf x).toNat)
  case atStart => exact ⟨0, rfl, Nat.zero_le _, H8⟩
  case round =>
    clear H8
    obtain ⟨j, rfl, hj, HS⟩ := hrel
    by_cases hlt : j < nl
    · have hj1 : (j : Int) < (nl : Int) := by omega
      have hj0 : (0 : Int) ≤ (j : Int) := by omega
      obtain ⟨nm, hnm⟩ : ∃ nm, (A.files.map (·.1))[j]? = some nm := ⟨_, List.getElem?_eq_getElem (by rw [List.length_map, ← HNL.out]; exact hlt)⟩
      have hnsz : nm.size ≤ maxLen := by
        obtain ⟨x, hx, rfl⟩ := List.mem_map.1 (List.mem_of_getElem? hnm)
        exact names_le HF.out hx
      have gj : (namesV A)[j]? = some (.string nm) := by rw [names_map, List.getElem?_map, hnm]; rfl
      obtain ⟨gL, oL, rfl⟩ : ∃ g o, AL = some ⟨g, o, none⟩ := by
        obtain ⟨a, ha, -⟩ := HS.out.row_cells _ _ gj
        obtain ⟨g, o, rfl⟩ : ∃ g o, a = ⟨g, o, none⟩ := slice_addr HS.out.row_cells ha (List.getElem?_eq_some_iff.1 gj).1
        exact ⟨g, o, ha⟩
      have cj := HS.out.row_cells.some_ _ _ gj
      rw [addr_add] at cj
      clear gj hnm
      have hes := at_small HF.out nm
      have HNS := Aside.mk hnsz
      obtain ⟨ne, hne⟩ : ∃ ne, ne = (A.at nm).length := ⟨_, rfl⟩
      rw [← hne] at hes
      have HNE := Aside.mk hne
      have HX1 := Aside.mk (fun w (h : Sat E w (HP.disk d A * (HP.row 9 1 (.slice (some ⟨gL, oL, none⟩) nl cL) nl (namesV A) * (HP.rdisk y A * q)))) => disk_extents E _ d A nm w hnsz h)
      have HX2 := Aside.mk (fun w (h : Sat E w (HP.rdisk y A * (HP.disk d A * (HP.row 9 1 (.slice (some ⟨gL, oL, none⟩) nl cL) nl (namesV A) * q)))) => rdisk_extents E _ y A nm w h)
      rw [← hne] at HX1 HX2
      clear hnsz hne
      go_wp2_with fail
      refine (HX1.out _ HS.out.s2).mono ?_
      rintro e w4 ⟨rfl, hw4⟩; subst w4
      clear cj
      have H9 : Aside (Sat E wr (HP.rdisk y A * (HP.disk d A * (HP.row 9 1 (.slice (some ⟨gL, oL, none⟩) nl cL) nl (namesV A) * q)))) := ⟨HS.out.perm (by ac_rfl)⟩
      clear HS
      go_wp2_with fail
      refine (HX2.out _ H9.out).mono ?_
      rintro e w9 ⟨rfl, h9⟩
      have H10 := Aside.mk h9
      clear h9 H9
      go_wp2_with fail
      refine (HX2.out _ H10.out).mono ?_
      rintro e w10 ⟨rfl, h10⟩
      have HS : Aside (Sat E w10 (HP.disk d A * (HP.rdisk y A * (HP.row 9 1 (.slice (some ⟨gL, oL, none⟩) nl cL) nl (namesV A) * q)))) := ⟨h10.perm (by ac_rfl)⟩
      clear h10 H10 HX1 HX2
      go_wp2
      go_loopw [51] (fun v51 wi => ∃ i : Nat, v51 = .int .i64 i ∧ i ≤ ne ∧ Aside (Sat E wi (HP.disk d A * (HP.rdisk y A * (HP.row 9 1 (.slice (some ⟨gL, oL, none⟩) nl cL) nl (namesV A) * q))))) (fun x _ => ne - (intOf x).toNat)
      case atStart => exact ⟨0, rfl, Nat.zero_le _, HS⟩
      case round =>
        clear HS
        obtain ⟨i, rfl, hi, HS⟩ := hrel
        by_cases hil : i < ne
        · have hi1 : (i : Int) < (ne : Int) := by omega
          have hi0 : (0 : Int) ≤ (i : Int) := by omega
          obtain ⟨c, hc, hcm⟩ := cel_some (A := A) (s := nm) (i := i) (by rw [← HNE.out]; exact hil)
          have HC := Aside.mk (And.intro hc (And.intro (at_fine HF.out hcm) (HB.out.at nm c hcm)))
          clear hc hcm
          go_wp2_with fail
          refine (disk_read_ok E _ d A nm i _ HNS.out HS.out).mono ?_
          rw [HC.out.1]
          rintro e w11 ⟨v, rfl, h11⟩
          obtain ⟨B0, b0, rfl, -, -⟩ := h11.row_slice
          have H11 : Aside (Sat E w11 (HP.rdisk y A * (HP.row 5 1 (.slice B0 128 b0) 128 (b8s c.read) * (HP.disk d A * (HP.row 9 1 (.slice (some ⟨gL, oL, none⟩) nl cL) nl (namesV A) * q))))) := ⟨h11.perm (by ac_rfl)⟩
          clear h11 HS
          go_wp2_with fail
          refine (rdisk_read E _ y A nm i _ H11.out).mono ?_
          rw [HC.out.1]
          rintro e w12 ⟨v, rfl, h12⟩
          obtain ⟨B1, b1, rfl, -, -⟩ := h12.row_slice
          have H12 := Aside.mk h12
          clear h12 H11
          go_wp2_with fail
          refine (bytesEq_ok B0 B1 c.read c.read 128 128 b0 b1 _ HC.out.2.1.1 HC.out.2.1.1 H12.out.s3.row_cells H12.out.row_cells HC.out.2.2.1 HC.out.2.2.1).mono ?_
          rintro e w13 ⟨rfl, hw13⟩; subst w13
          rw [decide_eq_true rfl]
          have HS2 : Aside (Sat E w12 (HP.disk d A * (HP.rdisk y A * (HP.row 9 1 (.slice (some ⟨gL, oL, none⟩) nl cL) nl (namesV A) * q)))) := ⟨(H12.out.perm (by ac_rfl : _ = HP.row 5 1 (.slice B0 128 b0) 128 (b8s c.read) * (HP.row 5 1 (.slice B1 128 b1) 128 (b8s c.read) * (HP.disk d A * (HP.rdisk y A * (HP.row 9 1 (.slice (some ⟨gL, oL, none⟩) nl cL) nl (namesV A) * q)))))).right.right⟩
          clear H12
          go_wp2
          go_roundw
          case rel => exact ⟨i + 1, by go_num, by omega, HS2⟩
          case measure => simp [intOf]; omega
        · have HS2 : Aside (Sat E _ (HP.row 9 1 (.slice (some ⟨gL, oL, none⟩) nl cL) nl (namesV A) * (HP.disk d A * (HP.rdisk y A * q)))) := ⟨HS.out.s3⟩
          have hi1 : ¬ (i : Int) < (ne : Int) := by omega
          clear HS
          go_wp2
          go_roundw
          case rel => exact ⟨j + 1, by go_num, by omega, HS2⟩
          case measure => simp [intOf]; omega
    · have hj1 : ¬ (j : Int) < (nl : Int) := by omega
      go_wp2
      go_ret
      exact ⟨rfl, HS.out.right⟩
end Go.Proofs.YtmjnnbnbdcadbaaGreatDoor
/- dryrotplain.Disks: two new disks, with steps done on both: they are told by one model. -/
namespace Go.Proofs.YtmjnnbnbdcadbaaGreatDoor
open Go.RowKit HP
set_option linter.unusedSimpArgs false
set_option linter.unusedVariables false

theorem Dk.write_room (A : Dk) (s : ByteArray) (i : Int) (b : List Int) : (A.write s i b).2.room = A.room := by
  unfold Dk.write
  split
  · rfl
  split
  · rfl
  split
  · rfl
  split <;> rfl
theorem Dk.sync_room (A : Dk) (s : ByteArray) : (A.sync s).2.room = A.room := by
  unfold Dk.sync
  split
  · rfl
  · split <;> rfl
theorem Dk.remove_room (A : Dk) (s : ByteArray) : (A.remove s).2.room = A.room := by
  unfold Dk.remove
  split
  · rfl
  · split <;> rfl
theorem Dk.rot_room (A : Dk) (s : ByteArray) (i a m : Int) : (A.rot s i a m).2.room = A.room := by
  unfold Dk.rot
  split
  · rfl
  · split <;> rfl
theorem Dk.stepK_room (A : Dk) (s : StepV) (k : Int) : (A.stepK s k).room = A.room := by
  unfold Dk.stepK
  split
  · exact A.write_room _ _ _
  split
  · exact A.write_room _ _ _
  split
  · exact A.sync_room _
  split
  · exact A.remove_room _
  split
  · exact A.rot_room _ _ _ _
  split
  · rfl
  unfold Dk.fuseK
  split <;> rfl
/-- The steps of a list, read. -/
structure Steps (q : HP) (l : Sl StepV) : Prop where
  len : l.l.length ≤ maxLen
  wf : ∀ s ∈ l.l, s.Wf
  cells : ∀ E w, Sat E w q → Cells w l.A (l.l.flatMap StepV.vals) ∧ ∀ s ∈ l.l, Cells w s.b.A (b8s s.b.l) ∧ Cells w s.kept.A (kepCells s.kept.l)
theorem Steps.mul {q r : HP} {l : Sl StepV} (h : Steps q l) : Steps (r * q) l := ⟨h.len, h.wf, fun E w hw => h.cells E w hw.right⟩
theorem Steps.at_ {q : HP} {l : Sl StepV} (h : Steps q l) {E : Env} {w : World} (hw : Sat E w q) {k : Nat} {s : StepV} (hs : l.l[k]? = some s) :
    ∃ g o, l.A = some ⟨g, o, none⟩ ∧ w.cell? ⟨g, o + k * 8, none⟩ = some (.int .i64 s.op) ∧ w.cell? ⟨g, o + k * 8 + 1, none⟩ = some (.int .i64 s.i) ∧ w.cell? ⟨g, o + k * 8 + 2, none⟩ = some (.int .i64 s.at_) ∧ w.cell? ⟨g, o + k * 8 + 3, none⟩ = some (.int .i64 s.n) ∧ w.cell? ⟨g, o + k * 8 + 4, none⟩ = some (.string s.name) ∧ w.cell? ⟨g, o + k * 8 + 5, none⟩ = some (.slice s.b.A s.b.l.length s.b.cap) ∧ w.cell? ⟨g, o + k * 8 + 6, none⟩ = some (.int .u8 s.mask) ∧ w.cell? ⟨g, o + k * 8 + 7, none⟩ = some (.slice s.kept.A s.kept.l.length s.kept.cap) := by
  have hcm := (h.cells _ _ hw).1
  have hg := fun j (hj : j < 8) => flat_get StepV.vals 8 l.l (fun _ => rfl) k j s hs hj
  have g0 := hg 0 (by omega)
  obtain ⟨pa, hpa, -⟩ := hcm _ _ g0
  obtain ⟨g, o, rfl⟩ : ∃ g o, pa = ⟨g, o, none⟩ := slice_addr hcm hpa (List.getElem?_eq_some_iff.1 g0).1
  rw [hpa] at hcm
  have f : ∀ j, j < 8 → ∀ u, s.vals[j]? = some u → w.cell? ⟨g, o + k * 8 + j, none⟩ = some u := fun j hj u hu => by
    have h1 := hcm.some_ (k * 8 + j) u ((hg j hj).trans hu)
    rw [addr_add, ← Nat.add_assoc] at h1
    exact h1
  exact ⟨g, o, hpa, f 0 (by omega) _ rfl, f 1 (by omega) _ rfl, f 2 (by omega) _ rfl, f 3 (by omega) _ rfl, f 4 (by omega) _ rfl, f 5 (by omega) _ rfl, f 6 (by omega) _ rfl, f 7 (by omega) _ rfl⟩
set_option maxHeartbeats 4000000 in
set_option maxRecDepth 100000 in
theorem disks_ok (E : Env) (q : HP) (room : Int) (l : Sl StepV) (w : World) (hr : 0 ≤ room ∧ room ≤ 100000) (hst : Steps q l) (hw : Sat E w q) :
    Calls Tryz.prog 7 #[.int .i64 room, l.val] w fun e w' => ∃ d y A, e = .returned (.tuple #[.pointer (some ⟨d, 0, none⟩), .pointer (some ⟨y, 0, none⟩), .bool true]) ∧ A.Byt ∧ A.room = room ∧ Sat E w' (HP.disk d A * (HP.rdisk y A * q)) := by
  unfold Sl.val
  have HST := Aside.mk hst
  have hlen := hst.len
  unfold maxLen at hlen
  have HR := Aside.mk hr
  clear hst
  go_enter Tryz.func7, Tryz.ntmps7
  go_wp2_with fail
  refine (disk_new_ok E q room w hr hw).mono ?_
  rintro e w1 ⟨d, rfl, h1⟩
  have H1 := Aside.mk h1
  clear h1 hw
  go_wp2_with fail
  refine (ref_new E _ room w1 HR.out H1.out).mono ?_
  rintro e w2 ⟨y, rfl, h2⟩
  have H2 : Aside (Sat E w2 (HP.disk d (Dk.new room) * (HP.rdisk y (Dk.new room) * q))) := ⟨h2.s2⟩
  have HB0 := Aside.mk (Dk.Byt.new room)
  have HR0 : Aside ((Dk.new room).room = room) := ⟨rfl⟩
  clear h2 H1 hr
  generalize hN : l.l.length = n at *
  have HN := Aside.mk hN
  clear hN
  go_wp2
  go_loopw [38] (fun x wr => ∃ (k : Nat) (A : Dk), x = .int .i64 k ∧ k ≤ n ∧ Aside A.Byt ∧ Aside (A.room = room) ∧ Aside (Sat E wr (HP.disk d A * (HP.rdisk y A * q)))) (fun x _ => n - (intOf x).toNat)
  case atStart => exact ⟨0, _, rfl, Nat.zero_le _, HB0, HR0, H2⟩
  case round =>
    clear H2 HB0 HR0
    obtain ⟨k, A, rfl, hk, HB, HRM, HS⟩ := hrel
    by_cases hlt : k < n
    · obtain ⟨s, hs⟩ : ∃ s, l.l[k]? = some s := ⟨_, List.getElem?_eq_getElem (by rw [HN.out]; exact hlt)⟩
      have hsm : s ∈ l.l := List.mem_of_getElem? hs
      obtain ⟨g, o, hA, g0, g1, g2, g3, g4, g5, g6, g7⟩ := HST.out.at_ HS.out.right.right hs
      rw [hA]
      have hk0 : (0 : Int) ≤ (k : Int) := by omega
      have hk1 : (k : Int) < (n : Int) := by omega
      have HB2 := Aside.mk (HS.out.alloc (.cells #[.int .i64 s.op, .int .i64 s.i, .int .i64 s.at_, .int .i64 s.n, .string s.name, .slice s.b.A s.b.l.length s.b.cap, .int .u8 s.mask, .slice s.kept.A s.kept.l.length s.kept.cap] 37)).right
      have HWF := Aside.mk (HST.out.wf s hsm)
      have HCL : Aside (∀ E w, Sat E w q → Cells w s.b.A (b8s s.b.l) ∧ Cells w s.kept.A (kepCells s.kept.l)) := ⟨fun E w h => (HST.out.cells E w h).2 s hsm⟩
      clear hs hsm HS hA
      by_cases h40 : (k : Int) < 40
      · go_wp2_with fail
        refine (do_ok E q d y A s _ HWF.out HCL.out HB2.out).mono ?_
        rintro e w10 ⟨rfl, h10⟩
        have H10 := Aside.mk h10
        have HB3 := Aside.mk (HB.out.stepK HWF.out (opK s.op))
        have HRM3 : Aside ((A.stepK s (opK s.op)).room = room) := ⟨by rw [Dk.stepK_room]; exact HRM.out⟩
        clear h10 HB2 g0 g1 g2 g3 g4 g5 g6 g7
        go_wp2
        go_roundw
        case rel => exact ⟨k + 1, _, by go_num, by omega, HB3, HRM3, H10⟩
        case measure => simp [intOf]; omega
      · go_wp2
        go_roundw
        case rel => exact ⟨k + 1, A, by go_num, by omega, HB, HRM, HB2⟩
        case measure => simp [intOf]; omega
    · obtain rfl : k = n := by omega
      go_wp2_with fail
      refine (same_ok E q d y A _ HB.out HS.out).mono ?_
      rintro e w3 ⟨rfl, h3⟩
      have H3 := Aside.mk h3
      clear h3 HS
      go_wp2
      go_ret3
      exact ⟨d, y, A, rfl, HB.out, HRM.out, H3.out⟩
end Go.Proofs.YtmjnnbnbdcadbaaGreatDoor
/- Steps as a law's argument, behind tied cards. -/
namespace Go.Proofs.YtmjnnbnbdcadbaaGreatDoor
open Go.ChangeShapes Go.WideShapes Go.ChangeAt Go.RowKit HP
set_option linter.unusedVariables false

theorem rdSteps_at : (rdSl rdStep).At Tryz.prog 22 := rdSl_at (n := 8) Tryz.underlying22 (by kernel_rfl) rdStep_at
structure StepsOk (W : World) (s : Sl StepV) : Prop where
  len : s.l.length ≤ s.cap
  cap : s.cap ≤ maxLen
  cells : Cells W s.A (s.l.flatMap StepV.vals)
  each : ∀ x ∈ s.l, x.Ok W
theorem steps_ok {W : World} {s : Sl StepV} (h : (rdSl rdStep).ok W s) : StepsOk W s := ⟨h.1, h.2.1, h.2.2.1, fun x hx => step_ok (h.2.2.2 x hx)⟩
theorem steps_old {W : World} {s : Sl StepV} (h : (rdSl rdStep).ok W s) : Steps (HP.old W) s :=
  ⟨Nat.le_trans (steps_ok h).len (steps_ok h).cap, fun x hx => ((steps_ok h).each x hx).wf, fun E w hw => ⟨(steps_ok h).cells.carry (old_carry hw), fun x hx => ⟨((steps_ok h).each x hx).b.2.2.1.carry (old_carry hw), ((steps_ok h).each x hx).kept.2.2.1.carry (old_carry hw)⟩⟩⟩
end Go.Proofs.YtmjnnbnbdcadbaaGreatDoor
/- pair.Load. -/
namespace Go.Proofs.YtmjnnbnbdcadbaaGreatDoor
open Go.RowKit HP
set_option linter.unusedSimpArgs false
set_option linter.unusedVariables false

def extN (A : Dk) (name : ByteArray) : Nat := (halvesL name).foldl (fun m f => max m (A.at f).length) 0
def loadG (A : Dk) (name : ByteArray) (gen : Int) : Nat → Nat → List Int → Option (List Int)
  | _, 0, out => some out
  | i, c + 1, out => if 0 ≤ (getP A name i).1 ∧ (getP A name i).1 = gen then loadG A name gen (i + 1) c (out ++ (getP A name i).2) else none
def loadP (A : Dk) (name : ByteArray) (gen : Int) : Option (List Int) := if extN A name = 0 then none else loadG A name gen 0 (extN A name) []
theorem getF_small {A : Dk} {i : Int} {st : Int × List Int} {f : ByteArray} (h : st.2.length ≤ 106) : (getF A i st f).2.length ≤ 106 := by
  unfold getF
  cases A.cel f i with
  | none => exact h
  | some c =>
    dsimp only
    cases ho : openI c.read f i with
    | none => exact h
    | some x =>
      dsimp only
      split
      · exact h
      · exact (openI_gen (p := x.1) (g := x.2) ho).2
theorem getP_small (A : Dk) (name : ByteArray) (i : Int) : (getP A name i).2.length ≤ 106 := by
  unfold getP halvesL
  exact getF_small (getF_small (Nat.zero_le _))
theorem extN_small {A : Dk} (h : ∀ s, (A.at s).length ≤ 100000) (name : ByteArray) : extN A name ≤ 100000 := by
  unfold extN halvesL
  simp only [List.foldl_cons, List.foldl_nil]
  have := h (name ++ dotA)
  have := h (name ++ dotB)
  omega
def loadEnd (E : Env) (q : HP) (r : Option (List Int)) (e : Ending) (w' : World) : Prop :=
  match r with
  | none => e = .returned (.tuple #[.slice none 0 0, .int .i64 50]) ∧ Sat E w' q
  | some l => ∃ v, e = .returned (.tuple #[v, .int .i64 0]) ∧ Sat E w' (HP.row 5 1 v l.length (b8s l) * q)
set_option maxHeartbeats 2000000 in
set_option maxRecDepth 100000 in
theorem pair_load (E : Env) (q : HP) (d : Nat) (A : Dk) (name : ByteArray) (gen : Int) (w : World) (hname : name.size + 2 ≤ maxLen) (hby : ∀ f ∈ halvesL name, ∀ i c, A.cel f i = some c → Bytes c.read)
    (hq : ∀ w, Sat E w q → Quarter w) (hw : Sat E w (HP.disk d A * q)) :
    Calls Tryz.prog 25 #[.pointer (some ⟨d, 0, none⟩), .string name, .int .i64 gen] w (loadEnd E (HP.disk d A * q) (loadP A name gen)) := by
  have hfa : (name ++ dotA).size ≤ maxLen := by rw [dotA_size]; exact hname
  have hfb : (name ++ dotB).size ≤ maxLen := by rw [dotB_size]; exact hname
  have HF : Aside (halvesL name = [name ++ dotA, name ++ dotB]) := ⟨rfl⟩
  have HSm : Aside (∀ s, (A.at s).length ≤ 100000) := ⟨fun s => at_small hw.disk_fine s⟩
  have HQ := Aside.mk (And.intro hq (And.intro hby hw))
  clear hq hby hw
  go_enter Tryz.func25, Tryz.ntmps25
  go_wp2_with fail
  refine (pair_none E q d A _ HQ.out.2.2).mono ?_
  rintro e w1 ⟨rfl, k1⟩
  have K1 := Aside.mk k1
  clear k1
  go_wp2_with fail
  refine (pair_halves E _ name _ hname K1.out).mono ?_
  rintro e w2 ⟨rfl, k2⟩
  obtain ⟨fa, hfae⟩ : ∃ fa, fa = name ++ dotA := ⟨_, rfl⟩
  obtain ⟨fb, hfbe⟩ : ∃ fb, fb = name ++ dotB := ⟨_, rfl⟩
  rw [← hfae] at hfa HF ⊢
  rw [← hfbe] at hfb HF ⊢
  clear hfae hfbe
  have K2 := Aside.mk k2
  clear k2 K1
  have i0 : ∀ w, (Instr.index 120 (.agg #[.string fa, .string fb]) (.int .i64 0)).run Tryz.prog w = .ok (.string fa) w := fun w => by kernel_rfl
  have i1 : ∀ w, (Instr.index 120 (.agg #[.string fa, .string fb]) (.int .i64 1)).run Tryz.prog w = .ok (.string fb) w := fun w => by kernel_rfl
  go_wp2
  go_loopw [8, 20] (fun v8 v20 wr => ∃ h m : Nat, h ≤ 2 ∧ v20 = .int .i64 h ∧ v8 = .int .i64 m ∧ m ≤ 100000 ∧ Aside (((halvesL name).drop h).foldl (fun m f => max m (A.at f).length) m = extN A name) ∧ Aside (Sat E wr (HP.disk d A * q))) (fun _ i _ => 2 - (intOf i).toNat)
  case atStart => exact ⟨0, 0, by omega, rfl, rfl, by omega, ⟨rfl⟩, K2⟩
  case round =>
    obtain ⟨h, m, hh, rfl, rfl, hm, HM, HS⟩ := hrel
    by_cases hlt : h < 2
    · obtain ⟨f, hf, hff, hix⟩ : ∃ f : ByteArray, f.size ≤ maxLen ∧ (halvesL name).drop h = f :: (halvesL name).drop (h + 1) ∧ ∀ w, (Instr.index 120 (.agg #[.string fa, .string fb]) (.int .i64 (h : Int))).run Tryz.prog w = .ok (.string f) w := by
        rw [HF.out]
        rcases Nat.lt_or_ge h 1 with h0 | h0
        · obtain rfl : h = 0 := by omega
          exact ⟨fa, hfa, rfl, i0⟩
        · obtain rfl : h = 1 := by omega
          exact ⟨fb, hfb, rfl, i1⟩
      rw [hff, List.foldl_cons] at HM
      have hlt2 : (h : Int) < 2 := by omega
      clear hff i0 i1
      go_wp2_with fail
      refine (disk_extents E q d A f _ hf HS.out).mono ?_
      rintro e w3 ⟨rfl, rfl⟩
      have hx := HSm.out f
      obtain ⟨x, hxe⟩ : ∃ x, x = (A.at f).length := ⟨_, rfl⟩
      rw [← hxe] at hx HM ⊢
      clear hxe
      have hmx : (if (x : Int) > (m : Int) then (x : Int) else m) = (max m x : Nat) := by split <;> omega
      obtain ⟨y, hy⟩ : ∃ y, y = max m x := ⟨_, rfl⟩
      have hy2 : y ≤ 100000 := by omega
      rw [← hy] at hmx HM
      have hmx2 : (if m < x then (x : Int) else (m : Int)) = (y : Int) := by split <;> omega
      have HYI : Aside (max (m : Int) (x : Int) = (y : Int)) := ⟨by omega⟩
      clear hy
      go_wp2
      go_roundw
      case rel => exact ⟨h + 1, y, by omega, by push_cast; rfl, (by first | rfl | exact congrArg (Value.int .i64) HYI.out), hy2, HM, HS⟩
      case measure => simp [intOf]; omega
    · have hh2 : h = 2 := by omega
      subst hh2
      rw [HF.out] at HM
      have HM2 : Aside (extN A name = m) := ⟨HM.out.symm⟩
      clear HM i0 i1
      have HS0 := Aside.mk (HS.out.row_nil 5 1 none)
      go_wp2
      go_loopw [11, 30] (fun v11 v30 wr => ∃ (i : Nat) (out : List Int), i ≤ m ∧ v30 = .int .i64 i ∧ out.length ≤ 106 * i ∧ Aside (loadG A name gen i (m - i) out = loadG A name gen 0 m []) ∧ Aside (Sat E wr (HP.row 5 1 v11 out.length (b8s out) * (HP.disk d A * q)))) (fun _ i _ => m - (intOf i).toNat)
      case atStart => exact ⟨0, [], by omega, rfl, by simp, ⟨rfl⟩, HS0⟩
      case round =>
        obtain ⟨i, out, hi, rfl, ho, HG, HT⟩ := hrel
        by_cases hlt : i < m
        · have hlt2 : (i : Int) < m := by omega
          go_wp2_with fail
          refine (pair_get E (HP.row 5 1 u11 out.length (b8s out) * q) d A name i _ hname (fun f hf c hc => HQ.out.2.1 f hf i c hc) (fun w h => HQ.out.1 _ h.right) HT.out.s2).mono ?_
          rintro e w4 ⟨v, rfl, h4⟩
          have hsm := getP_small A name i
          obtain ⟨j, hj⟩ : ∃ j, m - i = j + 1 := ⟨m - i - 1, by omega⟩
          have HL : Aside (loadG A name gen i (j + 1) out = if 0 ≤ (getP A name i).1 ∧ (getP A name i).1 = gen then loadG A name gen (i + 1) j (out ++ (getP A name i).2) else none) := ⟨rfl⟩
          rw [hj, HL.out] at HG
          clear HL
          have HP0 : Aside (loadP A name gen = loadG A name gen 0 m []) := ⟨by unfold loadP; rw [HM2.out, if_neg (by omega)]⟩
          obtain ⟨⟨best, p⟩, hst⟩ : ∃ st, st = getP A name i := ⟨_, rfl⟩
          rw [← hst] at h4 HG hsm ⊢
          clear hst
          dsimp only at h4 HG hsm
          unfold getEnd
          dsimp only
          by_cases hneg : best < 0
          · rw [if_pos hneg]
            have HX : Aside (loadP A name gen = none) := ⟨by rw [HP0.out, ← HG.out, if_neg (by omega)]⟩
            have H4 := Aside.mk (h4.right.perm (by ac_rfl) : Sat E w4 (HP.row 5 1 u11 out.length (b8s out) * (HP.disk d A * q)))
            clear h4 HG
            go_wp2
            go_ret2
            rw [HX.out]
            exact ⟨rfl, H4.out.right⟩
          · rw [if_neg hneg]
            obtain ⟨Av, cv, rfl, -, -⟩ := h4.row_slice
            by_cases heq : best = gen
            · subst heq
              rw [if_pos ⟨by omega, rfl⟩] at HG
              have h5 : Sat E w4 (HP.row 5 1 u11 out.length (b8s out) * (HP.row 5 1 (.slice Av p.length cv) p.length (b8s p) * (HP.disk d A * q))) := h4.perm (by ac_rfl)
              have H5 := Aside.mk (And.intro h5 (And.intro h4.row_cells (show (b8s p).length = p.length * 1 by rw [b8s_length, Nat.mul_one])))
              clear h4 h5
              obtain ⟨pl, hpl⟩ : ∃ pl, pl = p.length := ⟨_, rfl⟩
              obtain ⟨ol, hol⟩ : ∃ ol, ol = out.length := ⟨_, rfl⟩
              rw [← hpl, ← hol] at H5
              rw [← hpl] at hsm ⊢
              rw [← hol] at ho
              have HO := Aside.mk (And.intro hpl hol)
              clear hpl hol
              go_wp2_with (at_builtin; refine wpList_append_row slB8 rfl rfl (by rfl) (by rfl) H5.out.1 H5.out.2.1 H5.out.2.2 (b8s_one _) (by unfold maxLen; omega) (by omega) (fun v5 w5 hw5 => ?_); obtain ⟨A5, c5, rfl, -, -⟩ := hw5.row_slice; have HW5 := Aside.mk hw5; clear hw5)
              have H6 : Aside (Sat E w5 (HP.row 5 1 (.slice A5 (ol + pl) c5) (out ++ p).length (b8s (out ++ p)) * (HP.disk d A * q))) := ⟨by
                rw [List.length_append, b8s_append, ← HO.out.1, ← HO.out.2]
                exact HW5.out.drop2⟩
              have HG2 : Aside (loadG A name best (i + 1) (m - (i + 1)) (out ++ p) = loadG A name best 0 m []) := ⟨by rw [← HG.out, show m - (i + 1) = j by omega]⟩
              clear HG HW5 H5
              go_wp2
              refine ⟨?_, ?measure⟩
              (repeat apply Exists.intro)
              refine ⟨?rel, rfl⟩
              case rel => exact ⟨i + 1, out ++ p, by omega, by push_cast; rfl, by rw [List.length_append, ← HO.out.1, ← HO.out.2]; omega, HG2, H6⟩
              case measure => simp [intOf]; omega
            · rw [if_neg (fun h => heq h.2)] at HG
              have HX : Aside (loadP A name gen = none) := ⟨by rw [HP0.out, ← HG.out]⟩
              have H4 := Aside.mk (h4.right.perm (by ac_rfl) : Sat E w4 (HP.row 5 1 u11 out.length (b8s out) * (HP.disk d A * q)))
              clear h4 HG
              go_wp2
              go_ret2
              rw [HX.out]
              exact ⟨rfl, H4.out.right⟩
        · have hie : i = m := by omega
          subst hie
          rw [Nat.sub_self] at HG
          have HG2 : Aside (loadG A name gen 0 i [] = some out) := ⟨HG.out.symm⟩
          clear HG
          by_cases hz : i = 0
          · subst hz
            have HX : Aside (loadP A name gen = none) := ⟨by unfold loadP; rw [if_pos HM2.out]⟩
            clear HG2
            go_wp2
            go_ret2
            rw [HX.out]
            exact ⟨rfl, HT.out.right⟩
          · have HX : Aside (loadP A name gen = some out) := ⟨by unfold loadP; rw [HM2.out, if_neg hz]; exact HG2.out⟩
            have hb0 : ((i : Int) == 0) = false := by rw [beq_eq_false_iff_ne]; omega
            have hb1 : ¬ (i : Int) = 0 := by omega
            clear HG2
            go_wp2
            go_ret2
            rw [HX.out]
            exact ⟨_, rfl, HT.out⟩
end Go.Proofs.YtmjnnbnbdcadbaaGreatDoor
/- pair.Mend. -/
namespace Go.Proofs.YtmjnnbnbdcadbaaGreatDoor
open Go.RowKit HP
set_option linter.unusedSimpArgs false
set_option linter.unusedVariables false

set_option maxHeartbeats 4000000 in
set_option maxRecDepth 100000 in
theorem pair_mend (E : Env) (q : HP) (d : Nat) (A : Dk) (name : ByteArray) (i : Int) (w : World) (hname : name.size + 2 ≤ maxLen) (hby : ∀ f ∈ halvesL name, ∀ c, A.cel f i = some c → Bytes c.read)
    (hq : ∀ w, Sat E w q → Quarter w) (hw : Sat E w (HP.disk d A * q)) :
    Calls Tryz.prog 20 #[.pointer (some ⟨d, 0, none⟩), .string name, .int .i64 i] w fun e w' => e = .returned (.tuple #[.bool (mendP A name i).1.1, .int .i64 (mendP A name i).1.2]) ∧ Sat E w' (HP.disk d (mendP A name i).2 * q) := by
  have hfa : (name ++ dotA).size ≤ maxLen := by rw [dotA_size]; exact hname
  have hfb : (name ++ dotB).size ≤ maxLen := by rw [dotB_size]; exact hname
  have HF : Aside (halvesL name = [name ++ dotA, name ++ dotB]) := ⟨rfl⟩
  have HNE := Aside.mk (halves_ne name)
  have HM : Aside (mendP A name i = if (getP A name i).1 < 0 then ((false, 50), A) else mendL i.toNat (getP A name i).1.toNat (getP A name i).2 false A (halvesL name)) := ⟨rfl⟩
  have HQ := Aside.mk (And.intro hq (And.intro hby hw))
  have HG := Aside.mk (And.intro (getP_ok A name i) (getP_byt hby))
  clear hq hby hw
  go_enter Tryz.func20, Tryz.ntmps20
  go_wp2_with fail
  refine (pair_get E q d A name i _ hname HQ.out.2.1 HQ.out.1 HQ.out.2.2).mono ?_
  rintro e w1 ⟨v, rfl, h1⟩
  obtain ⟨Av, cv, rfl, hcv, hcm⟩ := h1.row_slice
  obtain ⟨⟨G0, p⟩, hGp⟩ : ∃ r, r = getP A name i := ⟨_, rfl⟩
  rw [← hGp] at h1 HM HG ⊢
  clear hGp
  dsimp only at h1 HM HG ⊢
  have H1 := Aside.mk h1
  clear h1
  unfold getEnd
  by_cases hneg : G0 < 0
  · rw [if_pos (by exact hneg)]
    rw [if_pos hneg] at HM
    go_wp2
    go_ret2
    rw [HM.out]
    exact ⟨rfl, H1.out.right⟩
  · rw [if_neg (by exact hneg)]
    rw [if_neg hneg] at HM
    obtain ⟨i0, i1⟩ := HG.out.1.place (by show 0 ≤ G0; omega)
    obtain ⟨i, rfl⟩ := Int.eq_ofNat_of_zero_le i0
    obtain ⟨G, rfl⟩ := Int.eq_ofNat_of_zero_le (show 0 ≤ G0 by omega)
    rw [Int.toNat_natCast, Int.toNat_natCast] at HM
    have hG : (G : Int) ≤ 4611686018427387904 := HG.out.1.gen
    have hpl : p.length ≤ 106 := HG.out.1.len
    obtain ⟨n, hn⟩ : ∃ n, n = p.length := ⟨_, rfl⟩
    rw [← hn] at H1 hpl ⊢
    have HPL := Aside.mk (And.intro hn.symm HG.out.2)
    clear hn HG hneg hcv hcm
    go_wp2_with fail
    refine (pair_halves E _ name _ hname H1.out).mono ?_
    rintro e w2 ⟨rfl, h2⟩
    obtain ⟨fa, hfae⟩ : ∃ fa, fa = name ++ dotA := ⟨_, rfl⟩
    obtain ⟨fb, hfbe⟩ : ∃ fb, fb = name ++ dotB := ⟨_, rfl⟩
    rw [← hfae] at hfa HF HNE ⊢
    rw [← hfbe] at hfb HF HNE ⊢
    clear hfae hfbe
    have H2 : Aside (Sat E w2 (HP.disk d A * (HP.row 5 1 (.slice Av n cv) n (b8s p) * q))) := ⟨h2.s2⟩
    clear h2 H1
    have i0' : ∀ w, (Instr.index 120 (.agg #[.string fa, .string fb]) (.int .i64 0)).run Tryz.prog w = .ok (.string fa) w := fun w => by kernel_rfl
    have i1' : ∀ w, (Instr.index 120 (.agg #[.string fa, .string fb]) (.int .i64 1)).run Tryz.prog w = .ok (.string fb) w := fun w => by kernel_rfl
    go_wp2
    go_loopw [11, 33] (fun v11 v33 wr => ∃ (h : Nat) (wrote : Bool) (A' : Dk), h ≤ 2 ∧ v33 = .int .i64 h ∧ v11 = .bool wrote ∧ Aside (mendL i G p wrote A' ((halvesL name).drop h) = mendP A name i) ∧ Aside (∀ f ∈ (halvesL name).drop h, ∀ c, A'.cel f i = some c → Bytes c.read) ∧ Aside (Sat E wr (HP.disk d A' * (HP.row 5 1 (.slice Av n cv) n (b8s p) * q)))) (fun _ x _ => 2 - (intOf x).toNat)
    case atStart => exact ⟨0, false, A, by omega, rfl, rfl, ⟨HM.out.symm⟩, ⟨HQ.out.2.1⟩, H2⟩
    case round =>
      obtain ⟨h, wrote, A', hh, rfl, rfl, HL, HY, HS⟩ := hrel
      by_cases hlt : h < 2
      · obtain ⟨f, hf, hff, hne, hix⟩ : ∃ f : ByteArray, f.size ≤ maxLen ∧ (halvesL name).drop h = f :: (halvesL name).drop (h + 1) ∧ (∀ t ∈ (halvesL name).drop (h + 1), f ≠ t) ∧ ∀ w, (Instr.index 120 (.agg #[.string fa, .string fb]) (.int .i64 (h : Int))).run Tryz.prog w = .ok (.string f) w := by
          rw [HF.out]
          rcases Nat.lt_or_ge h 1 with h0 | h0
          · obtain rfl : h = 0 := by omega
            exact ⟨fa, hfa, rfl, fun t ht => by obtain rfl := List.mem_singleton.1 ht; exact HNE.out, i0'⟩
          · obtain rfl : h = 1 := by omega
            exact ⟨fb, hfb, rfl, fun t ht => (by cases ht), i1'⟩
        rw [hff] at HL HY
        have HNX := Aside.mk hne
        clear hff hne i0' i1'
        have hlt2 : (h : Int) < 2 := by omega
        have hIl : (extI f i G p).length = 128 := extI_length (by rw [HPL.out.1]; exact hpl)
        have hIb : Bytes (extI f i G p) := extI_bytes (by rw [HPL.out.1]; exact hpl) HPL.out.2
        have HX : Aside (mendL i G p wrote A' (f :: (halvesL name).drop (h + 1)) = if readO A' f i = extI f i G p then mendL i G p wrote A' ((halvesL name).drop (h + 1))
          else if (A'.write f i (extI f i G p)).1 = 0 then
            if ((A'.write f i (extI f i G p)).2.sync f).1 = 0 then mendL i G p true ((A'.write f i (extI f i G p)).2.sync f).2 ((halvesL name).drop (h + 1))
            else ((false, ((A'.write f i (extI f i G p)).2.sync f).1), ((A'.write f i (extI f i G p)).2.sync f).2)
          else ((false, (A'.write f i (extI f i G p)).1), (A'.write f i (extI f i G p)).2)) := ⟨rfl⟩
        rw [HL.out] at HX
        go_wp2_with fail
        refine (ext_frame E (HP.disk d A' * (HP.row 5 1 (.slice Av n cv) n (b8s p) * q)) f i G Av p n cv _ hf i1 hG HPL.out.1 hpl HPL.out.2 (fun w h => ⟨HQ.out.1 _ h.right.right, h.right.row_cells⟩) HS.out).mono ?_
        rintro e w3 ⟨gI, rfl, h3⟩
        obtain ⟨I, hIe⟩ : ∃ I, I = extI f i G p := ⟨_, rfl⟩
        rw [← hIe] at hIl hIb h3 HX
        clear hIe
        have HI := Aside.mk (And.intro hIl hIb)
        have H3 := Aside.mk h3.s2
        clear h3 hIl hIb HS HL
        go_wp2_with fail
        refine (disk_read_ok E _ d A' f i _ hf H3.out).mono ?_
        intro e w4 h4
        obtain ⟨Ar, nr, cr, er, hev, hrl, hbr, hcl, h5⟩ : ∃ (Ar : Option Addr) (nr cr : Nat) (er : Int), e = .returned (.tuple #[.slice Ar nr cr, .int .i64 er]) ∧ (readO A' f i).length = nr ∧ Bytes (readO A' f i) ∧ Cells w4 Ar (b8s (readO A' f i)) ∧ Sat E w4 (HP.disk d A' * (HP.pt gI (.cells (b8s I).toArray 201) * (HP.row 5 1 (.slice Av n cv) n (b8s p) * q))) := by
          unfold readEnd at h4
          cases hc : A'.cel f i with
          | none =>
            rw [hc] at h4
            rw [readO_of_none hc]
            exact ⟨none, 0, 0, 30, h4.1, rfl, (fun x hx => by cases hx), Cells.nil _ _, h4.2⟩
          | some cl =>
            rw [hc] at h4
            obtain ⟨vr, h4a, h4⟩ := h4
            obtain ⟨Ar, cr, rfl, -, -⟩ := h4.row_slice
            rw [readO_of_some hc]
            have hl128 := h4.row_cases.1
            rw [b8s_length] at hl128
            exact ⟨Ar, 128, cr, 0, h4a, hl128, HY.out f (List.mem_cons_self ..) cl hc, h4.row_cells, h4.right⟩
        subst hev
        obtain ⟨R, hR⟩ : ∃ R, R = readO A' f i := ⟨_, rfl⟩
        rw [← hR] at hrl hbr hcl HX
        have HR := Aside.mk (And.intro hrl (And.intro hbr hcl))
        have H5 := Aside.mk h5
        clear h4 h5 hR hrl hbr hcl H3
        go_wp2_with fail
        refine (bytesEq_ok Ar (some ⟨gI, 0, none⟩) R I nr 128 cr 128 _ HR.out.1 HI.out.1 HR.out.2.2 (Sat.ptCells (off := 0) H5.out.right (by rw [List.drop_zero, List.take_length])) HR.out.2.1 HI.out.2).mono ?_
        rintro e w5 ⟨rfl, rfl⟩
        clear HR
        by_cases hRI : R = I
        · rw [decide_eq_true hRI]
          rw [if_pos hRI] at HX
          have HZ := Aside.mk (H5.out.s2.right)
          have HY2 : Aside (∀ f ∈ (halvesL name).drop (h + 1), ∀ c, A'.cel f i = some c → Bytes c.read) := ⟨fun t ht => HY.out t (List.mem_cons_of_mem _ ht)⟩
          have HX2 := Aside.mk HX.out.symm
          clear hRI HX HY H5
          go_wp2
          go_roundw
          case rel => exact ⟨h + 1, wrote, A', by omega, by push_cast; rfl, rfl, HX2, HY2, HZ⟩
          case measure => simp [intOf]; omega
        · rw [decide_eq_false hRI]
          rw [if_neg hRI] at HX
          clear hRI
          have hso : Sorted A'.files := H5.out.disk_fine.sorted
          have HSO := Aside.mk hso
          clear hso
          go_wp2_with fail
          refine (disk_write E _ d A' f i (some ⟨gI, 0, none⟩) I 128 128 _ hf HI.out.1 (by unfold maxLen; omega) (fun w h => Sat.ptCells (off := 0) h (by rw [List.drop_zero, List.take_length])) H5.out).mono ?_
          rintro e w6 ⟨rfl, h6⟩
          have H6 := Aside.mk h6.drop2
          clear h6 H5
          by_cases hw0 : (A'.write f (i : Int) I).1 = 0
          · rw [hw0]
            rw [if_pos hw0] at HX
            have HY2 : Aside (∀ t ∈ (halvesL name).drop (h + 1), ∀ c, (A'.write f (i : Int) I).2.cel t i = some c → Bytes c.read) := ⟨fun t ht c hc => HY.out t (List.mem_cons_of_mem _ ht) c (by rw [← cel_of_at (write_at_ne HSO.out (HNX.out t ht) i I)]; exact hc)⟩
            have hso2 : Sorted (A'.write f (i : Int) I).2.files := H6.out.disk_fine.sorted
            have HSO2 := Aside.mk hso2
            clear hso2 hw0 HY HSO
            generalize (A'.write f (i : Int) I).2 = B at *
            go_wp2_with fail
            refine (disk_sync E _ d B f _ hf H6.out).mono ?_
            rintro e w7 ⟨rfl, h7⟩
            have H7 := Aside.mk h7
            clear h7 H6
            by_cases hs0 : (B.sync f).1 = 0
            · rw [hs0]
              rw [if_pos hs0] at HX
              have HY3 : Aside (∀ t ∈ (halvesL name).drop (h + 1), ∀ c, (B.sync f).2.cel t i = some c → Bytes c.read) := ⟨fun t ht c hc => HY2.out t ht c (by rw [← cel_of_at (sync_at_ne HSO2.out (HNX.out t ht)) i]; exact hc)⟩
              have HX2 := Aside.mk HX.out.symm
              clear hs0 HX HY2
              generalize (B.sync f).2 = C at *
              go_wp2
              go_roundw
              case rel => exact ⟨h + 1, true, C, by omega, by push_cast; rfl, rfl, HX2, HY3, H7⟩
              case measure => simp [intOf]; omega
            · rw [if_neg hs0] at HX
              obtain ⟨ec, hec⟩ : ∃ ec, ec = (B.sync f).1 := ⟨_, rfl⟩
              rw [← hec] at hs0 HX ⊢
              clear hec HY2
              go_wp2
              go_ret2
              rw [HX.out]
              exact ⟨rfl, H7.out.drop2⟩
          · rw [if_neg hw0] at HX
            obtain ⟨ec, hec⟩ : ∃ ec, ec = (A'.write f (i : Int) I).1 := ⟨_, rfl⟩
            rw [← hec] at hw0 HX ⊢
            clear hec HY
            go_wp2
            go_ret2
            rw [HX.out]
            exact ⟨rfl, H6.out.drop2⟩
      · obtain rfl : h = 2 := by omega
        rw [HF.out] at HL
        have HX : Aside (mendP A name i = ((wrote, 0), A')) := ⟨by rw [← HL.out]; rfl⟩
        clear HL i0' i1'
        go_wp2
        go_ret2
        rw [HX.out]
        exact ⟨rfl, HS.out.drop2⟩
end Go.Proofs.YtmjnnbnbdcadbaaGreatDoor
/- Payloads written behind a file of a disk that has room. -/
namespace Go.Proofs.YtmjnnbnbdcadbaaGreatDoor
open Go.RowKit HP
set_option linter.unusedSimpArgs false
set_option linter.unusedVariables false

theorem goes_ever {A : Dk} (h : A.fuse = -1) : A.goes = true := by simp [Dk.goes, burnI, h]
theorem burnt_ever {A : Dk} (h : A.fuse = -1) : A.burnt = A := by
  obtain ⟨r, f, fs⟩ := A
  simp only at h
  subst h
  rfl
theorem write_end {A : Dk} {f : ByteArray} {I : List Int} (hn : namedB f = true) (hl : I.length = 128) (he : A.fuse = -1) (hf : 0 < A.free) : A.write f ((A.at f).length : Int) I = (0, A.set f (A.at f ++ [Cel.zero.wrote I])) := by
  unfold Dk.write
  rw [if_neg (by rw [hn, hl]; simp), if_neg (by rw [goes_ever he]; simp), if_neg (by omega), if_pos rfl, burnt_ever he]
theorem at_some {A : Dk} {f : ByteArray} (h : 0 < (A.at f).length) : lk A.files f = some (A.at f) := by
  unfold Dk.at at h ⊢
  cases hk : lk A.files f with
  | none => rw [hk] at h; simp at h
  | some l => rfl
structure Fresh (A B : Dk) (f : ByteArray) (m : Nat) : Prop where
  sorted : Sorted B.files
  fuse : B.fuse = -1
  room : B.room = A.room
  size : sizeF B.files = sizeF A.files + m
  others : ∀ t, f ≠ t → B.at t = A.at t
theorem set_fresh {A : Dk} {f : ByteArray} {l : List Cel} {m : Nat} (hs : Sorted A.files) (he : A.fuse = -1) (hl : l.length = (A.at f).length + m) : Fresh A (A.set f l) f m :=
  ⟨sorted_put f l hs, he, rfl, by
    have := sizeF_put hs f l
    have h2 : ((lk A.files f).getD []).length = (A.at f).length := rfl
    show sizeF (putF A.files f l) = _
    omega, fun t ht => by rw [at_set hs l, if_neg ht]⟩
theorem wrF_fresh {f : ByteArray} {gen : Nat} (hn : namedB f = true) (hg : (gen : Int) ≤ 4611686018427387904) : ∀ (ps : List (List Int)) (A : Dk) (i : Nat), Sorted A.files → A.fuse = -1 → (A.at f).length = i → (ps.length : Int) ≤ A.free → (∀ p ∈ ps, p.length ≤ 106) → i + ps.length ≤ 2147483647 → 0 < i + ps.length →
    ∃ B, wrF A f gen i ps = (0, B) ∧ Fresh A B f ps.length ∧ (B.at f).length = i + ps.length
  | [], A, i, hs, he, hi, _, _, _, h0 => by
    have hl := at_some (A := A) (f := f) (by rw [hi]; simpa using h0)
    refine ⟨_, sync_some hl (goes_ever he), ?_, ?_⟩
    · rw [burnt_ever he]
      exact set_fresh hs he (by rw [List.length_map]; rfl)
    · rw [burnt_ever he, at_set hs, if_pos rfl, List.length_map, hi]; rfl
  | p :: ps, A, i, hs, he, hi, hf, hp, hm, _ => by
    have hpl := hp p (List.mem_cons_self ..)
    simp only [List.length_cons] at hf hm
    have hfo : FrameOk (i : Int) gen p.length := ⟨by omega, by omega, by omega, hg, hpl⟩
    have hw : A.write f (i : Int) (extI f i gen p) = (0, A.set f (A.at f ++ [Cel.zero.wrote (extI f i gen p)])) := by
      have := write_end (A := A) (f := f) (I := extI f i gen p) hn (extI_length hpl) he (by omega)
      rw [hi] at this
      exact this
    have h1 := set_fresh (A := A) (f := f) (l := A.at f ++ [Cel.zero.wrote (extI f i gen p)]) (m := 1) hs he (by rw [List.length_append]; rfl)
    have hlen : ((A.set f (A.at f ++ [Cel.zero.wrote (extI f i gen p)])).at f).length = i + 1 := by rw [at_set hs, if_pos rfl, List.length_append, hi]; rfl
    obtain ⟨B, hB, hF, hBl⟩ := wrF_fresh hn hg ps (A.set f (A.at f ++ [Cel.zero.wrote (extI f i gen p)])) (i + 1) h1.sorted h1.fuse hlen (by
      have := h1.size
      show (ps.length : Int) ≤ (A.set f _).room - _
      unfold Dk.free at hf
      have h2 := h1.room
      omega) (fun x hx => hp x (List.mem_cons_of_mem _ hx)) (by omega) (by omega)
    refine ⟨B, ?_, ⟨hF.sorted, hF.fuse, hF.room.trans h1.room, ?_, fun t ht => (hF.others t ht).trans (h1.others t ht)⟩, by rw [hBl, List.length_cons]; omega⟩
    · unfold wrF
      rw [if_neg (by simpa using hfo), hw, if_pos rfl]
      exact hB
    · rw [hF.size, h1.size, List.length_cons]; omega
end Go.Proofs.YtmjnnbnbdcadbaaGreatDoor
/- PairNeeds, the plain part: how many extents a text has. -/
namespace Go.Proofs.YtmjnnbnbdcadbaaGreatDoor
open Go.RowKit HP
set_option linter.unusedSimpArgs false
set_option linter.unusedVariables false

theorem pieces_count {l : List Int} : ((piecesI l).length : Int) * 2 = needI l.length ∧ 0 < (piecesI l).length ∧ (l.length ≤ 600 → (piecesI l).length ≤ 6) ∧ ∀ p ∈ piecesI l, p.length ≤ 106 := by
  unfold piecesI needI
  by_cases h : l.length = 0
  · rw [if_pos h, if_pos (by omega)]
    refine ⟨by decide, by decide, fun _ => by decide, fun p hp => ?_⟩
    obtain rfl := List.mem_singleton.1 hp
    exact Nat.zero_le _
  · rw [if_neg h, if_neg (by omega), List.length_map, List.length_range]
    unfold chunkN
    refine ⟨by omega, by omega, fun h => by omega, fun p hp => ?_⟩
    obtain ⟨k, _, rfl⟩ := List.mem_map.1 hp
    rw [piece_length]
    unfold chunkM
    omega
/-- A text stored on a new disk. -/
theorem store_new {room : Int} {l : List Int} {gen : Nat} (hg : (gen : Int) ≤ 4611686018427387904) (hr : needI l.length ≤ room) (hl : (piecesI l).length ≤ 2147483647) : ∃ B, storeP (Dk.new room) exS gen l = (0, B) ∧ B.free = room - needI l.length ∧ B.fuse = -1 := by
  obtain ⟨p1, p2, -, p4⟩ := pieces_count (l := l)
  have hd : dropP (Dk.new room) exS = (0, Dk.new room) := by simp [dropP, dropL, halvesL, Dk.at, Dk.new, lk_nil]
  have hs0 : Sorted (Dk.new room).files := List.Pairwise.nil
  obtain ⟨B1, h1, f1, -⟩ := wrF_fresh (f := exS ++ dotA) twoEx.na hg (piecesI l) (Dk.new room) 0 hs0 rfl rfl (by show _ ≤ room - (0 : Nat); omega) p4 (by omega) (by omega)
  have hz : sizeF (Dk.new room).files = 0 := rfl
  have hr1 : B1.room = room := f1.room
  obtain ⟨B2, h2, f2, -⟩ := wrF_fresh (f := exS ++ dotB) twoEx.nb hg (piecesI l) B1 0 f1.sorted f1.fuse (by rw [f1.others _ twoEx.ne]; rfl) (by
    have := f1.size
    unfold Dk.free
    omega) p4 (by omega) (by omega)
  refine ⟨B2, ?_, ?_, f2.fuse⟩
  · unfold storeP
    rw [hd, if_pos rfl]
    unfold wrP halvesL
    simp only [wrL, h1, h2, if_pos rfl]
    rfl
  · have := f1.size
    have := f2.size
    have := f2.room
    unfold Dk.free
    omega
end Go.Proofs.YtmjnnbnbdcadbaaGreatDoor
/- A disk on which both halves hold pieces. -/
namespace Go.Proofs.YtmjnnbnbdcadbaaGreatDoor
open Go.RowKit HP
set_option linter.unusedSimpArgs false
set_option linter.unusedVariables false

def newCels (f : ByteArray) (gen : Nat) : Nat → List (List Int) → List Cel
  | _, [] => []
  | i, p :: ps => Cel.zero.wrote (extI f i gen p) :: newCels f gen (i + 1) ps
theorem wrF_cels {f : ByteArray} {gen : Nat} (hn : namedB f = true) (hg : (gen : Int) ≤ 4611686018427387904) : ∀ (ps : List (List Int)) (A : Dk) (i : Nat), Sorted A.files → A.fuse = -1 → (A.at f).length = i → (ps.length : Int) ≤ A.free → (∀ p ∈ ps, p.length ≤ 106) → i + ps.length ≤ 2147483647 → 0 < i + ps.length →
    (wrF A f gen i ps).2.at f = (A.at f ++ newCels f gen i ps).map Cel.syncd
  | [], A, i, hs, he, hi, _, _, _, h0 => by
    have hl := at_some (A := A) (f := f) (by rw [hi]; simpa using h0)
    show (A.sync f).2.at f = _
    rw [sync_some hl (goes_ever he), burnt_ever he, at_set hs, if_pos rfl]
    simp [newCels]
  | p :: ps, A, i, hs, he, hi, hf, hp, hm, _ => by
    have hpl := hp p (List.mem_cons_self ..)
    simp only [List.length_cons] at hf hm
    have hfo : FrameOk (i : Int) gen p.length := ⟨by omega, by omega, by omega, hg, hpl⟩
    have hw : A.write f (i : Int) (extI f i gen p) = (0, A.set f (A.at f ++ [Cel.zero.wrote (extI f i gen p)])) := by
      have := write_end (A := A) (f := f) (I := extI f i gen p) hn (extI_length hpl) he (by omega)
      rw [hi] at this
      exact this
    have h1 := set_fresh (A := A) (f := f) (l := A.at f ++ [Cel.zero.wrote (extI f i gen p)]) (m := 1) hs he (by rw [List.length_append]; rfl)
    have hlen : ((A.set f (A.at f ++ [Cel.zero.wrote (extI f i gen p)])).at f).length = i + 1 := by rw [at_set hs, if_pos rfl, List.length_append, hi]; rfl
    have hB := wrF_cels hn hg ps (A.set f (A.at f ++ [Cel.zero.wrote (extI f i gen p)])) (i + 1) h1.sorted h1.fuse hlen (by
      have := h1.size
      show (ps.length : Int) ≤ (A.set f _).room - _
      unfold Dk.free at hf
      have h2 := h1.room
      omega) (fun x hx => hp x (List.mem_cons_of_mem _ hx)) (by omega) (by omega)
    unfold wrF
    rw [if_neg (by simpa using hfo), hw, if_pos rfl, hB, at_set hs, if_pos rfl]
    simp [newCels]
theorem newCels_get {f : ByteArray} {gen : Nat} : ∀ (ps : List (List Int)) (i k : Nat) (p : List Int), ps[k]? = some p → (newCels f gen i ps)[k]? = some (Cel.zero.wrote (extI f (i + k) gen p))
  | [], i, k, p, h => by simp at h
  | q :: ps, i, 0, p, h => by
    simp only [List.getElem?_cons_zero, Option.some.injEq] at h
    subst h
    rfl
  | q :: ps, i, k + 1, p, h => by
    have := newCels_get (f := f) (gen := gen) ps (i + 1) k p (by simpa using h)
    rw [show i + 1 + k = i + (k + 1) by omega] at this
    simpa [newCels] using this
theorem newCels_length {f : ByteArray} {gen : Nat} : ∀ (ps : List (List Int)) (i : Nat), (newCels f gen i ps).length = ps.length
  | [], _ => rfl
  | _ :: ps, i => by
    show (newCels f gen (i + 1) ps).length + 1 = ps.length + 1
    rw [newCels_length ps]
/-- A disk on which both halves hold these pieces, of one generation. -/
structure Holds (B : Dk) (x : ByteArray) (gen : Nat) (ps : List (List Int)) : Prop where
  a : B.at (x ++ dotA) = (newCels (x ++ dotA) gen 0 ps).map Cel.syncd
  b : B.at (x ++ dotB) = (newCels (x ++ dotB) gen 0 ps).map Cel.syncd
theorem held_cel {B : Dk} {f : ByteArray} {gen k : Nat} {ps : List (List Int)} {p : List Int} (h : B.at f = (newCels f gen 0 ps).map Cel.syncd) (hp : ps[k]? = some p) : B.cel f (k : Int) = some (stl (extI f k gen p)) := by
  unfold Dk.cel
  rw [if_pos (by omega), Int.toNat_natCast, h, List.getElem?_map, newCels_get ps 0 k p hp, Nat.zero_add]
  rfl
theorem held_get {B : Dk} {x : ByteArray} {gen k : Nat} {ps : List (List Int)} {p : List Int} (h : Holds B x gen ps) (hg : gen ≤ 4611686018427387904) (hk : k ≤ 2147483647) (hp : ps[k]? = some p) (hl : p.length ≤ 106) : getP B x (k : Int) = ((gen : Int), p) := by
  have oa := openI_extI (f := x ++ dotA) (i := k) hk hg hl
  have ob := openI_extI (f := x ++ dotB) (i := k) hk hg hl
  unfold getP halvesL
  simp only [List.foldl_cons, List.foldl_nil]
  rw [show getF B k (-1, []) (x ++ dotA) = ((gen : Int), p) by simp only [getF, held_cel h.a hp, stl, oa]; rw [if_neg (by show ¬ (gen : Int) ≤ -1; omega)]]
  simp only [getF, held_cel h.b hp, stl, ob]
  rw [if_pos (Int.le_refl _)]
end Go.Proofs.YtmjnnbnbdcadbaaGreatDoor
/- What is stored on a new disk is read. -/
namespace Go.Proofs.YtmjnnbnbdcadbaaGreatDoor
open Go.RowKit HP
set_option linter.unusedSimpArgs false
set_option linter.unusedVariables false

theorem held_loadG {B : Dk} {x : ByteArray} {gen : Nat} {ps : List (List Int)} (h : Holds B x gen ps) (hg : gen ≤ 4611686018427387904) (hm : ps.length ≤ 2147483647) (hl : ∀ p ∈ ps, p.length ≤ 106) : ∀ (c i : Nat) (out : List Int), i + c = ps.length → loadG B x gen i c out = some (out ++ (ps.drop i).flatten)
  | 0, i, out, hi => by
    rw [List.drop_of_length_le (by omega)]
    simp [loadG]
  | c + 1, i, out, hi => by
    have hil : i < ps.length := by omega
    have hg2 := held_get (k := i) h hg (by omega) (List.getElem?_eq_getElem hil) (hl _ (List.getElem_mem hil))
    unfold loadG
    rw [hg2, if_pos ⟨by show (0 : Int) ≤ gen; omega, rfl⟩, held_loadG h hg hm hl c (i + 1) _ (by omega)]
    have e : (ps.drop i).flatten = ps[i] ++ (ps.drop (i + 1)).flatten := by rw [List.drop_eq_getElem_cons hil, List.flatten_cons]
    rw [e, List.append_assoc]
theorem held_load {B : Dk} {x : ByteArray} {gen : Nat} {ps : List (List Int)} (h : Holds B x gen ps) (hg : gen ≤ 4611686018427387904) (h0 : ps ≠ []) (hm : ps.length ≤ 2147483647) (hl : ∀ p ∈ ps, p.length ≤ 106) : loadP B x gen = some ps.flatten := by
  have hn : extN B x = ps.length := by
    unfold extN halvesL
    simp only [List.foldl_cons, List.foldl_nil, h.a, h.b, List.length_map, newCels_length]
    omega
  unfold loadP
  rw [hn, if_neg (fun h => h0 (List.eq_nil_of_length_eq_zero h)), held_loadG h hg hm hl _ 0 [] (by omega)]
  simp
theorem pieces_flat (l : List Int) : ∀ (m k : Nat), 106 * (k + m) ≥ l.length → ((List.range' k m).map (piece l)).flatten = l.drop (106 * k)
  | 0, k, h => by
    rw [List.drop_of_length_le (by simpa using h)]
    rfl
  | m + 1, k, h => by
    have ih := pieces_flat l m (k + 1) (by omega)
    rw [List.range'_succ, List.map_cons, List.flatten_cons, ih]
    unfold piece
    rw [show 106 * (k + 1) = 106 * k + 106 by omega, ← List.drop_drop, List.take_append_drop]
theorem piecesI_flat (l : List Int) : (piecesI l).flatten = l := by
  unfold piecesI
  by_cases h : l.length = 0
  · rw [if_pos h, List.eq_nil_of_length_eq_zero h]; rfl
  · rw [if_neg h, List.range_eq_range', pieces_flat l _ 0 (by unfold chunkN; omega)]
    rfl
/-- A text stored on a new disk: what both halves hold. -/
theorem store_held {room : Int} {l : List Int} {gen : Nat} (hg : (gen : Int) ≤ 4611686018427387904) (hr : needI l.length ≤ room) (hl : (piecesI l).length ≤ 2147483647) : Holds (storeP (Dk.new room) exS gen l).2 exS gen (piecesI l) ∧ Sorted (storeP (Dk.new room) exS gen l).2.files := by
  obtain ⟨p1, p2, -, p4⟩ := pieces_count (l := l)
  have hd : dropP (Dk.new room) exS = (0, Dk.new room) := by simp [dropP, dropL, halvesL, Dk.at, Dk.new, lk_nil]
  have hs0 : Sorted (Dk.new room).files := List.Pairwise.nil
  have hz : sizeF (Dk.new room).files = 0 := rfl
  have c1 : ((piecesI l).length : Int) ≤ (Dk.new room).free := by show _ ≤ room - (0 : Nat); omega
  obtain ⟨B1, h1, f1, -⟩ := wrF_fresh (f := exS ++ dotA) twoEx.na hg (piecesI l) (Dk.new room) 0 hs0 rfl rfl c1 p4 (by omega) (by omega)
  have g1 := wrF_cels (f := exS ++ dotA) twoEx.na hg (piecesI l) (Dk.new room) 0 hs0 rfl rfl c1 p4 (by omega) (by omega)
  have hr1 : B1.room = room := f1.room
  have c2 : ((piecesI l).length : Int) ≤ B1.free := by
    have := f1.size
    unfold Dk.free
    omega
  have hb0 : (B1.at (exS ++ dotB)).length = 0 := by rw [f1.others _ twoEx.ne]; rfl
  obtain ⟨B2, h2, f2, -⟩ := wrF_fresh (f := exS ++ dotB) twoEx.nb hg (piecesI l) B1 0 f1.sorted f1.fuse hb0 c2 p4 (by omega) (by omega)
  have g2 := wrF_cels (f := exS ++ dotB) twoEx.nb hg (piecesI l) B1 0 f1.sorted f1.fuse hb0 c2 p4 (by omega) (by omega)
  have hst : storeP (Dk.new room) exS gen l = (0, B2) := by
    unfold storeP
    rw [hd, if_pos rfl]
    unfold wrP halvesL
    simp only [wrL, h1, h2, if_pos rfl]
    rfl
  rw [h1] at g1
  rw [h2] at g2
  rw [hst]
  refine ⟨⟨?_, ?_⟩, f2.sorted⟩
  · rw [f2.others _ (Ne.symm twoEx.ne)]
    exact g1
  · rw [List.eq_nil_of_length_eq_zero hb0, List.nil_append] at g2
    exact g2
theorem store_holds {room : Int} {l : List Int} {gen : Nat} (hg : (gen : Int) ≤ 4611686018427387904) (hr : needI l.length ≤ room) (hl : (piecesI l).length ≤ 2147483647) : Holds (storeP (Dk.new room) exS gen l).2 exS gen (piecesI l) := (store_held hg hr hl).1
theorem store_load {room : Int} {l : List Int} {gen : Nat} (hg : (gen : Int) ≤ 4611686018427387904) (hr : needI l.length ≤ room) (hl : (piecesI l).length ≤ 2147483647) : loadP (storeP (Dk.new room) exS gen l).2 exS gen = some l := by
  obtain ⟨p1, p2, -, p4⟩ := pieces_count (l := l)
  rw [held_load (store_holds hg hr hl) (by omega) (fun h => by rw [h] at p2; simp at p2) hl p4, piecesI_flat]
end Go.Proofs.YtmjnnbnbdcadbaaGreatDoor
/- PairLost, the plain part: an extent of which one byte is turned is not right. -/
namespace Go.Proofs.YtmjnnbnbdcadbaaGreatDoor
open Go.RowKit HP
set_option linter.unusedSimpArgs false
set_option linter.unusedVariables false

theorem xor_cancel {x y z : Nat} (h : x ^^^ z = y ^^^ z) : x = y := by
  have h := congrArg (· ^^^ z) h
  simpa only [Nat.xor_assoc, Nat.xor_self, Nat.xor_zero] using h
theorem quarterN_top : ∀ i : Nat, i < 4 → quarterN i / 1073741824 = i
  | 0, _ => rfl
  | 1, _ => rfl
  | 2, _ => rfl
  | 3, _ => rfl
  | n + 4, h => by omega
theorem crcQ_top {r : Nat} (h : r < 4294967296) : crcQ r / 1073741824 = r % 4 := by
  have h1 : crcQ r >>> 30 = r % 4 := by
    unfold crcQ
    rw [Nat.shiftRight_xor_distrib, Nat.shiftRight_eq_div_pow, Nat.shiftRight_eq_div_pow]
    rw [show r / 4 / 2 ^ 30 = 0 by omega, Nat.zero_xor]
    exact quarterN_top _ (by omega)
  rwa [Nat.shiftRight_eq_div_pow] at h1
theorem crcQ_inj {a b : Nat} (ha : a < 4294967296) (hb : b < 4294967296) (h : crcQ a = crcQ b) : a = b := by
  have h1 := crcQ_top ha
  have h2 := crcQ_top hb
  rw [h, h2] at h1
  unfold crcQ at h
  rw [← h1] at h
  have := xor_cancel h
  omega
theorem crcI_inj {a b : Nat} (ha : a < 4294967296) (hb : b < 4294967296) : ∀ k, crcI k a = crcI k b → a = b
  | 0, h => h
  | k + 1, h => crcI_inj ha hb k (crcQ_inj (crcI_lt ha k) (crcI_lt hb k) h)
theorem crcB_inj {r s x y : Nat} (hr : r < 4294967296) (hs : s < 4294967296) (hx : x < 256) (hy : y < 256) (h : crcB r x = crcB s y) : r ^^^ x = s ^^^ y := crcI_inj (xor_lt32 hr (by omega)) (xor_lt32 hs (by omega)) 4 h
theorem crcL_inj : ∀ {l : List Int}, Bytes l → ∀ {r s : Nat}, r < 4294967296 → s < 4294967296 → crcL r l = crcL s l → r = s
  | [], _, r, s, _, _, h => h
  | x :: l, hl, r, s, hr, hs, h => by
    have hx := hl x (List.mem_cons_self ..)
    have h1 := crcL_inj (fun y hy => hl y (List.mem_cons_of_mem _ hy)) (crcB_lt hr (by omega)) (crcB_lt hs (by omega)) h
    exact xor_cancel (crcB_inj hr hs (by omega) (by omega) h1)
theorem crcL_set : ∀ {l : List Int}, Bytes l → ∀ {r k : Nat} {y : Int}, r < 4294967296 → k < l.length → 0 ≤ y → y ≤ 255 → crcL r (l.set k y) = crcL r l → y = l.getD k 0
  | [], _, r, k, y, _, hk, _, _, _ => by simp at hk
  | x :: l, hl, r, 0, y, hr, hk, h0, h1, h => by
    have hx := hl x (List.mem_cons_self ..)
    have h2 := crcL_inj (fun y hy => hl y (List.mem_cons_of_mem _ hy)) (crcB_lt (x := y.toNat) hr (by omega)) (crcB_lt (x := x.toNat) hr (by omega)) h
    have h3 := crcB_inj hr hr (by omega) (by omega) h2
    rw [Nat.xor_comm r, Nat.xor_comm r] at h3
    have h4 := xor_cancel h3
    show y = x
    omega
  | x :: l, hl, r, k + 1, y, hr, hk, h0, h1, h => by
    have hx := hl x (List.mem_cons_self ..)
    have := crcL_set (fun y hy => hl y (List.mem_cons_of_mem _ hy)) (k := k) (y := y) (crcB_lt (x := x.toNat) hr (by omega)) (by simpa using hk) h0 h1 h
    simpa using this
theorem crcSum_set {l : List Int} (hl : Bytes l) {k : Nat} {y : Int} (hk : k < l.length) (h0 : 0 ≤ y) (h1 : y ≤ 255) (h : crcSum (l.set k y) = crcSum l) : y = l.getD k 0 := by
  unfold crcSum crcMore at h
  rw [Nat.xor_comm 4294967295 (crcL _ _), Nat.xor_comm 4294967295 (crcL _ _)] at h
  exact crcL_set hl (by decide) hk h0 h1 (xor_cancel h)
/-- The last four bytes are the sum of all ahead of them. -/
def SumOk (b : List Int) : Prop := b.length = 128 ∧ b.drop 124 = putI (crcSum (b.take 124)) 4
theorem extI_sumOk {f : ByteArray} {i g : Nat} {p : List Int} (h : p.length ≤ 106) : SumOk (extI f i g p) := by
  refine ⟨extI_length h, ?_⟩
  unfold extI
  rw [List.drop_left' (extH_length h), List.take_left' (extH_length h)]
theorem openI_sumOk {b : List Int} {f : ByteArray} {i : Int} {x : List Int × Nat} (h : openI b f i = some x) : SumOk b := by
  obtain ⟨p, g⟩ := x
  have hl := (openI_gen h).2
  unfold openI at h
  split at h
  · cases h
  · split at h
    · cases h
    · split at h
      · cases h
      · rename_i h1 h2 h3
        simp only [Option.some.injEq, Prod.mk.injEq] at h
        obtain ⟨h4, h5⟩ := h
        rw [h4, h5] at h3
        rw [← Decidable.of_not_not h3]
        exact extI_sumOk hl
theorem sumOk_set {o : List Int} (ho : SumOk o) (hb : Bytes o) {k : Nat} {y : Int} (hk : k < 128) (h0 : 0 ≤ y) (h1 : y ≤ 255) (hne : y ≠ o.getD k 0) : ¬ SumOk (o.set k y) := by
  rintro ⟨-, h⟩
  obtain ⟨hl, hs⟩ := ho
  have bt : Bytes (o.take 124) := fun x hx => hb x (List.mem_of_mem_take hx)
  by_cases hk2 : k < 124
  · have e1 : (o.set k y).drop 124 = o.drop 124 := by
      apply List.ext_getElem?
      intro j
      rw [List.getElem?_drop, List.getElem?_drop, List.getElem?_set_ne (by omega)]
    have e2 : (o.set k y).take 124 = (o.take 124).set k y := by rw [List.take_set]
    rw [e1, e2, hs] at h
    have h2 := congrArg getN h
    have l1 : Bytes ((o.take 124).set k y) := fun x hx => by
      rcases List.mem_or_eq_of_mem_set hx with hx | rfl
      · exact bt x hx
      · omega
    rw [getN_putI 4 _ (crcSum_lt bt), getN_putI 4 _ (crcSum_lt l1)] at h2
    have := crcSum_set bt (k := k) (y := y) (by rw [List.length_take]; omega) h0 h1 h2.symm
    apply hne
    rw [this]
    simp only [List.getD, List.getElem?_take, if_pos hk2]
  · have e2 : (o.set k y).take 124 = o.take 124 := by
      apply List.ext_getElem?
      intro j
      rw [List.getElem?_take, List.getElem?_take]
      split
      · rw [List.getElem?_set_ne (by omega)]
      · rfl
    rw [e2, ← hs] at h
    have h2 := congrArg (fun l => l[k - 124]?) h
    simp only [List.getElem?_drop] at h2
    rw [show 124 + (k - 124) = k by omega, List.getElem?_set_self (by omega)] at h2
    apply hne
    simp [List.getD, ← h2]
theorem xorB_byte {a m : Int} (h0 : 0 ≤ a) (h1 : a ≤ 255) (h2 : 0 ≤ m) (h3 : m ≤ 255) : 0 ≤ xorB a m ∧ xorB a m ≤ 255 := by
  unfold xorB
  rw [u8_xor a m h0 (by omega) h2 (by omega)]
  have := Nat.xor_lt_two_pow (n := 8) (x := a.toNat) (y := m.toNat) (by omega) (by omega)
  omega
theorem xorB_ne {a m : Int} (h0 : 0 ≤ a) (h1 : a ≤ 255) (h2 : 0 < m) (h3 : m ≤ 255) : xorB a m ≠ a := by
  unfold xorB
  rw [u8_xor a m h0 (by omega) (by omega) (by omega)]
  intro h
  have h4 : a.toNat ^^^ m.toNat = a.toNat := by omega
  have h5 : m.toNat ^^^ a.toNat = 0 ^^^ a.toNat := by rw [Nat.xor_comm, h4, Nat.zero_xor]
  have := xor_cancel h5
  omega
theorem getD_byte {l : List Int} (h : Bytes l) (k : Nat) : 0 ≤ l.getD k 0 ∧ l.getD k 0 ≤ 255 := by
  unfold List.getD
  cases hk : l[k]? with
  | none => simp
  | some x => exact h x (List.mem_of_getElem? hk)
theorem xorAt_bytes {l : List Int} (h : Bytes l) {k : Nat} {m : Int} (h2 : 0 ≤ m) (h3 : m ≤ 255) : Bytes (xorAt l k m) := fun x hx => by
  rcases List.mem_or_eq_of_mem_set hx with hx | rfl
  · exact h x hx
  · exact xorB_byte (getD_byte h k).1 (getD_byte h k).2 h2 h3
theorem openI_xorAt {f e : ByteArray} {i g : Nat} {j : Int} {p : List Int} (hp : p.length ≤ 106) (bp : Bytes p) {k : Nat} {m : Int} (hk : k < 128) (h2 : 0 < m) (h3 : m ≤ 255) : openI (xorAt (extI f i g p) k m) e j = none := by
  have hb := extI_bytes (name := f) (index := i) (gen := g) hp bp
  have hd := getD_byte hb k
  have hx := xorB_byte hd.1 hd.2 (by omega : 0 ≤ m) h3
  cases h : openI (xorAt (extI f i g p) k m) e j with
  | none => rfl
  | some x => exact absurd (openI_sumOk h) (sumOk_set (extI_sumOk hp) hb hk hx.1 hx.2 (xorB_ne hd.1 hd.2 h2 h3))
theorem held_bytes {B : Dk} {x : ByteArray} {gen : Nat} {ps : List (List Int)} (h : Holds B x gen ps) (hl : ∀ p ∈ ps, p.length ≤ 106) (hb : ∀ p ∈ ps, Bytes p) : ∀ f ∈ halvesL x, ∀ i c, B.cel f i = some c → Bytes c.read := by
  have key : ∀ f, B.at f = (newCels f gen 0 ps).map Cel.syncd → ∀ i c, B.cel f i = some c → Bytes c.read := by
    intro f hf i c hc
    have hc2 := hc
    unfold Dk.cel at hc
    split at hc
    · rename_i h0
      rw [hf, List.getElem?_map] at hc
      have hlt : i.toNat < ps.length := by
        refine Nat.lt_of_not_le fun hn => ?_
        rw [List.getElem?_eq_none (by rw [newCels_length]; omega)] at hc
        cases hc
      have hg := held_cel (k := i.toNat) hf (List.getElem?_eq_getElem hlt)
      rw [show ((i.toNat : Nat) : Int) = i by omega, hc2] at hg
      cases hg
      exact extI_bytes (hl _ (List.getElem_mem hlt)) (hb _ (List.getElem_mem hlt))
    · cases hc
  intro f hf
  rcases List.mem_cons.1 hf with rfl | hf
  · exact key _ h.a
  · rcases List.mem_cons.1 hf with rfl | hf
    · exact key _ h.b
    · cases hf
theorem loadG_lost {A : Dk} {x : ByteArray} {gen : Int} : ∀ (c i k : Nat) (out : List Int), i ≤ k → k < i + c → (getP A x k).1 < 0 → loadG A x gen i c out = none
  | 0, i, k, out, h1, h2, _ => by omega
  | c + 1, i, k, out, h1, h2, h => by
    unfold loadG
    by_cases hk : i = k
    · subst hk
      rw [if_neg (by omega)]
    · split
      · exact loadG_lost c (i + 1) k _ (by omega) (by omega) h
      · rfl
theorem loadP_lost {A : Dk} {x : ByteArray} {gen : Int} {k : Nat} (hk : k < extN A x) (h : (getP A x k).1 < 0) : loadP A x gen = none := by
  unfold loadP
  split
  · rfl
  · exact loadG_lost _ 0 k [] (by omega) (by omega) h
theorem rot_at {A : Dk} {f : ByteArray} {k t : Nat} {m : Int} {I : List Int} (hc : A.cel f k = some (stl I)) (ht : t < 128) : A.rot f k t m = (0, A.set f ((A.at f).set k ⟨xorAt I t m, xorAt I t m, I, I, false⟩)) := by
  unfold Dk.rot
  rw [hc]
  dsimp only
  rw [if_neg (by omega), Int.toNat_natCast, Int.toNat_natCast]
  rfl
theorem getF_none {A : Dk} {i : Int} {f : ByteArray} {st : Int × List Int} {c : Cel} (hc : A.cel f i = some c) (h : openI c.read f i = none) : getF A i st f = st := by
  unfold getF
  rw [hc]
  dsimp only
  rw [h]
theorem cel_set_self {A : Dk} (hs : Sorted A.files) {f : ByteArray} {k : Nat} {c d : Cel} (hc : A.cel f k = some c) : (A.set f ((A.at f).set k d)).cel f k = some d := by
  unfold Dk.cel at hc ⊢
  rw [if_pos (by omega), Int.toNat_natCast] at hc ⊢
  rw [at_set hs, if_pos rfl, List.getElem?_set_self]
  exact (List.getElem?_eq_some_iff.1 hc).1
theorem cel_set_bytes {A : Dk} (hs : Sorted A.files) {f : ByteArray} {k : Nat} {d : Cel} (hd : Bytes d.read) (g : ByteArray) (hb : ∀ i c, A.cel g i = some c → Bytes c.read) : ∀ i c, (A.set f ((A.at f).set k d)).cel g i = some c → Bytes c.read := by
  intro i c hc
  unfold Dk.cel at hc
  split at hc
  · rename_i h0
    rw [at_set hs] at hc
    split at hc
    · rename_i hgf
      subst hgf
      rcases List.mem_or_eq_of_mem_set (List.mem_of_getElem? hc) with hm | rfl
      · obtain ⟨j, hj⟩ := List.getElem?_of_mem hm
        exact hb (j : Int) c (by unfold Dk.cel; rw [if_pos (by omega), Int.toNat_natCast]; exact hj)
      · exact hd
    · exact hb i c (by unfold Dk.cel; rw [if_pos h0]; exact hc)
  · cases hc
structure LostEnd (B : Dk) (x : ByteArray) (k : Nat) : Prop where
  got : (getP B x k).1 < 0
  load : ∀ gen, loadP B x gen = none
  bytes : ∀ f ∈ halvesL x, ∀ i c, B.cel f i = some c → Bytes c.read
/-- With one byte turned in both, the piece is lost. -/
theorem rot_lost {B : Dk} {x : ByteArray} {gen : Nat} {ps : List (List Int)} (h : Holds B x gen ps) (hs : Sorted B.files) (hne : x ++ dotA ≠ x ++ dotB) (hl : ∀ p ∈ ps, p.length ≤ 106) (hb : ∀ p ∈ ps, Bytes p) {k t : Nat} (hk : k < ps.length) (ht : t < 128) {m n : Int} (hm : 0 < m) (hm2 : m ≤ 255) (hn : 0 < n) (hn2 : n ≤ 255) :
    LostEnd ((B.rot (x ++ dotA) k t m).2.rot (x ++ dotB) k t n).2 x k := by
  have hp := List.getElem?_eq_getElem hk
  have lp := hl _ (List.getElem_mem hk)
  have bp := hb _ (List.getElem_mem hk)
  have hB := held_bytes h hl hb
  generalize ps[k] = p at hp lp bp
  have ca := held_cel h.a hp
  have cb := held_cel h.b hp
  have bIa := xorAt_bytes (extI_bytes (name := x ++ dotA) (index := k) (gen := gen) lp bp) (k := t) (m := m) (by omega) hm2
  have bIb := xorAt_bytes (extI_bytes (name := x ++ dotB) (index := k) (gen := gen) lp bp) (k := t) (m := n) (by omega) hn2
  rw [rot_at ca ht]
  dsimp only
  obtain ⟨da, hda⟩ : ∃ da : Cel, da = ⟨xorAt (extI (x ++ dotA) k gen p) t m, xorAt (extI (x ++ dotA) k gen p) t m, extI (x ++ dotA) k gen p, extI (x ++ dotA) k gen p, false⟩ := ⟨_, rfl⟩
  have hs1 : Sorted (B.set (x ++ dotA) ((B.at (x ++ dotA)).set k da)).files := sorted_put _ _ hs
  have cb1 : (B.set (x ++ dotA) ((B.at (x ++ dotA)).set k da)).cel (x ++ dotB) k = some (stl (extI (x ++ dotB) k gen p)) := by
    unfold Dk.cel at cb ⊢
    rw [at_set hs, if_neg hne]
    exact cb
  have ca1 : (B.set (x ++ dotA) ((B.at (x ++ dotA)).set k da)).cel (x ++ dotA) k = some da := cel_set_self hs ca
  have rd : da.read = xorAt (extI (x ++ dotA) k gen p) t m := by rw [hda]
  have hB1 : ∀ f ∈ halvesL x, ∀ i c, (B.set (x ++ dotA) ((B.at (x ++ dotA)).set k da)).cel f i = some c → Bytes c.read := fun f hf => cel_set_bytes hs (by rw [rd]; exact bIa) f (hB f hf)
  have la1 : ((B.set (x ++ dotA) ((B.at (x ++ dotA)).set k da)).at (x ++ dotA)).length = ps.length := by
    rw [at_set hs, if_pos rfl, List.length_set, h.a, List.length_map, newCels_length]
  rw [← hda]
  clear hda
  generalize B.set (x ++ dotA) ((B.at (x ++ dotA)).set k da) = B1 at *
  rw [rot_at cb1 ht]
  dsimp only
  obtain ⟨db, hdb⟩ : ∃ db : Cel, db = ⟨xorAt (extI (x ++ dotB) k gen p) t n, xorAt (extI (x ++ dotB) k gen p) t n, extI (x ++ dotB) k gen p, extI (x ++ dotB) k gen p, false⟩ := ⟨_, rfl⟩
  have rdb : db.read = xorAt (extI (x ++ dotB) k gen p) t n := by rw [hdb]
  rw [← hdb]
  clear hdb
  have cb2 : (B1.set (x ++ dotB) ((B1.at (x ++ dotB)).set k db)).cel (x ++ dotB) k = some db := cel_set_self hs1 cb1
  have ca2 : (B1.set (x ++ dotB) ((B1.at (x ++ dotB)).set k db)).cel (x ++ dotA) k = some da := by
    unfold Dk.cel at ca1 ⊢
    rw [at_set hs1, if_neg (Ne.symm hne)]
    exact ca1
  have hg : getP (B1.set (x ++ dotB) ((B1.at (x ++ dotB)).set k db)) x k = (-1, []) := by
    unfold getP halvesL
    simp only [List.foldl_cons, List.foldl_nil]
    rw [getF_none ca2 (by rw [rd]; exact openI_xorAt lp bp ht hm hm2), getF_none cb2 (by rw [rdb]; exact openI_xorAt lp bp ht hn hn2)]
  have he : k < extN (B1.set (x ++ dotB) ((B1.at (x ++ dotB)).set k db)) x := by
    unfold extN halvesL
    simp only [List.foldl_cons, List.foldl_nil]
    rw [at_set hs1, if_neg (Ne.symm hne), la1]
    omega
  refine ⟨by rw [hg]; decide, fun gen => loadP_lost he (by rw [hg]; decide), fun f hf => cel_set_bytes hs1 (by rw [rdb]; exact bIb) f (hB1 f hf)⟩
end Go.Proofs.YtmjnnbnbdcadbaaGreatDoor
/- A text is stored on a new disk, and read: awake of layer 5. -/
namespace Go.Proofs.YtmjnnbnbdcadbaaGreatDoor
open Go.RowKit HP
set_option linter.unusedSimpArgs false
set_option linter.unusedVariables false

theorem piecesI_mem {l : List Int} {p : List Int} (h : p ∈ piecesI l) : ∀ x ∈ p, x ∈ l := fun x hx => by
  have : x ∈ (piecesI l).flatten := List.mem_flatten.2 ⟨p, h, hx⟩
  rwa [piecesI_flat] at this
theorem piecesI_bytes {l : List Int} (hb : Bytes l) : ∀ p ∈ piecesI l, Bytes p := fun p hp x hx => hb x (piecesI_mem hp x hx)
structure StoreEnd (room : Int) (gen : Nat) (l : List Int) (B : Dk) : Prop where
  eq : storeP (Dk.new room) exS gen l = (0, B)
  held : Holds B exS gen (piecesI l)
  sorted : Sorted B.files
  load : loadP B exS gen = some l
  bytes : ∀ f ∈ halvesL exS, ∀ i c, B.cel f i = some c → Bytes c.read
theorem store_end {room : Int} {l : List Int} {gen : Nat} (hg : (gen : Int) ≤ 4611686018427387904) (hr : needI l.length ≤ room) (hl : (piecesI l).length ≤ 2147483647) (hb : Bytes l) : ∃ B, StoreEnd room gen l B := by
  obtain ⟨B, h1, h2, h3⟩ := store_new hg hr hl
  obtain ⟨h4, h5⟩ := store_held hg hr hl
  have h6 := store_load hg hr hl
  rw [h1] at h4 h5 h6
  exact ⟨B, h1, h4, h5, h6, held_bytes h4 (pieces_count (l := l)).2.2.2 (piecesI_bytes hb)⟩
set_option maxHeartbeats 2000000 in
set_option maxRecDepth 100000 in
theorem awake5_ok (E : Env) (q : HP) (w : World) (hq : ∀ w, Sat E w q → Quarter w) (hw : Sat E w q) :
    Calls Tryz.prog 29 #[] w fun e w' => e = .returned (.bool true) ∧ Sat E w' q := by
  have hx3 : exS.size + 2 ≤ maxLen := by show 3 ≤ maxLen; unfold maxLen; omega
  have HX3 := Aside.mk hx3
  have hb2 : Bytes [97, 98] := by intro x hx; simp at hx; omega
  obtain ⟨B, hB⟩ := store_end (room := 10) (l := [97, 98]) (gen := 1) (by omega) (by decide) (by decide) hb2
  have HB := Aside.mk hB
  have HQ := Aside.mk (And.intro hq hw)
  have HB2 := Aside.mk hb2
  clear hx3 hB hq hw hb2
  go_enter Tryz.func29, Tryz.ntmps29
  go_wp2_with fail
  refine (disk_new_ok E q 10 _ ⟨by omega, by omega⟩ HQ.out.2).mono ?_
  rintro e w1 ⟨d, rfl, h1⟩
  have h2 := h1.alloc (.cells #[.int .u8 97, .int .u8 98] 5 (2, 3))
  have H2 : Aside (Sat E (w1.alloc (.cells #[.int .u8 97, .int .u8 98] 5 (2, 3))) (HP.disk d (Dk.new 10) * (HP.pt w1.heap.size (.cells (b8s [97, 98]).toArray 5 (2, 3)) * q))) := ⟨h2.perm (by ac_rfl)⟩
  have HQ2 : Aside (∀ w, Sat E w (HP.pt w1.heap.size (.cells (b8s [97, 98]).toArray 5 (2, 3)) * q) → Quarter w ∧ Cells w (some ⟨w1.heap.size, 0, none⟩) (b8s [97, 98])) := ⟨fun w h => ⟨HQ.out.1 w h.right, h.ptCells rfl⟩⟩
  have cv : (convert 34 34 (.slice (some ⟨w1.heap.size, 0, none⟩) 2 2)).run Tryz.prog (w1.alloc (.cells #[.int .u8 97, .int .u8 98] 5)) = .ok (.slice (some ⟨w1.heap.size, 0, none⟩) 2 2) (w1.alloc (.cells #[.int .u8 97, .int .u8 98] 5 (2, 3))) := Lib.run_convert_bytes_const w1 _ _ #[.int .u8 97, .int .u8 98] 2 2 Tryz.underlying34 Tryz.underlying5
  have HL : Aside ((2 : Nat) ≤ maxLen) := ⟨by unfold maxLen; omega⟩
  clear h1 h2
  go_wp2_with fail
  refine (pair_store E _ d (Dk.new 10) exS 1 (some ⟨w1.heap.size, 0, none⟩) [97, 98] 2 2 _ HX3.out (by omega) rfl (by omega) HL.out (by omega) HB2.out HQ2.out H2.out).mono ?_
  rintro e w2 ⟨rfl, h2⟩
  rw [HB.out.eq] at h2 ⊢
  have H3 : Aside (Sat E w2 (HP.disk d B * q)) := ⟨h2.perm (by ac_rfl : _ = HP.pt w1.heap.size (.cells (b8s [97, 98]).toArray 5 (2, 3)) * (HP.disk d B * q)) |>.right⟩
  clear h2 H2 HQ2
  go_wp2_with fail
  refine (pair_load E q d B exS 1 _ HX3.out HB.out.bytes HQ.out.1 H3.out).mono ?_
  intro e w3 h3
  have hld : loadP B exS 1 = some [97, 98] := HB.out.load
  rw [hld] at h3
  obtain ⟨v, rfl, h3⟩ := h3
  obtain ⟨Av, cv, rfl, -, -⟩ := h3.row_slice
  have e0 : (convert 34 9 (.slice Av 2 cv)).run Tryz.prog w3 = .ok (.string ⟨#[97, 98]⟩) w3 := run_string (P := Tryz.prog) (c := cv) Tryz.underlying34 Tryz.underlying5 Tryz.underlying9 h3.row_cells
  have H4 := Aside.mk h3
  clear h3 H3
  go_wp2
  go_ret
  exact ⟨rfl, H4.out.right.right⟩
end Go.Proofs.YtmjnnbnbdcadbaaGreatDoor
