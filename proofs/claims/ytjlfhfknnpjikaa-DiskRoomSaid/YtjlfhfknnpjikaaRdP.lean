/- DiskLives, DiskRoom of dryrotlaw03: the walks. -/
import Derived.Test.YtjlfhfknnpjikaaRd14
import Derived.Test.YtjlfhfknnpjikaaRdQ
namespace Go.Proofs.Ytjlfhfknnpjikaa
open Go.RowKit HP
set_option linter.unusedSimpArgs false
set_option linter.unusedVariables false

set_option maxHeartbeats 4000000 in
set_option maxRecDepth 100000 in
theorem lives_ok (E : Env) (q : HP) (room : Int) (l : Sl StepV) (w : World) (hst : Steps q l) (hw : Sat E w q) :
    Calls Try.prog 7 #[.int .i64 room, l.val] w fun e w' => e = .returned (.bool true) ∧ Sat E w' q := by
  unfold Sl.val
  by_cases hr : 0 ≤ room ∧ room ≤ 100000
  · have HST := Aside.mk hst
    have hlen := hst.len
    unfold maxLen at hlen
    have HR := Aside.mk hr
    clear hst
    go_enter Try.func7, Try.ntmps7
    go_wp2_with fail
    refine (disk_new_ok E q room w hr hw).mono ?_
    rintro e w1 ⟨d, rfl, h1⟩
    have H1 := Aside.mk h1
    clear h1 hw
    go_wp2_with fail
    refine (ref_new E _ room w1 HR.out H1.out).mono ?_
    rintro e w2 ⟨y, rfl, h2⟩
    have H2 : Aside (Sat E w2 (HP.disk d (Dk.new room) * (HP.rdisk y (Dk.new room) * q))) := ⟨h2.s2⟩
    have HB0 := Aside.mk (Dk.Byt.new room)
    clear h2 H1 hr
    generalize hN : l.l.length = n at *
    have HN := Aside.mk hN
    clear hN
    go_wp2
    go_loopw [36] (fun x wr => ∃ (k : Nat) (A : Dk), x = .int .i64 k ∧ k ≤ n ∧ Aside A.Byt ∧ Aside (Sat E wr (HP.disk d A * (HP.rdisk y A * q)))) (fun x _ => n - (intOf x).toNat)
    case atStart => exact ⟨0, _, rfl, Nat.zero_le _, HB0, H2⟩
    case round =>
      clear H2 HB0
      obtain ⟨k, A, rfl, hk, HB, HS⟩ := hrel
      by_cases hlt : k < n
      · obtain ⟨s, hs⟩ : ∃ s, l.l[k]? = some s := ⟨_, List.getElem?_eq_getElem (by rw [HN.out]; exact hlt)⟩
        have hsm : s ∈ l.l := List.mem_of_getElem? hs
        obtain ⟨g, o, hA, g0, g1, g2, g3, g4, g5, g6, g7⟩ := HST.out.at_ HS.out.right.right hs
        rw [hA]
        have hk0 : (0 : Int) ≤ (k : Int) := by omega
        have hk1 : (k : Int) < (n : Int) := by omega
        have HB2 := Aside.mk (HS.out.alloc (.cells #[.int .i64 s.op, .int .i64 s.i, .int .i64 s.at_, .int .i64 s.n, .string s.name, .slice s.b.A s.b.l.length s.b.cap, .int .u8 s.mask, .slice s.kept.A s.kept.l.length s.kept.cap] 52)).right
        have HWF := Aside.mk (HST.out.wf s hsm)
        have HCL : Aside (∀ E w, Sat E w q → Cells w s.b.A (b8s s.b.l) ∧ Cells w s.kept.A (kepCells s.kept.l)) := ⟨fun E w h => (HST.out.cells E w h).2 s hsm⟩
        clear hs hsm HS hA
        by_cases h60 : (k : Int) < 60
        · go_wp2_with fail
          refine (do_ok E q d y A s _ HWF.out HCL.out HB2.out).mono ?_
          rintro e w10 ⟨rfl, h10⟩
          have H10 := Aside.mk h10
          have HB3 := Aside.mk (HB.out.stepK HWF.out (opK s.op))
          clear h10 HB2 g0 g1 g2 g3 g4 g5 g6 g7
          generalize A.stepK s (opK s.op) = B at *
          go_wp2_with fail
          refine (same_ok E q d y B _ HB3.out H10.out).mono ?_
          rintro e w11 ⟨rfl, h11⟩
          have H11 := Aside.mk h11
          clear h11 H10
          go_wp2
          go_roundw
          case rel => exact ⟨k + 1, _, by go_num, by omega, HB3, H11⟩
          case measure => simp [intOf]; omega
        · go_wp2
          go_roundw
          case rel => exact ⟨k + 1, A, by go_num, by omega, HB, HB2⟩
          case measure => simp [intOf]; omega
      · obtain rfl : k = n := by omega
        have H3 := Aside.mk HS.out.right.right
        clear HS
        go_wp2_with fail
        refine (awake3_ok E q _ H3.out).mono ?_
        rintro e w4 ⟨rfl, h4⟩
        have H4 := Aside.mk h4
        clear h4
        go_wp2
        go_ret
        exact ⟨rfl, H4.out⟩
  · have hr2 : room < 0 ∨ 100000 < room := by omega
    have HW := Aside.mk hw
    clear hst hw
    go_enter Try.func7, Try.ntmps7
    go_wp2_with fail
    refine (disk_new_no room w hr2).mono ?_
    rintro e w1 ⟨rfl, hw1⟩; subst w1
    go_wp2_with fail
    refine (ref_new_no room w hr2).mono ?_
    rintro e w1 ⟨rfl, hw1⟩; subst w1
    go_wp2_with fail
    refine (awake3_ok E q _ HW.out).mono ?_
    rintro e w4 ⟨rfl, h4⟩
    have H4 := Aside.mk h4
    clear h4 hr2 hr
    go_wp2
    go_ret
    exact ⟨rfl, H4.out⟩
theorem sizeF_take {l : List (ByteArray × List Cel)} {j : Nat} {x : ByteArray × List Cel} (h : l[j]? = some x) : sizeF (l.take (j + 1)) = sizeF (l.take j) + x.2.length := by
  unfold sizeF
  rw [take_snoc h, List.map_append, List.sum_append]
  simp
theorem sizeF_take_le (l : List (ByteArray × List Cel)) (j : Nat) : sizeF (l.take j) ≤ sizeF l := by
  have := congrArg sizeF (List.take_append_drop j l)
  unfold sizeF at this ⊢
  rw [List.map_append, List.sum_append] at this
  omega
/-- The name ahead of the j-th. -/
def lastN (l : List (ByteArray × List Cel)) (j : Nat) : ByteArray := match j with | 0 => ⟨#[]⟩ | j + 1 => ((l[j]?).map (·.1)).getD ⟨#[]⟩
theorem lastN_lt {A : Dk} (h : A.Fine) {j : Nat} {x : ByteArray × List Cel} (hj : A.files[j]? = some x) : ltN (lastN A.files j) x.1 = true := by
  cases j with
  | zero =>
    have h1 := (h.named x (List.mem_of_getElem? hj)).1
    rw [named_bytes] at h1
    simp only [Bool.and_eq_true, decide_eq_true_eq] at h1
    have h2 : 1 ≤ x.1.size := h1.1.1
    show Go.Op.bytesLess (ByteArray.toList ⟨#[]⟩) x.1.toList = true
    rw [ByteArray.toList_eq, ByteArray.toList_eq]
    have h3 : x.1.data.toList.length = x.1.size := by rw [Array.length_toList]; rfl
    cases hx : x.1.data.toList with
    | nil => rw [hx] at h3; simp at h3; omega
    | cons a l => rfl
  | succ j =>
    obtain ⟨hlt, hx⟩ := List.getElem?_eq_some_iff.1 hj
    have hj2 : A.files[j]? = some (A.files[j]'(by omega)) := List.getElem?_eq_getElem _
    show ltN (((A.files[j]?).map (·.1)).getD _) x.1 = true
    rw [hj2, ← hx]
    exact List.pairwise_iff_getElem.1 h.sorted j (j + 1) (by omega) hlt (by omega)
set_option maxHeartbeats 4000000 in
set_option maxRecDepth 100000 in
theorem room_ok (E : Env) (q : HP) (room : Int) (l : Sl StepV) (w : World) (hst : Steps q l) (hw : Sat E w q) :
    Calls Try.prog 8 #[.int .i64 room, l.val] w fun e w' => e = .returned (.bool true) ∧ Sat E w' q := by
  obtain ⟨rr, hrr, hr⟩ : ∃ rr : Int, wrap64 ((IntKind.u64.wrap room).tmod 60) = rr ∧ 0 ≤ rr ∧ rr ≤ 59 := ⟨_, rfl, by
    rw [IntKind.wrap_u64, Int.tmod_eq_emod_of_nonneg (by omega)]
    unfold wrap64
    omega⟩
  have HD := Aside.mk (disks_ok E q rr l w (by omega) hst hw)
  unfold Sl.val at HD ⊢
  clear hst hw
  go_enter Try.func8, Try.ntmps8
  go_upto_region 2 with fail
  rw [hrr]
  clear hrr
  go_wp2_with fail
  refine HD.out.mono ?_
  rintro e w1 ⟨d, y, A, rfl, hb, hrm, h1⟩
  have HF := Aside.mk h1.disk_fine
  have hnl := files_le HF.out
  have hfr := HF.out.fits
  rw [hrm] at hfr
  obtain ⟨fr, hfre⟩ : ∃ fr, fr = A.free := ⟨_, rfl⟩
  obtain ⟨tot, htot⟩ : ∃ tot, tot = sizeF A.files := ⟨_, rfl⟩
  have hft : fr + (tot : Int) = rr := by rw [hfre, htot]; unfold Dk.free; rw [hrm]; omega
  rw [← htot] at hfr
  have HT := Aside.mk htot
  have H1 := Aside.mk h1
  have HFree := Aside.mk (fun w (h : Sat E w (HP.disk d A * (HP.rdisk y A * q))) => disk_free_ok E _ d A w h)
  rw [← hfre] at HFree
  obtain ⟨nl, hnle⟩ : ∃ nl, nl = A.files.length := ⟨_, rfl⟩
  rw [← hnle] at hnl
  have HNL := Aside.mk hnle
  clear h1 HD hb hrm hfre htot hnle
  go_wp2_with fail
  refine (HFree.out _ H1.out).mono ?_
  rintro e w2 ⟨rfl, h2⟩
  have H2 := Aside.mk h2
  clear h2 H1
  go_wp2_with fail
  refine (disk_list E _ d A _ H2.out).mono ?_
  rintro e w3 ⟨v, rfl, h3⟩
  rw [← HNL.out] at h3
  obtain ⟨AL, cL, rfl, hcL, -⟩ := h3.row_slice
  have H3 := Aside.mk h3
  clear h3 H2
  go_wp2
  go_loopw [8, 9, 34] (fun v8 v9 v34 wr => ∃ (j m : Nat), v8 = .int .i64 (fr + (m : Int)) ∧ v9 = .string (lastN A.files j) ∧ v34 = .int .i64 j ∧ j ≤ nl ∧ m ≤ tot ∧ Aside (m = sizeF (A.files.take j)) ∧ Aside (Sat E wr (HP.row 9 1 (.slice AL nl cL) nl (namesV A) * (HP.disk d A * (HP.rdisk y A * q))))) (fun _ _ x _ => nl - (intOf x).toNat)
  case atStart => exact ⟨0, 0, by simp, rfl, rfl, Nat.zero_le _, Nat.zero_le _, ⟨rfl⟩, H3⟩
  case round =>
    clear H3
    obtain ⟨j, m, rfl, rfl, rfl, hj, hm, HM, HS⟩ := hrel
    by_cases hlt : j < nl
    · have hj1 : (j : Int) < (nl : Int) := by omega
      have hj0 : (0 : Int) ≤ (j : Int) := by omega
      obtain ⟨x, hx⟩ : ∃ x, A.files[j]? = some x := ⟨_, List.getElem?_eq_getElem (by rw [← HNL.out]; exact hlt)⟩
      have hnsz : x.1.size ≤ maxLen := names_le HF.out (List.mem_of_getElem? hx)
      have gj : (namesV A)[j]? = some (.string x.1) := by unfold namesV; rw [List.getElem?_map, hx]; rfl
      obtain ⟨gL, oL, rfl⟩ : ∃ g o, AL = some ⟨g, o, none⟩ := by
        obtain ⟨a, ha, -⟩ := HS.out.row_cells _ _ gj
        obtain ⟨g, o, rfl⟩ : ∃ g o, a = ⟨g, o, none⟩ := slice_addr HS.out.row_cells ha (List.getElem?_eq_some_iff.1 gj).1
        exact ⟨g, o, ha⟩
      have cj := HS.out.row_cells.some_ _ _ gj
      rw [addr_add] at cj
      have hat : (A.at x.1).length = x.2.length := by unfold Dk.at; rw [lk_of_mem HF.out.sorted (List.mem_of_getElem? hx)]; rfl
      have hne : 1 ≤ x.2.length := by
        have := (HF.out.named x (List.mem_of_getElem? hx)).2
        cases hc : x.2 with
        | nil => exact absurd hc this
        | cons a b => simp
      have hst := sizeF_take hx
      have hsl := sizeF_take_le A.files (j + 1)
      have hlast := lastN_lt HF.out hx
      have HL2 : Aside (lastN A.files (j + 1) = x.1) := ⟨by show (((A.files[j]?).map (·.1)).getD _) = _; rw [hx]; rfl⟩
      have HX1 := Aside.mk (fun w (h : Sat E w (HP.disk d A * (HP.row 9 1 (.slice (some ⟨gL, oL, none⟩) nl cL) nl (namesV A) * (HP.rdisk y A * q)))) => disk_extents E _ d A x.1 w hnsz h)
      have HX2 := Aside.mk (fun w (h : Sat E w (HP.rdisk y A * (HP.disk d A * (HP.row 9 1 (.slice (some ⟨gL, oL, none⟩) nl cL) nl (namesV A) * q)))) => rdisk_extents E _ y A x.1 w h)
      rw [hat] at HX1 HX2
      obtain ⟨fn, hfn⟩ : ∃ fn, fn = x.1 := ⟨_, rfl⟩
      obtain ⟨ne, hnee⟩ : ∃ ne, ne = x.2.length := ⟨_, rfl⟩
      rw [← hfn] at cj hlast HL2 HX1 HX2
      rw [← hnee] at HX1 HX2 hne hst
      rw [← HM.out] at hst
      rw [← HT.out] at hsl
      have HST := Aside.mk hst.symm
      have hmm : m + ne ≤ tot := by omega
      obtain ⟨la, hla⟩ : ∃ la, la = lastN A.files j := ⟨_, rfl⟩
      rw [← hla] at hlast ⊢
      have hles : Go.Op.bytesLess fn.toList la.toList = false := ltN_asymm hlast
      have hneq : (fn.toList == la.toList) = false := by
        rw [beq_eq_false_iff_ne]
        exact fun h => ltN_ne hlast (toList_inj h).symm
      have hne0 : ¬ (ne : Int) < 1 := by omega
      clear gj hx hnsz hat hst hsl hlast hfn hnee hla
      go_wp2_with fail
      refine (HX1.out _ HS.out.s2).mono ?_
      rintro e w4 ⟨rfl, hw4⟩; subst w4
      go_wp2_with fail
      refine (HX1.out _ HS.out.s2).mono ?_
      rintro e w4 ⟨rfl, hw4⟩; subst w4
      have H9 : Aside (Sat E wr (HP.rdisk y A * (HP.disk d A * (HP.row 9 1 (.slice (some ⟨gL, oL, none⟩) nl cL) nl (namesV A) * q)))) := ⟨HS.out.perm (by ac_rfl)⟩
      clear HS cj
      go_wp2_with fail
      refine (HX2.out _ H9.out).mono ?_
      rintro e w9 ⟨rfl, h9⟩
      have H10 : Aside (Sat E w9 (HP.disk d A * (HP.row 9 1 (.slice (some ⟨gL, oL, none⟩) nl cL) nl (namesV A) * (HP.rdisk y A * q)))) := ⟨h9.perm (by ac_rfl)⟩
      clear h9 H9
      go_wp2_with fail
      refine (HX1.out _ H10.out).mono ?_
      rintro e w4 ⟨rfl, hw4⟩; subst w4
      have H11 : Aside (Sat E w9 (HP.row 9 1 (.slice (some ⟨gL, oL, none⟩) nl cL) nl (namesV A) * (HP.disk d A * (HP.rdisk y A * q)))) := ⟨H10.out.s2⟩
      clear H10 HX1 HX2
      go_wp2
      go_roundw
      case rel => exact ⟨j + 1, m + ne, by first | (congr 1; push_cast; omega) | go_num, by rw [HL2.out], by go_num, by omega, hmm, HST, H11⟩
      case measure => simp [intOf]; omega
    · obtain rfl : j = nl := by omega
      have hmt : m = tot := by rw [HM.out, HT.out, HNL.out, List.take_length]
      subst hmt
      have H4 := Aside.mk HS.out.right
      have hj1 : ¬ (j : Int) < (j : Int) := by omega
      clear HS
      go_wp2_with fail
      refine (HFree.out _ H4.out).mono ?_
      rintro e w5 ⟨rfl, h5⟩
      have H5 := Aside.mk h5.right.right
      have hf0 : (0 : Int) ≤ fr := by omega
      clear h5 H4
      go_wp2_with fail
      refine (awake3_ok E q _ H5.out).mono ?_
      rintro e w6 ⟨rfl, h6⟩
      have H6 := Aside.mk h6
      clear h6
      go_wp2
      go_ret
      exact ⟨by first | rfl | (simp; try omega), H6.out⟩
end Go.Proofs.Ytjlfhfknnpjikaa
