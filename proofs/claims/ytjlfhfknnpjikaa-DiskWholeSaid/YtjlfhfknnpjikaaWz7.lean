/- Texts of one claim, one behind the other: WhW. -/
import Derived.Test.YtjlfhfknnpjikaaWz6
/- DiskWhole: the walk. -/
namespace Go.Proofs.Ytjlfhfknnpjikaa
open Go.RowKit HP
set_option linter.unusedSimpArgs false
set_option linter.unusedVariables false

/-- What is kept whole. -/
def KOK (K : List Kep) : Prop := ∀ k ∈ K, k.bytes = 128 ∧ k.name.size ≤ maxLen ∧ wf64 k.index
theorem slKp : SlTy Try.prog 50 59 (.agg #[.string ⟨#[]⟩, .int .i64 0, .int .i64 0]) 3 32 := ⟨Try.underlying50, by kernel_rfl, rfl, by decide⟩
set_option maxHeartbeats 8000000 in
set_option maxRecDepth 100000 in
theorem whole_ok (E : Env) (q : HP) (more : Sl StepV) (keep : Sl Bool) (w : World) (hm : more.l.length ≤ maxLen) (hkl : keep.l.length ≤ maxLen) (hok : ∀ s ∈ more.l, s.b.l.length ≤ s.b.cap ∧ s.name.size ≤ maxLen ∧ wf64 s.op ∧ wf64 s.i)
    (hq : ∀ E w, Sat E w q → Cells w more.A (more.l.flatMap StepV.vals) ∧ Cells w keep.A (keep.l.map Value.bool) ∧ ∀ s ∈ more.l, Cells w s.b.A (b8s s.b.l)) (hw : Sat E w q) :
    Calls Try.prog 6 #[more.val, keep.val] w fun e w' => e = .returned (.bool true) ∧ Sat E w' q := by
  unfold Sl.val
  unfold maxLen at hm hkl
  have HQ := Aside.mk hq
  have HOK := Aside.mk hok
  clear hq hok
  go_enter Try.func6, Try.ntmps6
  go_wp2_with fail
  refine (disk_new_ok E q 20 w (by omega) hw).mono ?_
  rintro e w1 ⟨d, rfl, h1⟩
  clear hw
  have H1 := Aside.mk h1
  clear h1
  generalize hN : more.l.length = n at *
  have HN := Aside.mk hN
  clear hN
  generalize hN : keep.l.length = kn at *
  have HKN := Aside.mk hN
  clear hN
  go_wp2
  go_loopw [27] (fun x wr => ∃ (k : Nat) (A : Dk), x = .int .i64 k ∧ k ≤ n ∧ Aside A.Whole ∧ Aside (Sat E wr (HP.disk d A * q))) (fun x _ => n - (intOf x).toNat)
  case atStart => exact ⟨0, _, rfl, Nat.zero_le _, ⟨fun x hx => by cases hx⟩, H1⟩
  case round =>
    clear H1
    obtain ⟨k, A, rfl, hk, HI, HS⟩ := hrel
    by_cases hlt : k < n
    · obtain ⟨s, hs⟩ : ∃ s, more.l[k]? = some s := ⟨_, List.getElem?_eq_getElem (by rw [HN.out]; exact hlt)⟩
      have hcm := (HQ.out _ _ HS.out.right).1
      have hg := fun j (hj : j < 8) => flat_get StepV.vals 8 more.l (fun _ => rfl) k j s hs hj
      have g0 := hg 0 (by omega)
      have g1 := hg 1 (by omega)
      have g2 := hg 2 (by omega)
      have g3 := hg 3 (by omega)
      have g4 := hg 4 (by omega)
      have g5 := hg 5 (by omega)
      have g6 := hg 6 (by omega)
      have g7 := hg 7 (by omega)
      obtain ⟨pa, hpa, -⟩ := hcm _ _ g0
      obtain ⟨g, o, rfl⟩ : ∃ g o, pa = ⟨g, o, none⟩ := slice_addr hcm hpa (List.getElem?_eq_some_iff.1 g0).1
      rw [hpa] at hcm
      have g0 := hcm.some_ _ _ g0
      have g1 := hcm.some_ _ _ g1
      have g2 := hcm.some_ _ _ g2
      have g3 := hcm.some_ _ _ g3
      have g4 := hcm.some_ _ _ g4
      have g5 := hcm.some_ _ _ g5
      have g6 := hcm.some_ _ _ g6
      have g7 := hcm.some_ _ _ g7
      rw [addr_add] at g0 g1 g2 g3 g4 g5 g6 g7
      simp only [Nat.add_zero, ← Nat.add_assoc, Sl.val] at g0 g1 g2 g3 g4 g5 g6 g7
      clear hg hcm
      rw [hpa]
      have hk0 : (0 : Int) ≤ (k : Int) := by omega
      have hk1 : (k : Int) < (n : Int) := by omega
      have hsm : s ∈ more.l := List.mem_of_getElem? hs
      obtain ⟨hsb, hsn, -, -⟩ := HOK.out s hsm
      obtain ⟨kk, hkk, hkr⟩ : ∃ kk : Int, wrap64 ((IntKind.u64.wrap s.op).tmod 7) = kk ∧ 0 ≤ kk := ⟨_, rfl, by
        rw [IntKind.wrap_u64, Int.tmod_eq_emod_of_nonneg (by omega)]
        unfold wrap64
        omega⟩
      have hB := HS.out.alloc (.cells #[.int .i64 s.op, .int .i64 s.i, .int .i64 s.at_, .int .i64 s.n, .string s.name, .slice s.b.A s.b.l.length s.b.cap, .int .u8 s.mask, .slice s.kept.A s.kept.l.length s.kept.cap] 52)
      have HB := Aside.mk hB
      clear hB hs
      by_cases h40 : (k : Int) < 40 ∧ kk < 4
      · obtain ⟨h40, h4⟩ := h40
        by_cases h2 : kk = 2
        · subst h2
          go_wp2_with fail
          refine (disk_sync E _ d A s.name _ hsn HB.out.s2).mono ?_
          rintro e w10 ⟨rfl, h10⟩
          have HI2 := Aside.mk (HI.out.sync s.name)
          have H10 : Aside (Sat E w10 (HP.disk d (A.sync s.name).2 * q)) := ⟨h10.drop2⟩
          clear h10 HB g0 g1 g2 g3 g4 g5 g6 g7
          go_wp2
          go_roundw
          case rel => exact ⟨k + 1, _, by go_num, by omega, HI2, H10⟩
          case measure => simp [intOf]; omega
        · by_cases h3 : kk = 3
          · subst h3
            go_wp2_with fail
            refine (disk_remove E _ d A s.name _ hsn HB.out.s2).mono ?_
            rintro e w10 ⟨rfl, h10⟩
            have HI2 := Aside.mk (HI.out.remove s.name)
            have H10 : Aside (Sat E w10 (HP.disk d (A.remove s.name).2 * q)) := ⟨h10.drop2⟩
            clear h10 HB g0 g1 g2 g3 g4 g5 g6 g7
            go_wp2
            go_roundw
            case rel => exact ⟨k + 1, _, by go_num, by omega, HI2, H10⟩
            case measure => simp [intOf]; omega
          · have h2i : ¬ (kk : Int) = 2 := h2
            have hB := HB.out
            go_wp2
            generalize wr.heap.size = B at *
            generalize World.alloc wr _ = w8 at *
            have c0 := hB.cell 0
            have c1 := hB.cell 1
            have c2 := hB.cell 2
            have c3 := hB.cell 3
            have c4 := hB.cell 4
            have c5 := hB.cell 5
            have c6 := hB.cell 6
            have c7 := hB.cell 7
            simp only [List.getElem?_toArray, List.getElem?_cons_zero, List.getElem?_cons_succ] at c0 c1 c2 c3 c4 c5 c6 c7
            clear g0 g1 g2 g3 g4 g5 g6 g7
            refine region_R [6, 7] [6] (fun w' => w'.cell? ⟨B, 4, none⟩ = some (.string s.name) ∧ w'.cell? ⟨B, 1, none⟩ = some (.int .i64 s.i)) #[false, false, false, false, false, false, false, false] (by kernel_rfl) rfl rfl ?_
            refine wpR_pu 0 #[true, false, false, false, false, false, false, false] rfl onlyN_noPanic (by kernel_rfl) (fun K hK => ?_); (go_simp; try go_bits); refine hK _ ?_; clear hK K
            refine wpR_pu 1 #[true, true, false, false, false, false, false, false] rfl onlyN_noPanic (by kernel_rfl) (fun K hK => ?_); (go_simp; try go_bits); refine hK _ ?_; clear hK K
            refine wpR_held (i := 2) (v := .string s.name) #[true, true, true, false, false, false, false, false] rfl onlyN_noPanic (by kernel_rfl) ⟨c4, c1⟩ (.inl ⟨rfl, fun w' hT => ?_⟩) ?_
            · obtain ⟨t1, t2⟩ := hT; go_simp
            simp only [Act.put, List.setIfInBounds_toArray, List.set_cons_zero, List.set_cons_succ]
            refine wpR_pu 3 #[true, true, true, true, false, false, false, false] rfl onlyN_noPanic (by kernel_rfl) (fun K hK => ?_); (go_simp; try go_bits); refine hK _ ?_; clear hK K
            refine wpR_held (i := 4) (v := .int .i64 s.i) #[true, true, true, true, true, false, false, false] rfl onlyN_noPanic (by kernel_rfl) ⟨c4, c1⟩ (.inl ⟨rfl, fun w' hT => ?_⟩) ?_
            · obtain ⟨t1, t2⟩ := hT; go_simp
            simp only [Act.put, List.setIfInBounds_toArray, List.set_cons_zero, List.set_cons_succ]
            refine wpR_rd 5 #[true, true, true, true, true, true, false, false] rfl onlyN_noPanic (by kernel_rfl) (fun K hK => ?_); (go_simp; try go_bits); refine hK _ ?_; clear hK K
            refine wpR_keep #[true, true, true, true, true, true, true, false] (i := 6) rfl (by kernel_rfl) (fun K hK => ?_)
            go_simp
            refine (full_ok E _ s _ hsb (fun E' w' h => (HQ.out E' w' h.right.right).2.2 s hsm) hB.drew).mono ?_
            rintro e w9 ⟨gS, rfl, h9⟩
            have c4 := (h9.s2).cell 4
            have c1 := (h9.s2).cell 1
            simp only [List.getElem?_toArray, List.getElem?_cons_zero, List.getElem?_cons_succ] at c4 c1
            refine hK _ _ ⟨c4, c1⟩ ?_
            clear hK K
            refine wpR_eff #[true, true, true, true, true, true, true, true] (i := 7) rfl (by kernel_rfl) (fun K hK => ?_)
            go_simp
            have hd9 : Sat E w9 (HP.disk d A * (HP.row 5 1 (.slice (some ⟨gS, 0, none⟩) 128 128) 128 (b8s (fullOf s.b.l)) * q)) := (h9.drop2).perm (by ac_rfl)
            refine (disk_write E _ d A s.name s.i (some ⟨gS, 0, none⟩) (fullOf s.b.l) 128 128 w9 hsn (fullOf_length _) (by unfold maxLen; omega) (fun w h => h.row_cells) hd9).mono ?_
            rintro e w10 ⟨rfl, h10⟩
            refine hK _ _ ?_
            clear hK K
            refine wpR_done (by kernel_rfl) ?_ _
            simp only [OnlyN]
            have HI2 := Aside.mk (HI.out.write s.name s.i (fullOf s.b.l))
            have H10 : Aside (Sat E w10 (HP.disk d (A.write s.name s.i (fullOf s.b.l)).2 * q)) := ⟨h10.drop2⟩
            clear h9 hd9 h10 hB HB c0 c1 c2 c3 c4 c5 c6 c7
            go_wp2
            go_roundw
            case rel => exact ⟨k + 1, _, by go_num, by omega, HI2, H10⟩
            case measure => simp [intOf]; omega
      · have H10 := Aside.mk HB.out.right
        by_cases h40 : (k : Int) < 40
        · have h4 : ¬ kk < 4 := fun h => by omega
          go_wp2
          go_roundw
          case rel => exact ⟨k + 1, A, by go_num, by omega, HI, H10⟩
          case measure => simp [intOf]; omega
        · go_wp2
          go_roundw
          case rel => exact ⟨k + 1, A, by go_num, by omega, HI, H10⟩
          case measure => simp [intOf]; omega
    · obtain rfl : k = n := by omega
      have hfin : A.Fine := HS.out.disk_fine
      have HF := Aside.mk hfin
      clear hfin
      go_wp2_with fail
      refine (disk_list E _ d A _ HS.out).mono ?_
      rintro e w2 ⟨vL, rfl, h2⟩
      obtain ⟨AL, cL, rfl, hcL, -⟩ := h2.row_slice
      have h3 := h2.row_nil 59 3 none
      have HLS := Aside.mk h3
      have hnl := files_le HF.out
      clear h2 h3 HS
      obtain ⟨nl, hnle⟩ : ∃ nl, nl = A.files.length := ⟨_, rfl⟩
      rw [← hnle] at hnl HLS hcL ⊢
      have HNL := Aside.mk hnle
      clear hnle
      go_wp2
      go_loopw [10, 11, 68] (fun v10 v11 v68 wr => ∃ (j nn : Nat) (K : List Kep), v68 = .int .i64 j ∧ j ≤ nl ∧ v11 = .int .i64 nn ∧ nn ≤ 100000 * j ∧ K.length ≤ nn ∧ Aside (KOK K) ∧ Aside (Sat E wr (HP.row 59 3 v10 K.length (kepCells K) * (HP.row 9 1 (.slice AL nl cL) nl (namesV A) * (HP.disk d A * q))))) (fun _ _ x _ => nl - (intOf x).toNat)
      case atStart => exact ⟨0, 0, [], rfl, Nat.zero_le _, rfl, Nat.le_refl _, Nat.le_refl _, ⟨fun k hk => by cases hk⟩, HLS⟩
      case round =>
        clear HLS
        obtain ⟨j, nn, K, rfl, hj, rfl, hnn, hKl, HK, HS⟩ := hrel
        obtain ⟨AK, cK, rfl, hcK, -⟩ := HS.out.row_slice
        obtain ⟨kl, hkle⟩ : ∃ kl, kl = K.length := ⟨_, rfl⟩
        rw [← hkle] at HS hKl hcK ⊢
        have HKL := Aside.mk hkle
        clear hkle
        by_cases hlt : j < nl
        · have hj1 : (j : Int) < (nl : Int) := by omega
          have hj0 : (0 : Int) ≤ (j : Int) := by omega
          obtain ⟨nm, hnm⟩ : ∃ nm, (A.files.map (·.1))[j]? = some nm := ⟨_, List.getElem?_eq_getElem (by rw [List.length_map, ← HNL.out]; exact hlt)⟩
          have hnsz : nm.size ≤ maxLen := by
            obtain ⟨x, hx, rfl⟩ := List.mem_map.1 (List.mem_of_getElem? hnm)
            exact names_le HF.out hx
          have hxc := HS.out.right
          have gj : (namesV A)[j]? = some (.string nm) := by
            unfold namesV
            rw [List.getElem?_map] at hnm ⊢
            cases hg : A.files[j]? with
            | none => rw [hg] at hnm; cases hnm
            | some x => rw [hg] at hnm; cases hnm; rfl
          obtain ⟨pa, hpa, -⟩ := hxc.row_cells.at_ j (by unfold namesV; rw [List.length_map, ← HNL.out]; exact hlt)
          obtain ⟨gL, oL, rfl⟩ : ∃ g o, AL = some ⟨g, o, none⟩ := by
            obtain ⟨a, ha, -⟩ := hxc.row_cells _ _ gj
            obtain ⟨g, o, rfl⟩ : ∃ g o, a = ⟨g, o, none⟩ := slice_addr hxc.row_cells ha (List.getElem?_eq_some_iff.1 gj).1
            exact ⟨g, o, ha⟩
          have cj := hxc.row_cells.some_ _ _ gj
          rw [addr_add] at cj
          clear hxc gj hpa hnm
          have hes := at_small HF.out nm
          go_wp2_with fail
          refine (disk_extents E _ d A nm _ hnsz HS.out.right.s2).mono ?_
          rintro e w4 ⟨rfl, hw4⟩; subst w4
          obtain ⟨ne, hne⟩ : ∃ ne, ne = (A.at nm).length := ⟨_, rfl⟩
          rw [← hne] at hes ⊢
          clear hne cj
          have HNS := Aside.mk hnsz
          clear hnsz
          go_wp2
          go_loopw [10, 11, 75] (fun v10 v11 v75 wi => ∃ (i mm : Nat) (K : List Kep), v75 = .int .i64 i ∧ i ≤ ne ∧ v11 = .int .i64 mm ∧ mm ≤ 100000 * j + i ∧ K.length ≤ mm ∧ Aside (KOK K) ∧ Aside (Sat E wi (HP.row 59 3 v10 K.length (kepCells K) * (HP.row 9 1 (.slice (some ⟨gL, oL, none⟩) nl cL) nl (namesV A) * (HP.disk d A * q))))) (fun _ _ x _ => ne - (intOf x).toNat)
          case atStart => exact ⟨0, nn, K, rfl, Nat.zero_le _, rfl, by omega, by rw [← HKL.out]; exact hKl, HK, ⟨by rw [← HKL.out]; exact HS.out⟩⟩
          case round =>
            clear HS HK HKL hKl hcK hnn
            obtain ⟨i, mm, K, rfl, hi, rfl, hmm, hKl, HK, HS⟩ := hrel
            obtain ⟨AK, cK, rfl, hcK, -⟩ := HS.out.row_slice
            obtain ⟨kl, hkle⟩ : ∃ kl, kl = K.length := ⟨_, rfl⟩
            rw [← hkle] at HS hKl hcK ⊢
            have HKL := Aside.mk hkle
            clear hkle
            by_cases hil : i < ne
            · have hi1 : (i : Int) < (ne : Int) := by omega
              have hm0 : (0 : Int) ≤ (mm : Int) := by omega
              have hm1 : ((mm : Int) + 1) ≤ 9223372036854775807 := by omega
              have hm2 : (-9223372036854775808 : Int) ≤ (mm : Int) + 1 := by omega
              by_cases hmk : (mm : Int) < (kn : Int)
              · have hmk2 : mm < keep.l.length := by rw [HKN.out]; omega
                obtain ⟨bb, hbb⟩ : ∃ bb, keep.l[mm]? = some bb := ⟨_, List.getElem?_eq_getElem hmk2⟩
                have hkc := (HQ.out _ _ HS.out.right.right.right).2.1
                have gk : (keep.l.map Value.bool)[mm]? = some (.bool bb) := by rw [List.getElem?_map, hbb]; rfl
                obtain ⟨gK, oK, hKA⟩ : ∃ g o, keep.A = some ⟨g, o, none⟩ := by
                  obtain ⟨a, ha, -⟩ := hkc _ _ gk
                  obtain ⟨g, o, rfl⟩ : ∃ g o, a = ⟨g, o, none⟩ := slice_addr hkc ha (List.getElem?_eq_some_iff.1 gk).1
                  exact ⟨g, o, ha⟩
                rw [hKA] at hkc
                have ck := hkc.some_ _ _ gk
                rw [addr_add] at ck
                rw [hKA]
                have HKA := Aside.mk hKA
                clear hkc gk hbb hKA
                cases bb with
                | false =>
                  go_wp2
                  go_roundw
                  case rel => exact ⟨i + 1, mm + 1, K, by go_num, by omega, by go_num, by omega, by rw [← HKL.out]; omega, HK, ⟨by rw [← HKL.out]; exact HS.out⟩⟩
                  case measure => simp [intOf]; omega
                | true =>
                  have hkw : wf64 (i : Int) := by unfold wf64; omega
                  have HK2 : Aside (KOK (K ++ [⟨nm, i, 128⟩])) := ⟨fun k hk => by
                    rcases List.mem_append.1 hk with hk | hk
                    · exact HK.out k hk
                    · rw [List.mem_singleton.1 hk]; exact ⟨rfl, HNS.out, hkw⟩⟩
                  clear hkw
                  go_wp2_with (at_builtin; refine wpList_append_new slKp rfl rfl (by rfl) (by rfl) HS.out (by rfl) (by rfl) (by unfold maxLen; omega) (by omega) (fun v5 w5 hw5 => ?_); obtain ⟨A5, c5, rfl, -, -⟩ := hw5.row_slice; have HW5 := Aside.mk hw5; clear hw5)
                  go_roundw
                  case rel => exact ⟨i + 1, mm + 1, K ++ [⟨nm, i, 128⟩], by go_num, by omega, by go_num, by omega, by rw [List.length_append, ← HKL.out]; simp; omega, HK2, ⟨by
                    rw [List.length_append, ← HKL.out, show kepCells (K ++ [⟨nm, (i : Int), 128⟩]) = kepCells K ++ [.string nm, .int .i64 i, .int .i64 128] from by simp [kepCells, Kep.vals]]
                    exact HW5.out⟩⟩
                  case measure => simp [intOf]; omega
              · go_wp2
                go_roundw
                case rel => exact ⟨i + 1, mm + 1, K, by go_num, by omega, by go_num, by omega, by rw [← HKL.out]; omega, HK, ⟨by rw [← HKL.out]; exact HS.out⟩⟩
                case measure => simp [intOf]; omega
            · obtain rfl : i = ne := by omega
              go_wp2
              go_roundw
              case rel => exact ⟨j + 1, mm, K, by go_num, by omega, rfl, by omega, by rw [← HKL.out]; omega, HK, ⟨by rw [← HKL.out]; exact HS.out⟩⟩
              case measure => simp [intOf]; omega
        · obtain rfl : j = nl := by omega
          have HS2 : Aside (Sat E wr (HP.disk d A * (HP.row 59 3 (.slice AK kl cK) kl (kepCells K) * (HP.row 9 1 (.slice AL j cL) j (namesV A) * q)))) := ⟨HS.out.s3⟩
          clear HS
          go_wp2_with fail
          refine (disk_damaged E _ d A _ HS2.out).mono ?_
          rw [HI.out.damaged]
          rintro e w5 ⟨v5, rfl, h5⟩
          obtain ⟨A5, c5, rfl, hc5, -⟩ := h5.row_slice
          have H5 : Aside (Sat E w5 (HP.disk d A * (HP.row 59 3 (.slice AK kl cK) kl (kepCells K) * (HP.row 9 1 (.slice AL j cL) j (namesV A) * q)))) := ⟨h5.right⟩
          clear h5 HS2
          go_wp2_with fail
          have hkl2 := HKL.out
          subst hkl2
          refine (disk_crash E _ d A AK K cK _ (by omega) (fun k hk => ⟨(HK.out k hk).2.1, (HK.out k hk).2.2, by rw [(HK.out k hk).1]; unfold wf64; omega⟩) (fun E w h => h.row_cells) H5.out).mono ?_
          rintro e w6 ⟨rfl, h6⟩
          have H6 := Aside.mk h6
          clear h6 H5
          go_wp2_with fail
          refine (disk_damaged E _ d _ _ H6.out).mono ?_
          rw [HI.out.crash HF.out (fun k hk => (HK.out k hk).1)]
          rintro e w7 ⟨v7, rfl, h7⟩
          obtain ⟨A7, c7, rfl, hc7, -⟩ := h7.row_slice
          have H7 := Aside.mk h7.right
          clear h7 H6
          go_wp2_with fail
          refine (awake3_ok E _ _ H7.out).mono ?_
          rintro e w8 ⟨rfl, h8⟩
          go_wp2
          go_ret
          exact ⟨rfl, h8.right.right.right⟩
end Go.Proofs.Ytjlfhfknnpjikaa
