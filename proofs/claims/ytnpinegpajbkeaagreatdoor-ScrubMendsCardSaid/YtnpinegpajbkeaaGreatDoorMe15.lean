/- Texts of one claim, one behind the other: Dam, RefM3, RefW3, Rf5A, Rf6A, Rf6B, RdAny, Rf5G, Rf5S. -/
import Derived.Test.YtnpinegpajbkeaaGreatDoorMe14
set_option linter.unusedSimpArgs false
set_option linter.unusedVariables false
namespace Go.Proofs.YtnpinegpajbkeaaGreatDoor
open Go.RowKit HP
theorem slSp : SlTy Tryz.prog 66 68 (.agg #[.string ⟨#[]⟩, .int .i64 0]) 2 24 := ⟨Tryz.underlying66, by kernel_rfl, rfl, by decide⟩
theorem encSpot_one (x : ByteArray × Int) : ∀ v ∈ encSpot x, v.oneCell' = true := by
  intro v hv
  simp [encSpot] at hv
  rcases hv with rfl | rfl <;> rfl
theorem sort_spots (E : Env) (q : HP) (v : Value) (l : List (ByteArray × Int)) (n : Nat) (w : World) (hl : l.length = n) (hn : n ≤ maxLen / 4) (hw : Sat E w (HP.row 68 2 v n (l.flatMap encSpot) * q)) :
    Calls Tryz.prog 123 #[v, .func (.func 124) #[] #[]] w fun r w' => r = .returned (.tuple #[]) ∧ Sat E w' (HP.row 68 2 v n ((l.mergeSort fun x y => !(ltC cmpSpot) y x).flatMap encSpot) * q) :=
  sort_row (k := 2) laysSpot (by intro w; kernel_rfl) (by intro w; kernel_rfl) encSpot (fun _ => rfl) encSpot_one cmpSpot swo_spot (fun _ _ h1 h2 => ltSpot_total h1 h2) 124 #[] (enters_of Tryz.func124 (by kernel_rfl) rfl)
    (fun x y W => damaged_cmp x.1 y.1 x.2 y.2 W) hl hn hw
theorem spots_length : ∀ l : List (ByteArray × List Cel), (l.flatMap spotsF).length ≤ sizeF l
  | [] => Nat.le_refl _
  | x :: l => by
    have h1 := spots_length l
    have h2 := spotsN_length x.1 x.2 x.2.length
    rw [List.flatMap_cons, List.length_append]
    unfold sizeF at *
    rw [List.map_cons, List.sum_cons]
    unfold spotsF at *
    omega
def leftS (es : Array MapEntry) (seen : Array Nat) (fs : List Fil) : List (ByteArray × Int) := (leftZ es seen fs).flatMap fun x => spotsF (x.2.name, x.2.cs)
theorem leftS_start {A : Dk} {es : Array MapEntry} {clock : Nat} {fs : List Fil} (hv : View A es clock fs) : (leftS es #[] fs).Perm A.damaged := by
  have hlen : es.toList.length = fs.length := by simpa using congrArg List.length hv.map.2.1
  have e : leftS es #[] fs = (fs.map fun f => (f.name, f.cs)).flatMap spotsF := by
    unfold leftS
    conv => rhs; rw [← leftZ_start hlen]
    rw [List.map_map, List.flatMap_map]
    rfl
  rw [e]
  exact (files_perm hv).flatMap_right _
theorem leftS_step {es : Array MapEntry} {seen : Array Nat} {fs : List Fil} {j : Nat} {e : MapEntry} {f : Fil} (hn : (es.toList.map (·.born)).Nodup) (hl : es.toList.length = fs.length) (hj : es.toList[j]? = some e) (hf : fs[j]? = some f) (he : e ∈ leftL es seen) :
    (leftS es seen fs).Perm (spotsF (f.name, f.cs) ++ leftS es (seen.push e.born) fs) := by
  have he2 : seen.contains e.born = false := by
    have := (List.mem_filter.1 he).2
    simpa using this
  have := (leftZ_step hn hl hj hf he2).flatMap_right (fun x => spotsF (x.2.name, x.2.cs))
  rwa [List.flatMap_cons] at this
set_option maxHeartbeats 4000000 in
set_option maxRecDepth 100000 in
theorem disk_damaged (E : Env) (q : HP) (d : Nat) (A : Dk) (w : World) (hw : Sat E w (HP.disk d A * q)) :
    Calls Tryz.prog 88 #[.pointer (some ⟨d, 0, none⟩)] w fun e w' => ∃ v, e = .returned v ∧ Sat E w' (HP.row 68 2 v A.damaged.length (A.damaged.flatMap encSpot) * (HP.disk d A * q)) := by
  obtain ⟨m, es, clock, fs, hv, hd⟩ := hw.disk_open
  clear hw
  go_enter Tryz.func88, Tryz.ntmps88
  go_wp2_with fail
  refine (disk_none E _ d _ _ m w (dk_parts hd)).mono ?_
  rintro e w1 ⟨rfl, rfl⟩
  have c1 := (dk_parts hd).cell 1
  simp only [List.getElem?_toArray, List.getElem?_cons_zero, List.getElem?_cons_succ] at c1
  have hrg := run_range_map (P := Tryz.prog) (t := 141) Tryz.underlying141 (dk_parts hd).s2.get
  have HS0 := Aside.mk ((hd.alloc (.mapIter (some m) clock #[] clock)).row_nil 68 2 none)
  have HM := Aside.mk hv.map
  have hlen : es.toList.length = fs.length := by simpa using congrArg List.length hv.map.2.1
  have HV := Aside.mk (And.intro hv hlen)
  have hdl : A.damaged.length ≤ 100000 := by
    have h1 := spots_length A.files
    have h2 := hv.fine.fits
    have h3 := hv.fine.room
    unfold Dk.damaged
    omega
  have HL := Aside.mk (And.intro (leftS_start hv) (damaged_sorted hv.fine.sorted))
  clear hv hlen hd
  go_wp2
  obtain ⟨g, hg⟩ : ∃ g, g = w1.heap.size := ⟨_, rfl⟩
  obtain ⟨w0, hw0⟩ : ∃ w0, w0 = w1.alloc (.mapIter (some m) clock #[] clock) := ⟨_, rfl⟩
  rw [← hg, ← hw0] at HS0
  rw [← hg, ← hw0]
  clear hrg c1 hg hw0
  go_loopw [3] (fun v3 wr => ∃ (seen : Array Nat) (c0 : Nat) (out : List (ByteArray × Int)), clock ≤ c0 ∧ Aside ((out ++ leftS es seen fs).Perm A.damaged) ∧ Aside (Sat E wr (HP.pt g (.mapIter (some m) clock seen c0) * (HP.row 68 2 v3 out.length (out.flatMap encSpot) * (HP.dk d A.room A.fuse m es clock fs * q)))))
    (fun _ wr => match wr.heap[g]? with | some (.mapIter _ _ seen _) => (leftL es seen).length | _ => 0)
  case atStart => exact ⟨#[], clock, [], Nat.le_refl _, ⟨HL.out.1⟩, ⟨HS0.out.perm (by show HP.row _ _ _ 0 [] * _ = HP.pt _ _ * (HP.row _ _ _ 0 [] * _); ac_rfl)⟩⟩
  case round =>
    clear HS0
    obtain ⟨seen, c0, out, hc0, HO, HS⟩ := hrel
    have hol : out.length ≤ 100000 := by
      have := HO.out.length_eq
      rw [List.length_append] at this
      omega
    rcases next_file HM.out hc0 (HS.out.perm (by ac_rfl : _ = HP.pt g (.mapIter (some m) clock seen c0) * (HP.dk d A.room A.fuse m es clock fs * (HP.row 68 2 u3 out.length (out.flatMap encSpot) * q)))) 0 with ⟨hend, hnext⟩ | ⟨j, f, e, w2, hj, hje, hel, hnext, hent, h2⟩
    · have hz : leftS es seen fs = [] := by unfold leftS; rw [leftZ_end hend]; rfl
      have hp := HO.out
      rw [hz, List.append_nil] at hp
      have HP0 := Aside.mk hp
      clear hz hp HO hend
      go_wp2_with fail
      refine (sort_spots E _ u3 out out.length _ rfl (by unfold maxLen; omega) HS.out.right).mono ?_
      rintro e w2 ⟨rfl, h2⟩
      rw [sorted_damaged HV.out.1.fine.sorted HP0.out, HP0.out.length_eq] at h2
      have H2 := Aside.mk (And.intro rfl (Sat.disk_close (q := HP.row 68 2 u3 A.damaged.length (A.damaged.flatMap encSpot) * q) HV.out.1 h2.s2) : u3 = u3 ∧ _)
      clear h2 HP0 HS hol
      go_wp2
      go_ret
      exact ⟨_, rfl, H2.out.2.s2⟩
    · obtain ⟨R0, h3, hback⟩ := dk_fileQ (h2.perm (by ac_rfl : _ = HP.dk d A.room A.fuse m es clock fs * (HP.pt g (.mapIter (some m) clock (seen.push e.born) clock) * (HP.row 68 2 u3 out.length (out.flatMap encSpot) * q)))) hj
      obtain ⟨B, cc, hvB, -, -⟩ := h3.row_slice
      have hfm := HV.out.1.mem (List.mem_of_getElem? hj)
      have hfs : f.cels.length ≤ 100000 := by
        have h7 := at_small HV.out.1.fine f.name
        rw [Dk.at, lk_of_mem HV.out.1.fine.sorted hfm] at h7
        simpa [Fil.cs] using h7
      have HFine : Aside (∀ x ∈ f.cels, x.2.Fine) := ⟨fun x hx => HV.out.1.cel_fine (List.mem_of_getElem? hj) hx⟩
      have hset : fs.set j ⟨f.name, f.val, f.cels⟩ = fs := by
        obtain ⟨h1, h2⟩ := List.getElem?_eq_some_iff.1 hj
        rw [show (⟨f.name, f.val, f.cels⟩ : Fil) = fs[j] from h2.symm]
        exact List.set_getElem_self h1
      have hst := leftS_step HM.out.2.2.2.2 HV.out.2 hje hj hel
      have HC := Aside.mk (And.intro hback (And.intro hset (And.intro hst hel)))
      have hce : f.cs.length = f.cels.length := by unfold Fil.cs; rw [List.length_map]
      rw [hvB] at hnext hent h3
      have H3 := Aside.mk h3
      have HG1 := Aside.mk HS.out.get
      clear HS h2 hback h3 hj hje hel hfm hset hst
      obtain ⟨n, hnn⟩ : ∃ n, n = f.cels.length := ⟨_, rfl⟩
      rw [← hnn] at H3 hfs hnext hent hce
      have HN := Aside.mk (And.intro hnn hce)
      clear hnn hce
      go_wp2
      obtain ⟨wo, rfl⟩ : ∃ wo : World, wo = wr := ⟨_, rfl⟩
      go_loopw [3, 22] (fun v3 v22 wi => ∃ k : Nat, v22 = .int .i64 k ∧ k ≤ n ∧ Aside (Sat E wi (HP.row 68 2 v3 (out ++ spotsN f.name f.cs k).length ((out ++ spotsN f.name f.cs k).flatMap encSpot) * (HP.row 145 1 (.slice B n cc) n (celPtrs f.cels) * (HP.cels f.cels * (R0 * (HP.pt g (.mapIter (some m) clock (seen.push e.born) clock) * q))))))) (fun _ x _ => n - (intOf x).toNat)
      case atStart => exact ⟨0, rfl, Nat.zero_le _, ⟨by rw [show spotsN f.name f.cs 0 = [] from rfl, List.append_nil]; exact H3.out.perm (by ac_rfl)⟩⟩
      case round =>
        clear H3 hnext hent
        obtain ⟨k, rfl, hk, HR⟩ := hrel
        by_cases hlt : k < n
        · have hkf : k < f.cels.length := by have := HN.out.1; omega
          have hrow := HR.out.right
          obtain ⟨pa, hpa, hcx⟩ := hrow.row_cells.at_ k (by simp [celPtrs, hkf])
          obtain ⟨pg, po, rfl⟩ : ∃ g o, pa = ⟨g, o, none⟩ := slice_addr hrow.row_cells hpa (k := k) (by simp [celPtrs, hkf])
          subst hpa
          rw [addr_add] at hcx
          simp only [celPtrs, List.getElem_map] at hcx
          obtain ⟨Rk, h5, hRk, hbackk⟩ := cels_take (hrow.s2) (List.getElem?_eq_getElem hkf)
          have hxf : (f.cels[k]).2.Fine := HFine.out _ (List.getElem_mem hkf)
          have hcs : f.cs[k]? = some (f.cels[k]).2 := by unfold Fil.cs; rw [List.getElem?_map, List.getElem?_eq_getElem hkf]; rfl
          have HSN : Aside (spotsN f.name f.cs (k + 1) = spotsN f.name f.cs k ++ if (f.cels[k]).2.bad = true then [(f.name, (k : Int))] else []) := ⟨by rw [spotsN, hcs]; rfl⟩
          have hsl := spotsN_length f.name f.cs k
          generalize f.cels[k] = x at *
          obtain ⟨bk, c⟩ := x
          dsimp only at *
          have hk0 : (0 : Int) ≤ (k : Int) := by omega
          have hk1 : (k : Int) < (n : Int) := by omega
          have ld1 := run_loadAgg agImg (by rw [b8s_length]; exact hxf.2.1) (cel_durable h5.drew hxf)
          have ld2 := run_loadAgg agImg (by rw [b8s_length]; exact hxf.2.2.1) (cel_synced h5.drew hxf)
          have ld4 := run_loadAgg agImg (by rw [b8s_length]; exact hxf.2.2.2) (cel_written h5.drew hxf)
          have ne1 := run_neq_u8s (P := Tryz.prog) (w := wr.drew) Tryz.underlying147 Tryz.underlying5 (by kernel_rfl) (by kernel_rfl) c.durable c.synced hxf.2.1 hxf.2.2.1
          have ne2 := run_neq_u8s (P := Tryz.prog) (w := wr.drew) Tryz.underlying147 Tryz.underlying5 (by kernel_rfl) (by kernel_rfl) c.durable c.written hxf.2.1 hxf.2.2.2
          clear hRk hrow
          by_cases e1 : c.durable = c.synced
          · have hbad : c.bad = false := by unfold Cel.bad; simp [e1]
            rw [hbad] at HSN
            simp only [Bool.false_eq_true, if_false, List.append_nil] at HSN
            have HR2 : Aside (Sat E wr.drew (HP.row 68 2 u3 (out ++ spotsN f.name f.cs (k + 1)).length ((out ++ spotsN f.name f.cs (k + 1)).flatMap encSpot) * (HP.row 145 1 (.slice (some ⟨pg, po, none⟩) n cc) n (celPtrs f.cels) * (HP.cels f.cels * (R0 * (HP.pt g (.mapIter (some m) clock (seen.push e.born) clock) * q)))))) := ⟨by rw [HSN.out]; exact HR.out.drew⟩
            rw [decide_eq_true e1] at ne1
            generalize (b8s c.durable).toArray = D1 at *
            generalize (b8s c.synced).toArray = D2 at *
            clear ld4 ne2 h5 hbackk HR HSN hxf hcs
            go_wp2
            refine region_R [] [] (fun _ => True) #[false, false, false, false, false, false, false, false, false, false, false, false, false, false, false, false, false, false, false, false] (by kernel_rfl) rfl rfl ?_
            refine wpR_rd 0 #[true, false, false, false, false, false, false, false, false, false, false, false, false, false, false, false, false, false, false, false] rfl onlyN_noPanic (by kernel_rfl) (fun K hK => ?_); (go_simp; try go_bits); refine hK _ ?_; clear hK K
            refine wpR_rd 1 #[true, true, false, false, false, false, false, false, false, false, false, false, false, false, false, false, false, false, false, false] rfl onlyN_noPanic (by kernel_rfl) (fun K hK => ?_); (go_simp; try go_bits); refine hK _ ?_; clear hK K
            refine wpR_rd 2 #[true, true, true, false, false, false, false, false, false, false, false, false, false, false, false, false, false, false, false, false] rfl onlyN_noPanic (by kernel_rfl) (fun K hK => ?_); (go_simp; try go_bits); refine hK _ ?_; clear hK K
            refine wpR_read (i := 3) #[true, true, true, true, false, false, false, false, false, false, false, false, false, false, false, false, false, false, false, false] rfl onlyN_noPanic (by kernel_rfl) (.inl ⟨rfl, exec_load rfl rfl ld1⟩) ?_
            simp only [Act.put, List.setIfInBounds_toArray, List.set_cons_zero, List.set_cons_succ]
            refine wpR_rd 4 #[true, true, true, true, true, false, false, false, false, false, false, false, false, false, false, false, false, false, false, false] rfl onlyN_noPanic (by kernel_rfl) (fun K hK => ?_); (go_simp; try go_bits); refine hK _ ?_; clear hK K
            refine wpR_rd 5 #[true, true, true, true, true, true, false, false, false, false, false, false, false, false, false, false, false, false, false, false] rfl onlyN_noPanic (by kernel_rfl) (fun K hK => ?_); (go_simp; try go_bits); refine hK _ ?_; clear hK K
            refine wpR_rd 6 #[true, true, true, true, true, true, true, false, false, false, false, false, false, false, false, false, false, false, false, false] rfl onlyN_noPanic (by kernel_rfl) (fun K hK => ?_); (go_simp; try go_bits); refine hK _ ?_; clear hK K
            refine wpR_read (i := 7) #[true, true, true, true, true, true, true, true, false, false, false, false, false, false, false, false, false, false, false, false] rfl onlyN_noPanic (by kernel_rfl) (.inl ⟨rfl, exec_load rfl rfl ld2⟩) ?_
            simp only [Act.put, List.setIfInBounds_toArray, List.set_cons_zero, List.set_cons_succ]
            refine wpR_read (i := 8) #[true, true, true, true, true, true, true, true, true, false, false, false, false, false, false, false, false, false, false, false] rfl onlyN_noPanic (by kernel_rfl) (.inl ⟨rfl, exec_binop rfl rfl rfl (run_eqGuard_agg _ .neq 147 _ _ _ _ (by kernel_rfl)) ne1⟩) ?_
            simp only [Act.put, List.setIfInBounds_toArray, List.set_cons_zero, List.set_cons_succ]
            refine wpR_rd 9 #[true, true, true, true, true, true, true, true, true, true, false, false, false, false, false, false, false, false, false, false] rfl onlyN_noPanic (by kernel_rfl) (fun K hK => ?_); (go_simp; try go_bits); refine hK _ ?_; clear hK K
            refine wpR_rd 10 #[true, true, true, true, true, true, true, true, true, true, true, false, false, false, false, false, false, false, false, false] rfl onlyN_noPanic (by kernel_rfl) (fun K hK => ?_); (go_simp; try go_bits); refine hK _ ?_; clear hK K
            refine wpR_rd 11 #[true, true, true, true, true, true, true, true, true, true, true, true, false, false, false, false, false, false, false, false] rfl onlyN_noPanic (by kernel_rfl) (fun K hK => ?_); (go_simp; try go_bits); refine hK _ ?_; clear hK K
            refine wpR_rd 12 #[true, true, true, true, true, true, true, true, true, true, true, true, true, false, false, false, false, false, false, false] rfl onlyN_noPanic (by kernel_rfl) (fun K hK => ?_); (go_simp; try go_bits); refine hK _ ?_; clear hK K
            refine wpR_rd 13 #[true, true, true, true, true, true, true, true, true, true, true, true, true, true, false, false, false, false, false, false] rfl onlyN_noPanic (by kernel_rfl) (fun K hK => ?_); (go_simp; try go_bits); refine hK _ ?_; clear hK K
            refine wpR_rd 14 #[true, true, true, true, true, true, true, true, true, true, true, true, true, true, true, false, false, false, false, false] rfl onlyN_noPanic (by kernel_rfl) (fun K hK => ?_); (go_simp; try go_bits); refine hK _ ?_; clear hK K
            refine wpR_rd 15 #[true, true, true, true, true, true, true, true, true, true, true, true, true, true, true, true, false, false, false, false] rfl onlyN_noPanic (by kernel_rfl) (fun K hK => ?_); (go_simp; try go_bits); refine hK _ ?_; clear hK K
            refine wpR_rd 16 #[true, true, true, true, true, true, true, true, true, true, true, true, true, true, true, true, true, false, false, false] rfl onlyN_noPanic (by kernel_rfl) (fun K hK => ?_); (go_simp; try go_bits); refine hK _ ?_; clear hK K
            refine wpR_rd 17 #[true, true, true, true, true, true, true, true, true, true, true, true, true, true, true, true, true, true, false, false] rfl onlyN_noPanic (by kernel_rfl) (fun K hK => ?_); (go_simp; try go_bits); refine hK _ ?_; clear hK K
            refine wpR_rd 18 #[true, true, true, true, true, true, true, true, true, true, true, true, true, true, true, true, true, true, true, false] rfl onlyN_noPanic (by kernel_rfl) (fun K hK => ?_); (go_simp; try go_bits); refine hK _ ?_; clear hK K
            refine wpR_rd 19 #[true, true, true, true, true, true, true, true, true, true, true, true, true, true, true, true, true, true, true, true] rfl onlyN_noPanic (by kernel_rfl) (fun K hK => ?_); (go_simp; try go_bits); refine hK _ ?_; clear hK K
            refine wpR_done (by kernel_rfl) ?_ _
            simp only [OnlyN]
            go_wp2
            go_roundw
            case rel => exact ⟨k + 1, by go_num, by omega, HR2⟩
            case measure => simp [intOf]; omega
          · rw [decide_eq_false e1] at ne1
            by_cases e2 : c.durable = c.written
            · have hbad : c.bad = false := by unfold Cel.bad; simp [e2]
              rw [hbad] at HSN
              simp only [Bool.false_eq_true, if_false, List.append_nil] at HSN
              have HR2 : Aside (Sat E wr.drew (HP.row 68 2 u3 (out ++ spotsN f.name f.cs (k + 1)).length ((out ++ spotsN f.name f.cs (k + 1)).flatMap encSpot) * (HP.row 145 1 (.slice (some ⟨pg, po, none⟩) n cc) n (celPtrs f.cels) * (HP.cels f.cels * (R0 * (HP.pt g (.mapIter (some m) clock (seen.push e.born) clock) * q)))))) := ⟨by rw [HSN.out]; exact HR.out.drew⟩
              rw [decide_eq_true e2] at ne2
              generalize (b8s c.durable).toArray = D1 at *
              generalize (b8s c.synced).toArray = D2 at *
              generalize (b8s c.written).toArray = D3 at *
              clear h5 hbackk HR HSN hxf hcs
              go_wp2
              refine region_R [] [] (fun _ => True) #[false, false, false, false, false, false, false, false, false, false, false, false, false, false, false, false, false, false, false, false] (by kernel_rfl) rfl rfl ?_
              refine wpR_rd 0 #[true, false, false, false, false, false, false, false, false, false, false, false, false, false, false, false, false, false, false, false] rfl onlyN_noPanic (by kernel_rfl) (fun K hK => ?_); (go_simp; try go_bits); refine hK _ ?_; clear hK K
              refine wpR_rd 1 #[true, true, false, false, false, false, false, false, false, false, false, false, false, false, false, false, false, false, false, false] rfl onlyN_noPanic (by kernel_rfl) (fun K hK => ?_); (go_simp; try go_bits); refine hK _ ?_; clear hK K
              refine wpR_rd 2 #[true, true, true, false, false, false, false, false, false, false, false, false, false, false, false, false, false, false, false, false] rfl onlyN_noPanic (by kernel_rfl) (fun K hK => ?_); (go_simp; try go_bits); refine hK _ ?_; clear hK K
              refine wpR_read (i := 3) #[true, true, true, true, false, false, false, false, false, false, false, false, false, false, false, false, false, false, false, false] rfl onlyN_noPanic (by kernel_rfl) (.inl ⟨rfl, exec_load rfl rfl ld1⟩) ?_
              simp only [Act.put, List.setIfInBounds_toArray, List.set_cons_zero, List.set_cons_succ]
              refine wpR_rd 4 #[true, true, true, true, true, false, false, false, false, false, false, false, false, false, false, false, false, false, false, false] rfl onlyN_noPanic (by kernel_rfl) (fun K hK => ?_); (go_simp; try go_bits); refine hK _ ?_; clear hK K
              refine wpR_rd 5 #[true, true, true, true, true, true, false, false, false, false, false, false, false, false, false, false, false, false, false, false] rfl onlyN_noPanic (by kernel_rfl) (fun K hK => ?_); (go_simp; try go_bits); refine hK _ ?_; clear hK K
              refine wpR_rd 6 #[true, true, true, true, true, true, true, false, false, false, false, false, false, false, false, false, false, false, false, false] rfl onlyN_noPanic (by kernel_rfl) (fun K hK => ?_); (go_simp; try go_bits); refine hK _ ?_; clear hK K
              refine wpR_read (i := 7) #[true, true, true, true, true, true, true, true, false, false, false, false, false, false, false, false, false, false, false, false] rfl onlyN_noPanic (by kernel_rfl) (.inl ⟨rfl, exec_load rfl rfl ld2⟩) ?_
              simp only [Act.put, List.setIfInBounds_toArray, List.set_cons_zero, List.set_cons_succ]
              refine wpR_read (i := 8) #[true, true, true, true, true, true, true, true, true, false, false, false, false, false, false, false, false, false, false, false] rfl onlyN_noPanic (by kernel_rfl) (.inl ⟨rfl, exec_binop rfl rfl rfl (run_eqGuard_agg _ .neq 147 _ _ _ _ (by kernel_rfl)) ne1⟩) ?_
              simp only [Act.put, List.setIfInBounds_toArray, List.set_cons_zero, List.set_cons_succ]
              refine wpR_rd 9 #[true, true, true, true, true, true, true, true, true, true, false, false, false, false, false, false, false, false, false, false] rfl onlyN_noPanic (by kernel_rfl) (fun K hK => ?_); (go_simp; try go_bits); refine hK _ ?_; clear hK K
              refine wpR_rd 10 #[true, true, true, true, true, true, true, true, true, true, true, false, false, false, false, false, false, false, false, false] rfl onlyN_noPanic (by kernel_rfl) (fun K hK => ?_); (go_simp; try go_bits); refine hK _ ?_; clear hK K
              refine wpR_rd 11 #[true, true, true, true, true, true, true, true, true, true, true, true, false, false, false, false, false, false, false, false] rfl onlyN_noPanic (by kernel_rfl) (fun K hK => ?_); (go_simp; try go_bits); refine hK _ ?_; clear hK K
              refine wpR_rd 12 #[true, true, true, true, true, true, true, true, true, true, true, true, true, false, false, false, false, false, false, false] rfl onlyN_noPanic (by kernel_rfl) (fun K hK => ?_); (go_simp; try go_bits); refine hK _ ?_; clear hK K
              refine wpR_read (i := 13) #[true, true, true, true, true, true, true, true, true, true, true, true, true, true, false, false, false, false, false, false] rfl onlyN_noPanic (by kernel_rfl) (.inl ⟨rfl, exec_load rfl rfl ld1⟩) ?_
              simp only [Act.put, List.setIfInBounds_toArray, List.set_cons_zero, List.set_cons_succ]
              refine wpR_rd 14 #[true, true, true, true, true, true, true, true, true, true, true, true, true, true, true, false, false, false, false, false] rfl onlyN_noPanic (by kernel_rfl) (fun K hK => ?_); (go_simp; try go_bits); refine hK _ ?_; clear hK K
              refine wpR_rd 15 #[true, true, true, true, true, true, true, true, true, true, true, true, true, true, true, true, false, false, false, false] rfl onlyN_noPanic (by kernel_rfl) (fun K hK => ?_); (go_simp; try go_bits); refine hK _ ?_; clear hK K
              refine wpR_rd 16 #[true, true, true, true, true, true, true, true, true, true, true, true, true, true, true, true, true, false, false, false] rfl onlyN_noPanic (by kernel_rfl) (fun K hK => ?_); (go_simp; try go_bits); refine hK _ ?_; clear hK K
              refine wpR_read (i := 17) #[true, true, true, true, true, true, true, true, true, true, true, true, true, true, true, true, true, true, false, false] rfl onlyN_noPanic (by kernel_rfl) (.inl ⟨rfl, exec_load rfl rfl ld4⟩) ?_
              simp only [Act.put, List.setIfInBounds_toArray, List.set_cons_zero, List.set_cons_succ]
              refine wpR_read (i := 18) #[true, true, true, true, true, true, true, true, true, true, true, true, true, true, true, true, true, true, true, false] rfl onlyN_noPanic (by kernel_rfl) (.inl ⟨rfl, exec_binop rfl rfl rfl (run_eqGuard_agg _ .neq 147 _ _ _ _ (by kernel_rfl)) ne2⟩) ?_
              simp only [Act.put, List.setIfInBounds_toArray, List.set_cons_zero, List.set_cons_succ]
              refine wpR_rd 19 #[true, true, true, true, true, true, true, true, true, true, true, true, true, true, true, true, true, true, true, true] rfl onlyN_noPanic (by kernel_rfl) (fun K hK => ?_); (go_simp; try go_bits); refine hK _ ?_; clear hK K
              refine wpR_done (by kernel_rfl) ?_ _
              simp only [OnlyN]
              go_wp2
              go_roundw
              case rel => exact ⟨k + 1, by go_num, by omega, HR2⟩
              case measure => simp [intOf]; omega
            · have hbad : c.bad = true := by unfold Cel.bad; simp [e1, e2]
              rw [hbad] at HSN
              simp only [if_true] at HSN
              rw [decide_eq_false e2] at ne2
              have HR2 := Aside.mk HR.out.drew
              obtain ⟨ln, hln⟩ : ∃ ln, ln = (out ++ spotsN f.name f.cs k).length := ⟨_, rfl⟩
              have hln2 : ln ≤ 200000 := by rw [hln, List.length_append]; omega
              rw [← hln] at HR2
              have HLN := Aside.mk hln
              generalize (b8s c.durable).toArray = D1 at *
              generalize (b8s c.synced).toArray = D2 at *
              generalize (b8s c.written).toArray = D3 at *
              obtain ⟨A3, c3, rfl, -, -⟩ := HR2.out.row_slice
              clear h5 hbackk HR hxf hcs hln
              go_wp2
              refine region_R [] [] (fun _ => True) #[false, false, false, false, false, false, false, false, false, false, false, false, false, false, false, false, false, false, false, false] (by kernel_rfl) rfl rfl ?_
              refine wpR_rd 0 #[true, false, false, false, false, false, false, false, false, false, false, false, false, false, false, false, false, false, false, false] rfl onlyN_noPanic (by kernel_rfl) (fun K hK => ?_); (go_simp; try go_bits); refine hK _ ?_; clear hK K
              refine wpR_rd 1 #[true, true, false, false, false, false, false, false, false, false, false, false, false, false, false, false, false, false, false, false] rfl onlyN_noPanic (by kernel_rfl) (fun K hK => ?_); (go_simp; try go_bits); refine hK _ ?_; clear hK K
              refine wpR_rd 2 #[true, true, true, false, false, false, false, false, false, false, false, false, false, false, false, false, false, false, false, false] rfl onlyN_noPanic (by kernel_rfl) (fun K hK => ?_); (go_simp; try go_bits); refine hK _ ?_; clear hK K
              refine wpR_read (i := 3) #[true, true, true, true, false, false, false, false, false, false, false, false, false, false, false, false, false, false, false, false] rfl onlyN_noPanic (by kernel_rfl) (.inl ⟨rfl, exec_load rfl rfl ld1⟩) ?_
              simp only [Act.put, List.setIfInBounds_toArray, List.set_cons_zero, List.set_cons_succ]
              refine wpR_rd 4 #[true, true, true, true, true, false, false, false, false, false, false, false, false, false, false, false, false, false, false, false] rfl onlyN_noPanic (by kernel_rfl) (fun K hK => ?_); (go_simp; try go_bits); refine hK _ ?_; clear hK K
              refine wpR_rd 5 #[true, true, true, true, true, true, false, false, false, false, false, false, false, false, false, false, false, false, false, false] rfl onlyN_noPanic (by kernel_rfl) (fun K hK => ?_); (go_simp; try go_bits); refine hK _ ?_; clear hK K
              refine wpR_rd 6 #[true, true, true, true, true, true, true, false, false, false, false, false, false, false, false, false, false, false, false, false] rfl onlyN_noPanic (by kernel_rfl) (fun K hK => ?_); (go_simp; try go_bits); refine hK _ ?_; clear hK K
              refine wpR_read (i := 7) #[true, true, true, true, true, true, true, true, false, false, false, false, false, false, false, false, false, false, false, false] rfl onlyN_noPanic (by kernel_rfl) (.inl ⟨rfl, exec_load rfl rfl ld2⟩) ?_
              simp only [Act.put, List.setIfInBounds_toArray, List.set_cons_zero, List.set_cons_succ]
              refine wpR_read (i := 8) #[true, true, true, true, true, true, true, true, true, false, false, false, false, false, false, false, false, false, false, false] rfl onlyN_noPanic (by kernel_rfl) (.inl ⟨rfl, exec_binop rfl rfl rfl (run_eqGuard_agg _ .neq 147 _ _ _ _ (by kernel_rfl)) ne1⟩) ?_
              simp only [Act.put, List.setIfInBounds_toArray, List.set_cons_zero, List.set_cons_succ]
              refine wpR_rd 9 #[true, true, true, true, true, true, true, true, true, true, false, false, false, false, false, false, false, false, false, false] rfl onlyN_noPanic (by kernel_rfl) (fun K hK => ?_); (go_simp; try go_bits); refine hK _ ?_; clear hK K
              refine wpR_rd 10 #[true, true, true, true, true, true, true, true, true, true, true, false, false, false, false, false, false, false, false, false] rfl onlyN_noPanic (by kernel_rfl) (fun K hK => ?_); (go_simp; try go_bits); refine hK _ ?_; clear hK K
              refine wpR_rd 11 #[true, true, true, true, true, true, true, true, true, true, true, true, false, false, false, false, false, false, false, false] rfl onlyN_noPanic (by kernel_rfl) (fun K hK => ?_); (go_simp; try go_bits); refine hK _ ?_; clear hK K
              refine wpR_rd 12 #[true, true, true, true, true, true, true, true, true, true, true, true, true, false, false, false, false, false, false, false] rfl onlyN_noPanic (by kernel_rfl) (fun K hK => ?_); (go_simp; try go_bits); refine hK _ ?_; clear hK K
              refine wpR_read (i := 13) #[true, true, true, true, true, true, true, true, true, true, true, true, true, true, false, false, false, false, false, false] rfl onlyN_noPanic (by kernel_rfl) (.inl ⟨rfl, exec_load rfl rfl ld1⟩) ?_
              simp only [Act.put, List.setIfInBounds_toArray, List.set_cons_zero, List.set_cons_succ]
              refine wpR_rd 14 #[true, true, true, true, true, true, true, true, true, true, true, true, true, true, true, false, false, false, false, false] rfl onlyN_noPanic (by kernel_rfl) (fun K hK => ?_); (go_simp; try go_bits); refine hK _ ?_; clear hK K
              refine wpR_rd 15 #[true, true, true, true, true, true, true, true, true, true, true, true, true, true, true, true, false, false, false, false] rfl onlyN_noPanic (by kernel_rfl) (fun K hK => ?_); (go_simp; try go_bits); refine hK _ ?_; clear hK K
              refine wpR_rd 16 #[true, true, true, true, true, true, true, true, true, true, true, true, true, true, true, true, true, false, false, false] rfl onlyN_noPanic (by kernel_rfl) (fun K hK => ?_); (go_simp; try go_bits); refine hK _ ?_; clear hK K
              refine wpR_read (i := 17) #[true, true, true, true, true, true, true, true, true, true, true, true, true, true, true, true, true, true, false, false] rfl onlyN_noPanic (by kernel_rfl) (.inl ⟨rfl, exec_load rfl rfl ld4⟩) ?_
              simp only [Act.put, List.setIfInBounds_toArray, List.set_cons_zero, List.set_cons_succ]
              refine wpR_read (i := 18) #[true, true, true, true, true, true, true, true, true, true, true, true, true, true, true, true, true, true, true, false] rfl onlyN_noPanic (by kernel_rfl) (.inl ⟨rfl, exec_binop rfl rfl rfl (run_eqGuard_agg _ .neq 147 _ _ _ _ (by kernel_rfl)) ne2⟩) ?_
              simp only [Act.put, List.setIfInBounds_toArray, List.set_cons_zero, List.set_cons_succ]
              refine wpR_rd 19 #[true, true, true, true, true, true, true, true, true, true, true, true, true, true, true, true, true, true, true, true] rfl onlyN_noPanic (by kernel_rfl) (fun K hK => ?_); (go_simp; try go_bits); refine hK _ ?_; clear hK K
              refine wpR_done (by kernel_rfl) ?_ _
              simp only [OnlyN]
              go_wp2_with (at_builtin; refine wpList_append_new slSp rfl rfl (by rfl) (by rfl) HR2.out (by rfl) (by rfl) (by unfold maxLen; omega) (by omega) (fun v5 w5 hw5 => ?_); obtain ⟨A5, c5, rfl, -, -⟩ := hw5.row_slice; have HW5 := Aside.mk hw5; clear hw5)
              refine ⟨⟨k + 1, by push_cast; rfl, by omega, ⟨by rw [HSN.out, ← List.append_assoc, List.flatMap_append, List.length_append, ← HLN.out]; exact HW5.out⟩⟩, ?_⟩
              simp only [intOf]
              omega
        · have hkn : k = n := by omega
          subst hkn
          have HT : Aside (Sat E wr (HP.pt g (.mapIter (some m) clock (seen.push e.born) clock) * (HP.row 68 2 u3 (out ++ spotsF (f.name, f.cs)).length ((out ++ spotsF (f.name, f.cs)).flatMap encSpot) * (HP.dk d A.room A.fuse m es clock fs * q)))) := ⟨by
            obtain ⟨hback, hset, -, -⟩ := HC.out
            have e1 : spotsF (f.name, f.cs) = spotsN f.name f.cs k := by unfold spotsF; rw [HN.out.2]
            rw [e1]
            have h8 := hback _ wr f.cels rfl (by rw [hvB, ← HN.out.1]; exact HR.out.perm (by ac_rfl : _ = HP.row 145 1 (.slice B k cc) k (celPtrs f.cels) * (HP.cels f.cels * (R0 * (HP.pt g (.mapIter (some m) clock (seen.push e.born) clock) * (HP.row 68 2 u3 (out ++ spotsN f.name f.cs k).length ((out ++ spotsN f.name f.cs k).flatMap encSpot) * q))))))
            rw [hset] at h8
            exact h8.perm (by ac_rfl)⟩
          have HO2 : Aside (((out ++ spotsF (f.name, f.cs)) ++ leftS es (seen.push e.born) fs).Perm A.damaged) := ⟨by
            rw [List.append_assoc]
            exact ((HC.out.2.2.1.symm).append_left out).trans HO.out⟩
          have HLS : Aside ((leftL es (seen.push e.born)).length < (leftL es seen).length) := ⟨left_less HM.out.2.2.2.2 HC.out.2.2.2⟩
          clear HR HC HFine HN HO
          go_wp2
          go_roundw
          case rel => exact ⟨seen.push e.born, clock, out ++ spotsF (f.name, f.cs), Nat.le_refl _, HO2, HT⟩
          case measure =>
            have h8 := HT.out.get
            rw [h8, HG1.out]
            exact HLS.out
theorem run_string_n {P : Program} {w : World} {src dst e : TypeId} {A : Option Addr} {l : List Int} {n c : Nat} (hn : l.length = n) (hs : P.underlying src = some (.slice e)) (he : P.underlying e = some (.int .u8)) (hd : P.underlying dst = some .string)
    (h : Cells w A (b8s l)) : (convert src dst (.slice A n c)).run P w = .ok (.string (strOf l)) w := by
  subst hn
  exact run_string hs he hd h
theorem strOf_beq {a b : List Int} (ha : Bytes a) (hb : Bytes b) : ((strOf a).toList == (strOf b).toList) = decide (a = b) := by
  by_cases h : a = b
  · subst h; simp
  · have : ¬ (strOf a).toList = (strOf b).toList := fun h2 => h (strOf_inj ha hb (toList_inj h2))
    simp [h, this]
theorem spotsF_append (l : List (ByteArray × List Cel)) {k : Nat} {x : ByteArray × List Cel} (h : l[k]? = some x) : (l.take (k + 1)).flatMap spotsF = (l.take k).flatMap spotsF ++ spotsF x := by
  rw [take_snoc h, List.flatMap_append]; simp
set_option maxHeartbeats 4000000 in
set_option maxRecDepth 100000 in
theorem ref_damaged (E : Env) (q : HP) (y : Nat) (A : Dk) (v : Value) (fs : List RF) (L : List (Value × List Int)) (w : World) (hv : RView A fs L) (hbt : A.Byt) (hw : Sat E w (HP.rdk y A.room A.fuse v fs L * q)) :
    Calls Tryz.prog 89 #[.pointer (some ⟨y, 0, none⟩)] w fun e w' => ∃ x, e = .returned x ∧ Sat E w' (HP.row 68 2 x A.damaged.length (A.damaged.flatMap encSpot) * (HP.rdk y A.room A.fuse v fs L * q)) := by
  obtain ⟨FA, cF, rfl, hcF, hcM⟩ := hw.rdk_parts.s2.row_slice
  have HV := Aside.mk hv
  have HBT := Aside.mk hbt
  clear hv hbt
  obtain ⟨fuse, hfu⟩ : ∃ fuse, fuse = A.fuse := ⟨_, rfl⟩
  obtain ⟨room, hro⟩ : ∃ room, room = A.room := ⟨_, rfl⟩
  rw [← hfu, ← hro] at hw ⊢
  clear hfu hro
  obtain ⟨n, hn⟩ : ∃ n, n = fs.length := ⟨_, rfl⟩
  have hfl := HV.out.flen
  rw [← hn] at hcF hw hfl ⊢
  have HN := Aside.mk hn
  obtain ⟨D, hD⟩ : ∃ D, D = A.damaged := ⟨_, rfl⟩
  rw [← hD]
  have HD := Aside.mk hD
  have c1 := hw.rdk_parts.cell 1
  simp only [List.getElem?_toArray, List.getElem?_cons_zero, List.getElem?_cons_succ] at c1
  have HW := Aside.mk (hw.row_nil 68 2 none)
  clear hn hw hD
  go_enter Tryz.func89, Tryz.ntmps89
  go_wp2
  go_loopw [3, 13] (fun v3 v13 wr => ∃ (k : Nat) (S : List (ByteArray × Int)), k ≤ n ∧ v13 = .int .i64 k ∧ S.length ≤ 100000 * k ∧ Aside (S = (A.files.take k).flatMap spotsF) ∧ Aside (Sat E wr (HP.row 68 2 v3 S.length (S.flatMap encSpot) * (HP.rdk y room fuse (.slice FA n cF) fs L * q)))) (fun _ i _ => n - (intOf i).toNat)
  case atStart => exact ⟨0, [], Nat.zero_le _, rfl, Nat.zero_le _, ⟨by simp⟩, HW⟩
  case round =>
    clear HW c1
    obtain ⟨k, S, hk, rfl, hSl, HSS, HS⟩ := hrel
    by_cases hlt : k < n
    · have hlt2 : (k : Int) < (n : Int) := by omega
      have h0 : (0 : Int) ≤ (k : Int) := by omega
      obtain ⟨f, hf⟩ : ∃ f, fs[k]? = some f := ⟨_, List.getElem?_eq_getElem (by rw [← HN.out]; exact hlt)⟩
      obtain ⟨g, o, VA, VC, rfl, hval, hvc, g0, g1⟩ := HS.out.right.rf_at HN.out hf
      have hkA : A.files[k]? = some (f.name, f.cs.map (·.c)) := by rw [← HV.out.same, List.getElem?_map, hf]; rfl
      have hvs : f.cs.length ≤ 100000 := by
        have := at_small HV.out.fine f.name
        have e : A.at f.name = f.cs.map (·.c) := by unfold Dk.at; rw [lk_first HV.out.fine.sorted hkA]; rfl
        rw [e, List.length_map] at this
        exact this
      obtain ⟨vn, hvn⟩ : ∃ vn, vn = f.cs.length := ⟨_, rfl⟩
      obtain ⟨fn, hfn⟩ : ∃ fn, fn = f.name := ⟨_, rfl⟩
      rw [← hvn] at g1 hval hvs
      rw [← hfn] at g0
      have HB := Aside.mk (HS.out.alloc (.cells #[.string fn, .slice VA vn VC] 174))
      have HF := Aside.mk (And.intro hf (And.intro hval (And.intro hvn (And.intro hfn hkA))))
      obtain ⟨BF, hBF⟩ : ∃ BF, BF = wr.heap.size := ⟨_, rfl⟩
      rw [← hBF] at HB
      have b0 := HB.out.cell 0
      have b1 := HB.out.cell 1
      clear hf hvn hfn hkA hval
      have HBF := Aside.mk hBF
      clear hBF b0 b1
      go_wp2
      rw [← HBF.out]
      clear g0 g1
      generalize World.alloc wr _ = wb at *
      obtain ⟨l, hl⟩ : ∃ l, l = f.cs.map (·.c) := ⟨_, rfl⟩
      have HL := Aside.mk hl
      clear hl
      go_loopw [3, 20] (fun v3 v20 wi => ∃ (i : Nat) (S2 : List (ByteArray × Int)), i ≤ vn ∧ v20 = .int .i64 i ∧ S2.length ≤ 100000 * k + i ∧ Aside (S2 = S ++ spotsN fn l i) ∧ Aside (Sat E wi (HP.pt BF (.cells #[.string fn, .slice VA vn VC] 174) * (HP.row 68 2 v3 S2.length (S2.flatMap encSpot) * (HP.rdk y room fuse (.slice (some ⟨g, o, none⟩) n cF) fs L * q))))) (fun _ i _ => vn - (intOf i).toNat)
      case atStart => exact ⟨0, S, Nat.zero_le _, rfl, by omega, ⟨by simp [spotsN]⟩, HB⟩
      case round =>
        clear HB HS
        obtain ⟨i, S2, hi, rfl, hS2, HS2, HI⟩ := hrel
        by_cases hil : i < vn
        · have hil2 : (i : Int) < (vn : Int) := by omega
          have hi0 : (0 : Int) ≤ (i : Int) := by omega
          obtain ⟨x, hx⟩ : ∃ x, f.cs[i]? = some x := ⟨_, List.getElem?_eq_getElem (by rw [← HF.out.2.2.1]; exact hil)⟩
          have hrd := HI.out.right.right
          obtain ⟨gc, oc, rfl, x0, x1, x2, x3, x4⟩ := hrd.rc_at HF.out.1 HF.out.2.1 hx
          have hin := HV.out.imgs f (List.mem_of_getElem? HF.out.1) x (List.mem_of_getElem? hx)
          have hm : (f.name, f.cs.map (·.c)) ∈ A.files := by rw [← HV.out.same]; exact List.mem_map.2 ⟨f, List.mem_of_getElem? HF.out.1, rfl⟩
          have hxm : x.c ∈ f.cs.map (·.c) := List.mem_map.2 ⟨x, List.mem_of_getElem? hx, rfl⟩
          have hfin := HV.out.fine.cels _ hm x.c hxm
          have hby := HBT.out _ hm x.c hxm
          obtain ⟨A0, c0, e0, -, -, -⟩ := hrd.rdk_imgs.img hin.1
          obtain ⟨A1, c1, e1, -, -, -⟩ := hrd.rdk_imgs.img hin.2.1
          obtain ⟨A2, c2, e2, -, -, -⟩ := hrd.rdk_imgs.img hin.2.2.1
          obtain ⟨A3, c3, e3, -, -, -⟩ := hrd.rdk_imgs.img hin.2.2.2
          rw [e0] at x0
          rw [e1] at x1
          rw [e2] at x2
          rw [e3] at x3
          have hB := HI.out.alloc (.cells #[.slice A0 128 c0, .slice A1 128 c1, .slice A2 128 c2, .slice A3 128 c3, .bool x.c.waits] 176)
          have y1 := run_string_n (P := Tryz.prog) (c := c1) hfin.2.1 Tryz.underlying43 Tryz.underlying5 Tryz.underlying9 (hB.right.right.right.rdk_imgs.img_cells (by rw [← e1]; exact hin.2.1))
          have y2 := run_string_n (P := Tryz.prog) (c := c2) hfin.2.2.1 Tryz.underlying43 Tryz.underlying5 Tryz.underlying9 (hB.right.right.right.rdk_imgs.img_cells (by rw [← e2]; exact hin.2.2.1))
          have y3 := run_string_n (P := Tryz.prog) (c := c3) hfin.2.2.2 Tryz.underlying43 Tryz.underlying5 Tryz.underlying9 (hB.right.right.right.rdk_imgs.img_cells (by rw [← e3]; exact hin.2.2.2))
          have q12 := strOf_beq hby.2.1 hby.2.2.1
          have q13 := strOf_beq hby.2.1 hby.2.2.2
          have HB := Aside.mk hB.right
          have hli : l[i]? = some x.c := by rw [HL.out, List.getElem?_map, hx]; rfl
          have hsp : spotsN fn l (i + 1) = spotsN fn l i ++ if x.c.bad = true then [(fn, (i : Int))] else [] := by
            rw [spotsN, hli]; rfl
          have HSP := Aside.mk hsp
          have HBAD : Aside (x.c.bad = (!decide (x.c.durable = x.c.synced) && !decide (x.c.durable = x.c.written))) := ⟨by simp [Cel.bad]⟩
          have bf := HI.out.cell 0
          clear hin hm hxm hfin hby e0 e1 e2 e3 hB hrd hx hli hsp
          obtain ⟨d1, hd1⟩ : ∃ d1, d1 = decide (x.c.durable = x.c.synced) := ⟨_, rfl⟩
          obtain ⟨d2, hd2⟩ : ∃ d2, d2 = decide (x.c.durable = x.c.written) := ⟨_, rfl⟩
          rw [← hd1] at q12 HBAD
          rw [← hd2] at q13 HBAD
          clear hd1 hd2
          generalize strOf x.c.durable = s1 at *
          generalize strOf x.c.synced = s2 at *
          generalize strOf x.c.written = s3 at *
          have b0 := HB.out.cell 0
          simp only [List.getElem?_toArray, List.getElem?_cons_zero, List.getElem?_cons_succ] at b0
          obtain ⟨B3, c3b, hu3, -, -⟩ := HI.out.right.row_slice
          subst hu3
          obtain ⟨sn, hsn⟩ : ∃ sn, sn = S2.length := ⟨_, rfl⟩
          rw [← hsn] at HB hS2 ⊢
          have HSN := Aside.mk hsn
          clear hsn bf HI
          by_cases hd : d1 = false ∧ d2 = false
          · obtain ⟨rfl, rfl⟩ := hd
            have hS3 : S ++ spotsN fn l (i + 1) = S2 ++ [(fn, (i : Int))] := by rw [HSP.out, HBAD.out, HS2.out]; simp
            have HS3 := Aside.mk hS3
            clear hS3
            go_wp2_with (at_builtin; refine wpList_append_new slSp rfl rfl (by rfl) (by rw [alloc_size]; rfl) HB.out.s2 (by rfl) (by rfl) (by unfold maxLen; omega) (by omega) (fun v5 w5 hw5 => ?_); obtain ⟨A5, c5, rfl, -, -⟩ := hw5.row_slice; have HW5 := Aside.mk hw5.s2; clear hw5)
            go_roundw
            case rel => exact ⟨i + 1, S2 ++ [(fn, (i : Int))], by omega, by go_num, by rw [List.length_append, ← HSN.out]; simp; omega, ⟨HS3.out.symm⟩, ⟨by rw [List.length_append, ← HSN.out, List.flatMap_append]; exact HW5.out⟩⟩
            case measure => simp [intOf]; omega
          · have hbad : x.c.bad = false := by
              rw [HBAD.out]
              cases d1 <;> cases d2 <;> simp at hd ⊢
            have HS3 : Aside (S2 = S ++ spotsN fn l (i + 1)) := ⟨by rw [HSP.out, hbad, HS2.out]; simp⟩
            clear hbad
            cases d1 <;> cases d2
            · exact absurd ⟨rfl, rfl⟩ hd
            all_goals
              clear hd
              go_wp2
              go_roundw
              case rel => exact ⟨i + 1, S2, by omega, by go_num, by rw [← HSN.out]; omega, HS3, ⟨by rw [← HSN.out]; exact HB.out⟩⟩
              case measure => simp [intOf]; omega
        · obtain rfl : i = vn := by omega
          have hS3 : S2 = (A.files.take (k + 1)).flatMap spotsF := by
            rw [spotsF_append _ HF.out.2.2.2.2, ← HSS.out, HS2.out]
            unfold spotsF
            rw [List.length_map, ← HF.out.2.2.1, HF.out.2.2.2.1, HL.out]
          have HS3 := Aside.mk hS3
          have HI2 := Aside.mk HI.out.right
          clear hS3 HI
          go_wp2
          go_roundw
          case rel => exact ⟨k + 1, S2, by omega, by go_num, by omega, HS3, HI2⟩
          case measure => simp [intOf]; omega
    · obtain rfl : k = n := by omega
      go_wp2
      go_ret
      refine ⟨_, rfl, ?_⟩
      have h := HS.out
      have e : S = D := by
        rw [HSS.out, HD.out, List.take_of_length_le (by rw [← HV.out.len, ← HN.out]; exact Nat.le_refl _)]
        rfl
      rw [e] at h
      exact h
end Go.Proofs.YtnpinegpajbkeaaGreatDoor
namespace Go.Proofs.YtnpinegpajbkeaaGreatDoor
open Go.RowKit HP
section
variable (E : Env) (q : HP) (y : Nat) (A : Dk) (name : ByteArray) (i : Int) (w : World) (hw : Sat E w (HP.rdisk y A * q))
include hw
theorem rdisk_extents : Calls Tryz.prog 75 #[.pointer (some ⟨y, 0, none⟩), .string name] w fun e w' => e = .returned (.int .i64 ((A.at name).length : Int)) ∧ Sat E w' (HP.rdisk y A * q) := by
  obtain ⟨v, fs, L, hv, hk⟩ := hw.rdisk_open
  exact (ref_extents E q y A v fs L name w hv hk).mono fun e w' h => ⟨h.1, Sat.rdisk_close hv h.2⟩
theorem rdisk_free : Calls Tryz.prog 87 #[.pointer (some ⟨y, 0, none⟩)] w fun e w' => e = .returned (.int .i64 A.free) ∧ Sat E w' (HP.rdisk y A * q) := by
  obtain ⟨v, fs, L, hv, hk⟩ := hw.rdisk_open
  exact (ref_free E q y A v fs L w hv hk).mono fun e w' h => ⟨h.1, Sat.rdisk_close hv h.2⟩
theorem rdisk_list : Calls Tryz.prog 84 #[.pointer (some ⟨y, 0, none⟩)] w fun e w' => ∃ x, e = .returned x ∧ Sat E w' (HP.row 9 1 x A.files.length (namesV A) * (HP.rdisk y A * q)) := by
  obtain ⟨v, fs, L, hv, hk⟩ := hw.rdisk_open
  exact (ref_list E q y A v fs L w hv hk).mono fun e w' ⟨x, h1, h2⟩ => ⟨x, h1, (Sat.rdisk_close (q := HP.row 9 1 x A.files.length (namesV A) * q) hv (h2.perm (HP.left_comm _ _ _))).perm (HP.left_comm _ _ _)⟩
theorem rdisk_damaged (hbt : A.Byt) : Calls Tryz.prog 89 #[.pointer (some ⟨y, 0, none⟩)] w fun e w' => ∃ x, e = .returned x ∧ Sat E w' (HP.row 68 2 x A.damaged.length (A.damaged.flatMap encSpot) * (HP.rdisk y A * q)) := by
  obtain ⟨v, fs, L, hv, hk⟩ := hw.rdisk_open
  exact (ref_damaged E q y A v fs L w hv hbt hk).mono fun e w' ⟨x, h1, h2⟩ => ⟨x, h1, (Sat.rdisk_close (q := HP.row 68 2 x A.damaged.length (A.damaged.flatMap encSpot) * q) hv (h2.perm (HP.left_comm _ _ _))).perm (HP.left_comm _ _ _)⟩
theorem rdisk_read : Calls Tryz.prog 90 #[.pointer (some ⟨y, 0, none⟩), .string name, .int .i64 i] w (readEnd E (HP.rdisk y A * q) (A.cel name i)) := by
  obtain ⟨v, fs, L, hv, hk⟩ := hw.rdisk_open
  refine (ref_read E q y A v fs L name i w hv hk).mono fun e w' h => ?_
  unfold readEnd at h ⊢
  cases hc : A.cel name i with
  | none => rw [hc] at h; exact ⟨h.1, Sat.rdisk_close hv h.2⟩
  | some c =>
    rw [hc] at h
    obtain ⟨x, h1, h2⟩ := h
    exact ⟨x, h1, (Sat.rdisk_close (q := HP.row 5 1 x 128 (b8s c.read) * q) hv (h2.perm (HP.left_comm _ _ _))).perm (HP.left_comm _ _ _)⟩
end
end Go.Proofs.YtnpinegpajbkeaaGreatDoor
namespace Go.Proofs.YtnpinegpajbkeaaGreatDoor
open Go.RowKit HP
set_option maxHeartbeats 1000000 in
set_option maxRecDepth 100000 in
theorem ref_halves (E : Env) (q : HP) (name : ByteArray) (w : World) (hn : name.size + 2 ≤ maxLen) (hw : Sat E w q) :
    Calls Tryz.prog 128 #[.string name] w fun e w' => ∃ g, e = .returned (.slice (some ⟨g, 0, none⟩) 2 2) ∧ Sat E w' (HP.pt g (.cells #[.string (name ++ dotA), .string (name ++ dotB)] 9) * q) := by
  have hn2 : name.size + 2 ≤ 9223372036854775807 := by unfold maxLen at hn; omega
  have H1 := Aside.mk (hw.alloc (.cells #[.string (name ++ dotA), .string (name ++ dotB)] 9))
  unfold dotA dotB at *
  clear hw
  go_enter Tryz.func128, Tryz.ntmps128
  go_wp2
  go_ret
  exact ⟨_, rfl, H1.out⟩
set_option maxHeartbeats 1000000 in
set_option maxRecDepth 100000 in
theorem ref6_files (E : Env) (q : HP) (name : ByteArray) (w : World) (hn : name.size + 2 ≤ maxLen) (hw : Sat E w q) :
    Calls Tryz.prog 65 #[.string name] w fun e w' => ∃ g, e = .returned (.slice (some ⟨g, 0, none⟩) 4 4) ∧ Sat E w' (HP.pt g (.cells #[.string (name ++ dot0), .string (name ++ dot1), .string (name ++ dot2), .string (name ++ dotP)] 9) * q) := by
  have hn2 : name.size + 2 ≤ 9223372036854775807 := by unfold maxLen at hn; omega
  have H1 := Aside.mk (hw.alloc (.cells #[.string (name ++ dot0), .string (name ++ dot1), .string (name ++ dot2), .string (name ++ dotP)] 9))
  unfold dot0 dot1 dot2 dotP at *
  clear hw
  go_enter Tryz.func65, Tryz.ntmps65
  go_wp2
  go_ret
  exact ⟨_, rfl, H1.out⟩
set_option maxHeartbeats 2000000 in
set_option maxRecDepth 100000 in
theorem ref6_slot (E : Env) (q : HP) (A : Option Addr) (p : List Int) (n c : Nat) (w : World) (hpn : p.length = n) (hn : n ≤ 105) (hnc : n ≤ c) (hq : ∀ w, Sat E w q → Cells w A (b8s p)) (hw : Sat E w q) :
    Calls Tryz.prog 116 #[.slice A n c] w fun e w' => ∃ v, e = .returned v ∧ Sat E w' (HP.row 5 1 v 106 (b8s (slotI p)) * q) := by
  have hwr : (n : Int) % 256 = n := by omega
  have H1 : Aside (Sat E (w.alloc (.cells #[.int .u8 (n : Int)] 5)) (HP.row 5 1 (.slice (some ⟨w.heap.size, 0, none⟩) 1 1) 1 (b8s [(n : Int)]) * q)) := ⟨(hw.alloc (.cells #[.int .u8 (n : Int)] 5)).row_mk (off := 0) (Nat.le_refl _) (by unfold maxLen; omega) (by simp) (by rfl)⟩
  have HC : Aside (Cells (w.alloc (.cells #[.int .u8 (n : Int)] 5)) A (b8s p) ∧ (b8s p).length = n * 1) := ⟨hq _ H1.out.right, by rw [b8s_length, hpn, Nat.mul_one]⟩
  have HP0 := Aside.mk hpn
  clear hw hq hpn
  go_enter Tryz.func116, Tryz.ntmps116
  go_wp2_with (at_builtin; refine wpList_append_row slB8 rfl rfl (by rfl) (by rfl) H1.out HC.out.1 HC.out.2 (b8s_one _) (by unfold maxLen; omega) (by omega) (fun v3 w3 hw3 => ?_); obtain ⟨A3, c3, rfl, -, -⟩ := hw3.row_slice; have HW3 := Aside.mk hw3; clear hw3)
  have HI : Aside (Sat E w3 (HP.row 5 1 (.slice A3 (1 + n) c3) (1 + n) (b8s ([(n : Int)] ++ p ++ List.replicate 0 0)) * q)) := ⟨by
    rw [List.replicate_zero, List.append_nil, b8s_append]
    exact HW3.out⟩
  clear HW3 H1 HC
  go_loopw [3] (fun v3 wr => ∃ (j : Nat) (A : Option Addr) (c m : Nat), v3 = .slice A m c ∧ m ≤ 106 ∧ Aside (m = 1 + n + j) ∧ Aside (Sat E wr (HP.row 5 1 (.slice A m c) m (b8s ([(n : Int)] ++ p ++ List.replicate j 0)) * q))) (fun v _ => 106 - sliceLenT v)
  case atStart => exact ⟨0, A3, c3, 1 + n, rfl, by omega, ⟨rfl⟩, HI⟩
  case round =>
    clear HI
    obtain ⟨j, A, c, m, rfl, hm, HM, HS⟩ := hrel
    by_cases hlt : m < 106
    · have hlt2 : (m : Int) < 106 := by omega
      go_wp2_with (at_builtin; (refine wpList_append_new slB8 rfl rfl (by rfl) (by rfl) HS.out rfl rfl (by unfold maxLen; omega) (by omega) (fun v6 w6 hw6 => ?_); obtain ⟨A6, c6, rfl, -, -⟩ := hw6.row_slice; have HW6 := Aside.mk hw6; clear hw6))
      have H6 : Aside (Sat E w6 (HP.row 5 1 (.slice A6 (m + 1) c6) (m + 1) (b8s ([(n : Int)] ++ p ++ List.replicate (j + 1) 0)) * q)) := ⟨by
        have h := HW6.out
        rw [List.replicate_succ', ← List.append_assoc, b8s_append]
        exact h⟩
      have HM2 : Aside (m + 1 = 1 + n + (j + 1)) := ⟨by rw [HM.out]; omega⟩
      clear HW6 HS HM
      go_roundw
      case rel => exact ⟨j + 1, A6, c6, m + 1, by push_cast; rfl, by omega, HM2, H6⟩
      case measure => simp [sliceLenT]; omega
    · obtain rfl : m = 106 := by omega
      have HE : Aside ([(n : Int)] ++ p ++ List.replicate j 0 = slotI p) := ⟨by
        have := HM.out
        unfold slotI
        rw [HP0.out, show 105 - n = j by omega]
        simp⟩
      rw [HE.out] at HS
      clear HE HM
      go_wp2
      go_ret
      exact ⟨_, rfl, HS.out⟩
def xorLs (ls : List (List Int)) : List Int := ls.foldl zipX (List.replicate 106 0)
theorem foldX_length : ∀ (ls : List (List Int)) (a : List Int), a.length = 106 → (∀ s ∈ ls, s.length = 106) → (ls.foldl zipX a).length = 106
  | [], a, h, _ => h
  | s :: ls, a, h, hs => by
    rw [List.foldl_cons]
    exact foldX_length ls _ (by rw [zipX_length, h, hs s (List.mem_cons_self ..)]; omega) fun x hx => hs x (List.mem_cons_of_mem _ hx)
theorem mixN_succ (L O : List Int) (i : Nat) : mixN L 0 O (i + 1) = (mixN L 0 O i).set i (xorB (L.getD i 0) (O.getD i 0)) := by
  rw [mixN, Nat.zero_add]
set_option maxHeartbeats 4000000 in
set_option maxRecDepth 100000 in
theorem ref6_xor (E : Env) (q : HP) (V : Option Addr) (ss : List (Sl Int)) (n c : Nat) (w : World) (hn : ss.length = n) (hn4 : n ≤ 4) (hlen : ∀ s ∈ ss, s.l.length = 106) (hq : ∀ w, Sat E w q → Cells w V (ss.map Sl.val8) ∧ ∀ s ∈ ss, Cells w s.A (b8s s.l)) (hw : Sat E w q) :
    Calls Tryz.prog 115 #[.slice V n c] w fun e w' => ∃ v, e = .returned v ∧ Sat E w' (HP.row 5 1 v 106 (b8s (xorLs (ss.map (·.l)))) * q) := by
  have HW := Aside.mk hw
  have HQ := Aside.mk (And.intro hq (And.intro hlen hn))
  clear hw hq hlen hn
  go_enter Tryz.func115, Tryz.ntmps115
  go_wp2_with ((refine wpList_make_row (n := 106) slB8 rfl rfl rfl rfl rfl HW.out (by unfold maxLen; omega) (by omega) (fun g w2 hw2 => ?_); have HW2 := Aside.mk hw2; clear hw2))
  have HI : Aside (Sat E w2 (HP.row 5 1 (.slice (some ⟨g, 0, none⟩) 106 106) 106 (b8s (xorLs ((ss.map (·.l)).take 0))) * q)) := ⟨by
    have h := HW2.out
    have e : b8s (xorLs ((ss.map (·.l)).take 0)) = List.replicate 106 (Value.int .u8 0) := by
      rw [List.take_zero]
      unfold xorLs b8s
      rw [List.foldl_nil, List.map_replicate]
    rw [e]
    exact h⟩
  clear HW2 HW
  go_loopw [10] (fun v10 wr => ∃ k : Nat, v10 = .int .i64 k ∧ k ≤ n ∧ Aside (Sat E wr (HP.row 5 1 (.slice (some ⟨g, 0, none⟩) 106 106) 106 (b8s (xorLs ((ss.map (·.l)).take k))) * q))) (fun x _ => n - (intOf x).toNat)
  case atStart => exact ⟨0, rfl, Nat.zero_le _, HI⟩
  case round =>
    clear HI
    obtain ⟨k, rfl, hk, HS⟩ := hrel
    by_cases hkn : k < n
    · have hks : k < ss.length := by rw [HQ.out.2.2]; exact hkn
      obtain ⟨ap, rfl, hcx⟩ := (HQ.out.1 _ HS.out.right).1.at_ k (by rw [List.length_map]; exact hks)
      rw [List.getElem_map] at hcx
      obtain ⟨s, hs⟩ : ∃ s, s = ss[k] := ⟨_, rfl⟩
      have hsm : s ∈ ss := by rw [hs]; exact List.getElem_mem hks
      rw [← hs] at hcx
      have hsl := HQ.out.2.1 s hsm
      have hXl : (xorLs ((ss.map (·.l)).take k)).length = 106 := foldX_length _ _ (List.length_replicate ..) fun x hx => by
        obtain ⟨s', hs', rfl⟩ := List.mem_map.1 (List.mem_of_mem_take hx)
        exact HQ.out.2.1 s' hs'
      have HNX : Aside (xorLs ((ss.map (·.l)).take (k + 1)) = zipX (xorLs ((ss.map (·.l)).take k)) s.l) := ⟨by
        have e : (ss.map (·.l)).take (k + 1) = (ss.map (·.l)).take k ++ [s.l] := by
          rw [List.take_add_one, List.getElem?_map, List.getElem?_eq_getElem hks, ← hs]
          rfl
        rw [e]
        unfold xorLs
        rw [List.foldl_append]
        rfl⟩
      unfold Sl.val8 at hcx
      rw [hsl] at hcx
      have HSC : Aside (∀ w, Sat E w q → Cells w s.A (b8s s.l)) := ⟨fun w h => (HQ.out.1 w h).2 s hsm⟩
      obtain ⟨gs, os, hsA⟩ : ∃ gs os, s.A = some ⟨gs, os, none⟩ := by
        have h1 := HSC.out _ HS.out.right
        obtain ⟨a, ha, -⟩ := h1.at_ 0 (by rw [b8s_length, hsl]; omega)
        obtain ⟨gs, os, rfl⟩ := slice_addr h1 ha (k := 0) (by rw [b8s_length, hsl]; omega)
        exact ⟨gs, os, ha⟩
      obtain ⟨O, hO⟩ : ∃ O, O = s.l := ⟨_, rfl⟩
      obtain ⟨X, hX⟩ : ∃ X, X = xorLs ((ss.map (·.l)).take k) := ⟨_, rfl⟩
      rw [← hO] at hsl HNX HSC
      rw [← hX] at hXl HNX HS
      rw [hsA] at hcx HSC
      have HL := Aside.mk (And.intro hsl hXl)
      have hkn2 : (k : Int) < n := by omega
      clear hs hsm hsl hXl hX hO hsA hks
      go_wp2
      obtain ⟨wo, hwo⟩ : ∃ wo : World, wo = wr := ⟨_, rfl⟩
      have HI2 : Aside (Sat E wr (HP.row 5 1 (.slice (some ⟨g, 0, none⟩) 106 106) 106 (b8s (mixN X 0 O 0)) * q)) := HS
      go_loopw [16] (fun v16 wi => ∃ i : Nat, v16 = .int .i64 i ∧ i ≤ 106 ∧ Aside (Sat E wi (HP.row 5 1 (.slice (some ⟨g, 0, none⟩) 106 106) 106 (b8s (mixN X 0 O i)) * q))) (fun x _ => 106 - (intOf x).toNat)
      case atStart => exact ⟨0, rfl, Nat.zero_le _, HI2⟩
      case round =>
        clear HI2
        obtain ⟨i, rfl, hi, HT⟩ := hrel
        by_cases hi6 : i < 106
        · have hi7 : (i : Int) < 106 := by omega
          have hi8 : (0 : Int) ≤ (i : Int) := by omega
          have hT := HT.out.drew
          have hml : (b8s (mixN X 0 O i)).length = 106 := by rw [b8s_length, mixN_length]; exact HL.out.2
          have gc : wr.drew.cell? ⟨g, 0 + i, none⟩ = some (.int .u8 (X.getD i 0)) := by
            refine hT.row_cell i _ ?_
            unfold b8s
            rw [List.getElem?_map, mixN_ge X 0 O i i (by omega), List.getElem?_eq_getElem (by rw [HL.out.2]; exact hi6), List.getD_eq_getElem?_getD, List.getElem?_eq_getElem (by rw [HL.out.2]; exact hi6)]
            rfl
          have gs2 : wr.drew.cell? ⟨gs, os + i, none⟩ = some (.int .u8 (O.getD i 0)) := by
            have h1 := (HSC.out _ hT.right).some_ i (.int .u8 (O.getD i 0)) (by
              unfold b8s
              rw [List.getElem?_map, List.getElem?_eq_getElem (by rw [HL.out.1]; exact hi6), List.getD_eq_getElem?_getD, List.getElem?_eq_getElem (by rw [HL.out.1]; exact hi6)]
              rfl)
            rwa [addr_add] at h1
          have gf : wr.drew.frozen? ⟨g, 0 + i, none⟩ = false := hT.row_thaw i (by rw [hml]; exact hi6)
          have H2 : Aside (Sat E (wr.drew.setCell ⟨g, 0 + i, none⟩ (.int .u8 (xorB (X.getD i 0) (O.getD i 0)))) (HP.row 5 1 (.slice (some ⟨g, 0, none⟩) 106 106) 106 (b8s (mixN X 0 O (i + 1))) * q)) := ⟨by
            have h := hT.row_set i (by rw [hml]; exact hi6) (.int .u8 (xorB (X.getD i 0) (O.getD i 0)))
            have e : (b8s (mixN X 0 O i)).set i (.int .u8 (xorB (X.getD i 0) (O.getD i 0))) = b8s (mixN X 0 O (i + 1)) := by
              rw [mixN_succ]
              unfold b8s
              rw [List.map_set]
            rw [e] at h
            exact h⟩
          rw [Nat.zero_add] at gc gf H2
          clear HT hT hml
          generalize X.getD i 0 = x at *
          generalize O.getD i 0 = y at *
          unfold xorB at H2
          go_wp2
          refine region_R [12] [] (fun _ => True) #[false, false, false, false, false, false, false, false, false, false, false, false, false] (by kernel_rfl) rfl rfl ?_
          refine wpR_rd 0 #[true, false, false, false, false, false, false, false, false, false, false, false, false] rfl onlyN_noPanic (by kernel_rfl) (fun K hK => ?_); (go_simp; try go_bits); refine hK _ ?_; clear hK K
          refine wpR_rd 1 #[true, true, false, false, false, false, false, false, false, false, false, false, false] rfl onlyN_noPanic (by kernel_rfl) (fun K hK => ?_); (go_simp; try go_bits); refine hK _ ?_; clear hK K
          refine wpR_rd 2 #[true, true, true, false, false, false, false, false, false, false, false, false, false] rfl onlyN_noPanic (by kernel_rfl) (fun K hK => ?_); (go_simp; try go_bits); refine hK _ ?_; clear hK K
          refine wpR_rd 3 #[true, true, true, true, false, false, false, false, false, false, false, false, false] rfl onlyN_noPanic (by kernel_rfl) (fun K hK => ?_); (go_simp; try go_bits); refine hK _ ?_; clear hK K
          refine wpR_rd 4 #[true, true, true, true, true, false, false, false, false, false, false, false, false] rfl onlyN_noPanic (by kernel_rfl) (fun K hK => ?_); (go_simp; try go_bits); refine hK _ ?_; clear hK K
          refine wpR_rd 5 #[true, true, true, true, true, true, false, false, false, false, false, false, false] rfl onlyN_noPanic (by kernel_rfl) (fun K hK => ?_); (go_simp; try go_bits); refine hK _ ?_; clear hK K
          refine wpR_rd 6 #[true, true, true, true, true, true, true, false, false, false, false, false, false] rfl onlyN_noPanic (by kernel_rfl) (fun K hK => ?_); (go_simp; try go_bits); refine hK _ ?_; clear hK K
          refine wpR_rd 7 #[true, true, true, true, true, true, true, true, false, false, false, false, false] rfl onlyN_noPanic (by kernel_rfl) (fun K hK => ?_); (go_simp; try go_bits); refine hK _ ?_; clear hK K
          refine wpR_rd 8 #[true, true, true, true, true, true, true, true, true, false, false, false, false] rfl onlyN_noPanic (by kernel_rfl) (fun K hK => ?_); (go_simp; try go_bits); refine hK _ ?_; clear hK K
          refine wpR_rd 9 #[true, true, true, true, true, true, true, true, true, true, false, false, false] rfl onlyN_noPanic (by kernel_rfl) (fun K hK => ?_); (go_simp; try go_bits); refine hK _ ?_; clear hK K
          refine wpR_rd 10 #[true, true, true, true, true, true, true, true, true, true, true, false, false] rfl onlyN_noPanic (by kernel_rfl) (fun K hK => ?_); (go_simp; try go_bits); refine hK _ ?_; clear hK K
          refine wpR_rd 11 #[true, true, true, true, true, true, true, true, true, true, true, true, false] rfl onlyN_noPanic (by kernel_rfl) (fun K hK => ?_); (go_simp; try go_bits); refine hK _ ?_; clear hK K
          refine wpR_eff #[true, true, true, true, true, true, true, true, true, true, true, true, true] (i := 12) rfl (by kernel_rfl) (fun K hK => ?_)
          go_simp; refine hK _ _ ?_; clear hK K
          refine wpR_done (by kernel_rfl) ?_ _
          simp only [OnlyN]
          go_wp2
          go_roundw
          case rel => exact ⟨i + 1, by push_cast; rfl, by omega, H2⟩
          case measure => simp [intOf]; omega
        · obtain rfl : i = 106 := by omega
          have H3 : Aside (Sat E wr (HP.row 5 1 (.slice (some ⟨g, 0, none⟩) 106 106) 106 (b8s (xorLs ((ss.map (·.l)).take (k + 1)))) * q)) := ⟨by
            rw [HNX.out, ← mix_zip HL.out.2 HL.out.1]
            exact HT.out⟩
          clear HT
          go_wp2
          go_roundw
          case rel => exact ⟨k + 1, by push_cast; rfl, by omega, H3⟩
          case measure => simp [intOf]; omega
    · obtain rfl : k = n := by omega
      have HE : Aside ((ss.map (·.l)).take k = ss.map (·.l)) := ⟨List.take_of_length_le (by rw [List.length_map, HQ.out.2.2]; exact Nat.le_refl _)⟩
      rw [HE.out] at HS
      go_wp2
      go_ret
      exact ⟨_, rfl, HS.out⟩
theorem rdisk_any (E : Env) (q : HP) (y : Nat) (A : Dk) (f : ByteArray) (i : Int) (w : World) (hby : ∀ c, A.cel f i = some c → Bytes c.read) (hw : Sat E w (HP.rdisk y A * q)) :
    Calls Tryz.prog 90 #[.pointer (some ⟨y, 0, none⟩), .string f, .int .i64 i] w fun e w' => ∃ (Ar : Option Addr) (nr cr : Nat) (er : Int) (X : HP), e = .returned (.tuple #[.slice Ar nr cr, .int .i64 er]) ∧ (readO A f i).length = nr ∧ nr ≤ cr ∧ cr ≤ maxLen ∧ Bytes (readO A f i) ∧ (∀ E w q', Sat E w (X * q') → Cells w Ar (b8s (readO A f i))) ∧ Sat E w' (X * (HP.rdisk y A * q)) := by
  refine (rdisk_read E q y A f i w hw).mono fun e w' h => ?_
  unfold readEnd at h
  cases hc : A.cel f i with
  | none =>
    rw [hc] at h
    rw [readO_of_none hc]
    exact ⟨none, 0, 0, 30, HP.emp, h.1, rfl, Nat.le_refl _, Nat.zero_le _, (fun x hx => by cases hx), fun _ _ _ _ => Cells.nil _ _, h.2.emp_intro⟩
  | some c =>
    rw [hc] at h
    obtain ⟨v, h1, h2⟩ := h
    obtain ⟨Ar, cr, rfl, h3, h4⟩ := h2.row_slice
    rw [readO_of_some hc]
    have hl := h2.row_cases.1
    rw [b8s_length] at hl
    exact ⟨Ar, 128, cr, 0, _, h1, hl, h3, h4, hby c hc, fun _ _ _ h => h.row_cells, h2⟩
theorem openI_nil (f : ByteArray) (i : Int) : openI [] f i = none := by
  unfold openI
  rw [if_pos (.inl (by decide))]
theorem getF_readO (A : Dk) (i : Int) (st : Int × List Int) (f : ByteArray) : getF A i st f = match openI (readO A f i) f i with
    | none => st
    | some x => if (x.2 : Int) ≤ st.1 then st else ((x.2 : Int), x.1) := by
  unfold getF
  cases hc : A.cel f i with
  | none => simp only [readO_of_none hc, openI_nil]
  | some c =>
    simp only [readO_of_some hc]
    cases openI c.read f i <;> rfl
set_option maxHeartbeats 4000000 in
set_option maxRecDepth 100000 in
theorem ref_getp (E : Env) (q : HP) (y : Nat) (A : Dk) (name : ByteArray) (i : Int) (w : World) (hname : name.size + 2 ≤ maxLen) (hby : ∀ f ∈ halvesL name, ∀ c, A.cel f i = some c → Bytes c.read) (hw : Sat E w (HP.rdisk y A * q)) :
    Calls Tryz.prog 133 #[.pointer (some ⟨y, 0, none⟩), .string name, .int .i64 i] w fun e w' => ∃ v, e = getEnd (getP A name i) v ∧ Sat E w' (HP.row 5 1 v (getP A name i).2.length (b8s (getP A name i).2) * (HP.rdisk y A * q)) := by
  have hfa : (name ++ dotA).size ≤ maxLen := by rw [dotA_size]; exact hname
  have hfb : (name ++ dotB).size ≤ maxLen := by rw [dotB_size]; exact hname
  have HF : Aside (halvesL name = [name ++ dotA, name ++ dotB]) := ⟨rfl⟩
  have HQ := Aside.mk (And.intro hby hw)
  clear hw hby
  go_enter Tryz.func133, Tryz.ntmps133
  go_wp2_with fail
  refine (ref_halves E _ name _ hname HQ.out.2).mono ?_
  rintro e w2 ⟨g, rfl, k2⟩
  obtain ⟨fa, hfae⟩ : ∃ fa, fa = name ++ dotA := ⟨_, rfl⟩
  obtain ⟨fb, hfbe⟩ : ∃ fb, fb = name ++ dotB := ⟨_, rfl⟩
  rw [← hfae] at hfa HF k2
  rw [← hfbe] at hfb HF k2
  clear hfae hfbe
  have K2 := Aside.mk (k2.row_nil 5 1 none)
  clear k2
  go_wp2
  go_loopw [9, 10, 21] (fun v9 v10 v21 wr => ∃ (h : Nat) (best : Int) (p : List Int), h ≤ 2 ∧ v21 = .int .i64 h ∧ v9 = .int .i64 best ∧ best ≤ 4611686018427387904 ∧ -1 ≤ best ∧ p.length ≤ 106 ∧ Aside ((((halvesL name).drop h).foldl (getF A i) (best, p)) = getP A name i) ∧ Aside (Sat E wr (HP.row 5 1 v10 p.length (b8s p) * (HP.pt g (.cells #[.string fa, .string fb] 9) * (HP.rdisk y A * q))))) (fun _ _ i _ => 2 - (intOf i).toNat)
  case atStart => exact ⟨0, -1, [], by omega, rfl, rfl, by omega, by omega, by simp, ⟨rfl⟩, K2⟩
  case round =>
    clear K2
    obtain ⟨h, best, p, hh, rfl, rfl, hb1, hb2, hpl, HG, HS⟩ := hrel
    by_cases hlt : h < 2
    · obtain ⟨f, hf, hfm, hff, hix⟩ : ∃ f : ByteArray, f.size ≤ maxLen ∧ f ∈ halvesL name ∧ (halvesL name).drop h = f :: (halvesL name).drop (h + 1) ∧ (#[Value.string fa, Value.string fb] : Array Value)[h]? = some (.string f) := by
        rw [HF.out]
        rcases Nat.lt_or_ge h 1 with h0 | h0
        · obtain rfl : h = 0 := by omega
          exact ⟨fa, hfa, by simp, rfl, rfl⟩
        · obtain rfl : h = 1 := by omega
          exact ⟨fb, hfb, by simp, rfl, rfl⟩
      have kc : wr.cell? ⟨g, h, none⟩ = some (.string f) := by rw [HS.out.s2.cell]; exact hix
      rw [hff, List.foldl_cons, getF_readO] at HG
      clear hff hix
      have hlt2 : (h : Int) < 2 := by omega
      have hby := HQ.out.1 f hfm
      clear hfm
      have HS2 := Aside.mk HS.out.s3
      have HBY := Aside.mk hby
      clear HS hby
      go_wp2_with fail
      refine (rdisk_any E _ y A f i _ HBY.out HS2.out).mono ?_
      rintro e w3 ⟨Ar, nr, cr, er, X, rfl, hrl, hnc, hcm, hrb, hX, h3⟩
      obtain ⟨R, hR⟩ : ∃ R, R = readO A f i := ⟨_, rfl⟩
      rw [← hR] at hrl hrb hX HG
      have H3 := Aside.mk (And.intro h3 (And.intro hrl (And.intro hrb hX)))
      clear h3 hrl hrb hX hR HS2 kc HBY
      go_wp2_with fail
      refine (ref_open E _ f i Ar R nr cr _ hf H3.out.2.1 hnc H3.out.2.2.1 (fun w h => H3.out.2.2.2 _ w _ h) H3.out.1).mono ?_
      rintro e w4 (⟨ho, rfl, h4⟩ | ⟨p2, G, vp, ho, rfl, h4⟩)
      · rw [ho] at HG
        have H4 : Aside (Sat E w4 (HP.row 5 1 u10 p.length (b8s p) * (HP.pt g (.cells #[.string fa, .string fb] 9) * (HP.rdisk y A * q)))) := ⟨h4.right.perm (by ac_rfl)⟩
        clear h4 ho H3
        go_wp2
        go_roundw
        case rel => exact ⟨h + 1, best, p, by omega, by push_cast; rfl, rfl, hb1, hb2, hpl, HG, H4⟩
        case measure => simp [intOf]; omega
      · obtain ⟨hG1, hp2⟩ := openI_gen ho
        rw [ho] at HG
        dsimp only at HG
        by_cases hle : (G : Int) ≤ best
        · rw [if_pos hle] at HG
          have H4 : Aside (Sat E w4 (HP.row 5 1 u10 p.length (b8s p) * (HP.pt g (.cells #[.string fa, .string fb] 9) * (HP.rdisk y A * q)))) := ⟨h4.right.right.perm (by ac_rfl)⟩
          clear h4 ho H3
          go_wp2
          go_roundw
          case rel => exact ⟨h + 1, best, p, by omega, by push_cast; rfl, rfl, hb1, hb2, hpl, HG, H4⟩
          case measure => simp [intOf]; omega
        · rw [if_neg hle] at HG
          have hle2 : best < (G : Int) := by omega
          have h5 : Sat E w4 (HP.row 5 1 u10 p.length (b8s p) * (HP.row 5 1 vp p2.length (b8s p2) * (HP.pt g (.cells #[.string fa, .string fb] 9) * (HP.rdisk y A * q)))) := (h4.perm (by ac_rfl : _ = X * (HP.row 5 1 u10 p.length (b8s p) * (HP.row 5 1 vp p2.length (b8s p2) * (HP.pt g (.cells #[.string fa, .string fb] 9) * (HP.rdisk y A * q)))))).right
          have H4 := Aside.mk h5.right
          clear h4 h5 ho H3 hle
          go_wp2
          go_roundw
          case rel => exact ⟨h + 1, (G : Int), p2, by omega, by push_cast; rfl, rfl, hG1, by omega, hp2, HG, H4⟩
          case measure => simp [intOf]; omega
    · obtain rfl : h = 2 := by omega
      rw [HF.out] at HG
      have HX : Aside (getP A name i = (best, p)) := ⟨HG.out.symm⟩
      have HS2 : Aside (Sat E wr (HP.row 5 1 u10 p.length (b8s p) * (HP.rdisk y A * q))) := ⟨HS.out.drop2⟩
      clear HG HS
      by_cases hneg : best < 0
      · go_wp2
        go_ret3
        rw [HX.out]
        exact ⟨_, by unfold getEnd; rw [if_pos hneg]; rfl, HS2.out⟩
      · go_wp2
        go_ret3
        rw [HX.out]
        exact ⟨_, by unfold getEnd; rw [if_neg (by show ¬ best < 0; omega)]; rfl, HS2.out⟩
theorem slBB5 : SlTy Tryz.prog 111 43 (.slice none 0 0) 1 24 := ⟨Tryz.underlying111, by kernel_rfl, rfl, by decide⟩
structure PartsEnd (E : Env) (q q0 : HP) (l : List Int) (V : Option Addr) (cv : Nat) (ss : List (Sl Int)) (w' : World) : Prop where
  same : ss.map (·.l) = piecesI l
  pay : ∀ s ∈ ss, PayOk s
  cells : ∀ w, Sat E w q0 → ∀ s ∈ ss, Cells w s.A (b8s s.l)
  sat : Sat E w' (HP.row 43 1 (.slice V ss.length cv) ss.length (ss.map Sl.val8) * q)
structure PartsAt (E : Env) (q0 : HP) (l : List Int) (c j : Nat) (Aj : Option Addr) (ss : List (Sl Int)) : Prop where
  same : ss.map (·.l) = (List.range j).map (piece l)
  pay : ∀ s ∈ ss, PayOk s
  cells : ∀ w, Sat E w q0 → ∀ s ∈ ss, Cells w s.A (b8s s.l)
  left : ∀ w, Sat E w q0 → Cells w Aj (b8s (l.drop (106 * j)))
  many : ss.length = j
end Go.Proofs.YtnpinegpajbkeaaGreatDoor
