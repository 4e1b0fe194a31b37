/- Texts of one claim, one behind the other: Dam, RefM3, RefW3, ScrQ, Rf5A, Rf6A, ScrT, ScrW. -/
import Derived.Test.YtnpinegpajbkeaaGreatDoorGr12
set_option linter.unusedSimpArgs false
set_option linter.unusedVariables false
namespace Go.Proofs.YtnpinegpajbkeaaGreatDoor
open Go.RowKit HP
theorem slSp : SlTy Tryz.prog 66 68 (.agg #[.string ⟨#[]⟩, .int .i64 0]) 2 24 := ⟨Tryz.underlying66, by kernel_rfl, rfl, by decide⟩
theorem encSpot_one (x : ByteArray × Int) : ∀ v ∈ encSpot x, v.oneCell' = true := by
  intro v hv
  simp [encSpot] at hv
  rcases hv with rfl | rfl <;> rfl
theorem sort_spots (E : Env) (q : HP) (v : Value) (l : List (ByteArray × Int)) (n : Nat) (w : World) (hl : l.length = n) (hn : n ≤ maxLen / 4) (hw : Sat E w (HP.row 68 2 v n (l.flatMap encSpot) * q)) :
    Calls Tryz.prog 123 #[v, .func (.func 124) #[] #[]] w fun r w' => r = .returned (.tuple #[]) ∧ Sat E w' (HP.row 68 2 v n ((l.mergeSort fun x y => !(ltC cmpSpot) y x).flatMap encSpot) * q) :=
  sort_row (k := 2) laysSpot (by intro w; kernel_rfl) (by intro w; kernel_rfl) encSpot (fun _ => rfl) encSpot_one cmpSpot swo_spot (fun _ _ h1 h2 => ltSpot_total h1 h2) 124 #[] (enters_of Tryz.func124 (by kernel_rfl) rfl)
    (fun x y W => damaged_cmp x.1 y.1 x.2 y.2 W) hl hn hw
theorem spots_length : ∀ l : List (ByteArray × List Cel), (l.flatMap spotsF).length ≤ sizeF l
  | [] => Nat.le_refl _
  | x :: l => by
    have h1 := spots_length l
    have h2 := spotsN_length x.1 x.2 x.2.length
    rw [List.flatMap_cons, List.length_append]
    unfold sizeF at *
    rw [List.map_cons, List.sum_cons]
    unfold spotsF at *
    omega
def leftS (es : Array MapEntry) (seen : Array Nat) (fs : List Fil) : List (ByteArray × Int) := (leftZ es seen fs).flatMap fun x => spotsF (x.2.name, x.2.cs)
theorem leftS_start {A : Dk} {es : Array MapEntry} {clock : Nat} {fs : List Fil} (hv : View A es clock fs) : (leftS es #[] fs).Perm A.damaged := by
  have hlen : es.toList.length = fs.length := by simpa using congrArg List.length hv.map.2.1
  have e : leftS es #[] fs = (fs.map fun f => (f.name, f.cs)).flatMap spotsF := by
    unfold leftS
    conv => rhs; rw [← leftZ_start hlen]
    rw [List.map_map, List.flatMap_map]
    rfl
  rw [e]
  exact (files_perm hv).flatMap_right _
theorem leftS_step {es : Array MapEntry} {seen : Array Nat} {fs : List Fil} {j : Nat} {e : MapEntry} {f : Fil} (hn : (es.toList.map (·.born)).Nodup) (hl : es.toList.length = fs.length) (hj : es.toList[j]? = some e) (hf : fs[j]? = some f) (he : e ∈ leftL es seen) :
    (leftS es seen fs).Perm (spotsF (f.name, f.cs) ++ leftS es (seen.push e.born) fs) := by
  have he2 : seen.contains e.born = false := by
    have := (List.mem_filter.1 he).2
    simpa using this
  have := (leftZ_step hn hl hj hf he2).flatMap_right (fun x => spotsF (x.2.name, x.2.cs))
  rwa [List.flatMap_cons] at this
set_option maxHeartbeats 4000000 in
set_option maxRecDepth 100000 in
theorem disk_damaged (E : Env) (q : HP) (d : Nat) (A : Dk) (w : World) (hw : Sat E w (HP.disk d A * q)) :
    Calls Tryz.prog 88 #[.pointer (some ⟨d, 0, none⟩)] w fun e w' => ∃ v, e = .returned v ∧ Sat E w' (HP.row 68 2 v A.damaged.length (A.damaged.flatMap encSpot) * (HP.disk d A * q)) := by
  obtain ⟨m, es, clock, fs, hv, hd⟩ := hw.disk_open
  clear hw
  go_enter Tryz.func88, Tryz.ntmps88
  go_wp2_with fail
  refine (disk_none E _ d _ _ m w (dk_parts hd)).mono ?_
  rintro e w1 ⟨rfl, rfl⟩
  have c1 := (dk_parts hd).cell 1
  simp only [List.getElem?_toArray, List.getElem?_cons_zero, List.getElem?_cons_succ] at c1
  have hrg := run_range_map (P := Tryz.prog) (t := 141) Tryz.underlying141 (dk_parts hd).s2.get
  have HS0 := Aside.mk ((hd.alloc (.mapIter (some m) clock #[] clock)).row_nil 68 2 none)
  have HM := Aside.mk hv.map
  have hlen : es.toList.length = fs.length := by simpa using congrArg List.length hv.map.2.1
  have HV := Aside.mk (And.intro hv hlen)
  have hdl : A.damaged.length ≤ 100000 := by
    have h1 := spots_length A.files
    have h2 := hv.fine.fits
    have h3 := hv.fine.room
    unfold Dk.damaged
    omega
  have HL := Aside.mk (And.intro (leftS_start hv) (damaged_sorted hv.fine.sorted))
  clear hv hlen hd
  go_wp2
  obtain ⟨g, hg⟩ : ∃ g, g = w1.heap.size := ⟨_, rfl⟩
  obtain ⟨w0, hw0⟩ : ∃ w0, w0 = w1.alloc (.mapIter (some m) clock #[] clock) := ⟨_, rfl⟩
  rw [← hg, ← hw0] at HS0
  rw [← hg, ← hw0]
  clear hrg c1 hg hw0
  go_loopw [3] (fun v3 wr => ∃ (seen : Array Nat) (c0 : Nat) (out : List (ByteArray × Int)), clock ≤ c0 ∧ Aside ((out ++ leftS es seen fs).Perm A.damaged) ∧ Aside (Sat E wr (HP.pt g (.mapIter (some m) clock seen c0) * (HP.row 68 2 v3 out.length (out.flatMap encSpot) * (HP.dk d A.room A.fuse m es clock fs * q)))))
    (fun _ wr => match wr.heap[g]? with | some (.mapIter _ _ seen _) => (leftL es seen).length | _ => 0)
  case atStart => exact ⟨#[], clock, [], Nat.le_refl _, ⟨HL.out.1⟩, ⟨HS0.out.perm (by show HP.row _ _ _ 0 [] * _ = HP.pt _ _ * (HP.row _ _ _ 0 [] * _); ac_rfl)⟩⟩
  case round =>
    clear HS0
    obtain ⟨seen, c0, out, hc0, HO, HS⟩ := hrel
    have hol : out.length ≤ 100000 := by
      have := HO.out.length_eq
      rw [List.length_append] at this
      omega
    rcases next_file HM.out hc0 (HS.out.perm (by ac_rfl : _ = HP.pt g (.mapIter (some m) clock seen c0) * (HP.dk d A.room A.fuse m es clock fs * (HP.row 68 2 u3 out.length (out.flatMap encSpot) * q)))) 0 with ⟨hend, hnext⟩ | ⟨j, f, e, w2, hj, hje, hel, hnext, hent, h2⟩
    · have hz : leftS es seen fs = [] := by unfold leftS; rw [leftZ_end hend]; rfl
      have hp := HO.out
      rw [hz, List.append_nil] at hp
      have HP0 := Aside.mk hp
      clear hz hp HO hend
      go_wp2_with fail
      refine (sort_spots E _ u3 out out.length _ rfl (by unfold maxLen; omega) HS.out.right).mono ?_
      rintro e w2 ⟨rfl, h2⟩
      rw [sorted_damaged HV.out.1.fine.sorted HP0.out, HP0.out.length_eq] at h2
      have H2 := Aside.mk (And.intro rfl (Sat.disk_close (q := HP.row 68 2 u3 A.damaged.length (A.damaged.flatMap encSpot) * q) HV.out.1 h2.s2) : u3 = u3 ∧ _)
      clear h2 HP0 HS hol
      go_wp2
      go_ret
      exact ⟨_, rfl, H2.out.2.s2⟩
    · obtain ⟨R0, h3, hback⟩ := dk_fileQ (h2.perm (by ac_rfl : _ = HP.dk d A.room A.fuse m es clock fs * (HP.pt g (.mapIter (some m) clock (seen.push e.born) clock) * (HP.row 68 2 u3 out.length (out.flatMap encSpot) * q)))) hj
      obtain ⟨B, cc, hvB, -, -⟩ := h3.row_slice
      have hfm := HV.out.1.mem (List.mem_of_getElem? hj)
      have hfs : f.cels.length ≤ 100000 := by
        have h7 := at_small HV.out.1.fine f.name
        rw [Dk.at, lk_of_mem HV.out.1.fine.sorted hfm] at h7
        simpa [Fil.cs] using h7
      have HFine : Aside (∀ x ∈ f.cels, x.2.Fine) := ⟨fun x hx => HV.out.1.cel_fine (List.mem_of_getElem? hj) hx⟩
      have hset : fs.set j ⟨f.name, f.val, f.cels⟩ = fs := by
        obtain ⟨h1, h2⟩ := List.getElem?_eq_some_iff.1 hj
        rw [show (⟨f.name, f.val, f.cels⟩ : Fil) = fs[j] from h2.symm]
        exact List.set_getElem_self h1
      have hst := leftS_step HM.out.2.2.2.2 HV.out.2 hje hj hel
      have HC := Aside.mk (And.intro hback (And.intro hset (And.intro hst hel)))
      have hce : f.cs.length = f.cels.length := by unfold Fil.cs; rw [List.length_map]
      rw [hvB] at hnext hent h3
      have H3 := Aside.mk h3
      have HG1 := Aside.mk HS.out.get
      clear HS h2 hback h3 hj hje hel hfm hset hst
      obtain ⟨n, hnn⟩ : ∃ n, n = f.cels.length := ⟨_, rfl⟩
      rw [← hnn] at H3 hfs hnext hent hce
      have HN := Aside.mk (And.intro hnn hce)
      clear hnn hce
      go_wp2
      obtain ⟨wo, rfl⟩ : ∃ wo : World, wo = wr := ⟨_, rfl⟩
      go_loopw [3, 22] (fun v3 v22 wi => ∃ k : Nat, v22 = .int .i64 k ∧ k ≤ n ∧ Aside (Sat E wi (HP.row 68 2 v3 (out ++ spotsN f.name f.cs k).length ((out ++ spotsN f.name f.cs k).flatMap encSpot) * (HP.row 145 1 (.slice B n cc) n (celPtrs f.cels) * (HP.cels f.cels * (R0 * (HP.pt g (.mapIter (some m) clock (seen.push e.born) clock) * q))))))) (fun _ x _ => n - (intOf x).toNat)
      case atStart => exact ⟨0, rfl, Nat.zero_le _, ⟨by rw [show spotsN f.name f.cs 0 = [] from rfl, List.append_nil]; exact H3.out.perm (by ac_rfl)⟩⟩
      case round =>
        clear H3 hnext hent
        obtain ⟨k, rfl, hk, HR⟩ := hrel
        by_cases hlt : k < n
        · have hkf : k < f.cels.length := by have := HN.out.1; omega
          have hrow := HR.out.right
          obtain ⟨pa, hpa, hcx⟩ := hrow.row_cells.at_ k (by simp [celPtrs, hkf])
          obtain ⟨pg, po, rfl⟩ : ∃ g o, pa = ⟨g, o, none⟩ := slice_addr hrow.row_cells hpa (k := k) (by simp [celPtrs, hkf])
          subst hpa
          rw [addr_add] at hcx
          simp only [celPtrs, List.getElem_map] at hcx
          obtain ⟨Rk, h5, hRk, hbackk⟩ := cels_take (hrow.s2) (List.getElem?_eq_getElem hkf)
          have hxf : (f.cels[k]).2.Fine := HFine.out _ (List.getElem_mem hkf)
          have hcs : f.cs[k]? = some (f.cels[k]).2 := by unfold Fil.cs; rw [List.getElem?_map, List.getElem?_eq_getElem hkf]; rfl
          have HSN : Aside (spotsN f.name f.cs (k + 1) = spotsN f.name f.cs k ++ if (f.cels[k]).2.bad = true then [(f.name, (k : Int))] else []) := ⟨by rw [spotsN, hcs]; rfl⟩
          have hsl := spotsN_length f.name f.cs k
          generalize f.cels[k] = x at *
          obtain ⟨bk, c⟩ := x
          dsimp only at *
          have hk0 : (0 : Int) ≤ (k : Int) := by omega
          have hk1 : (k : Int) < (n : Int) := by omega
          have ld1 := run_loadAgg agImg (by rw [b8s_length]; exact hxf.2.1) (cel_durable h5.drew hxf)
          have ld2 := run_loadAgg agImg (by rw [b8s_length]; exact hxf.2.2.1) (cel_synced h5.drew hxf)
          have ld4 := run_loadAgg agImg (by rw [b8s_length]; exact hxf.2.2.2) (cel_written h5.drew hxf)
          have ne1 := run_neq_u8s (P := Tryz.prog) (w := wr.drew) Tryz.underlying147 Tryz.underlying5 (by kernel_rfl) (by kernel_rfl) c.durable c.synced hxf.2.1 hxf.2.2.1
          have ne2 := run_neq_u8s (P := Tryz.prog) (w := wr.drew) Tryz.underlying147 Tryz.underlying5 (by kernel_rfl) (by kernel_rfl) c.durable c.written hxf.2.1 hxf.2.2.2
          clear hRk hrow
          by_cases e1 : c.durable = c.synced
          · have hbad : c.bad = false := by unfold Cel.bad; simp [e1]
            rw [hbad] at HSN
            simp only [Bool.false_eq_true, if_false, List.append_nil] at HSN
            have HR2 : Aside (Sat E wr.drew (HP.row 68 2 u3 (out ++ spotsN f.name f.cs (k + 1)).length ((out ++ spotsN f.name f.cs (k + 1)).flatMap encSpot) * (HP.row 145 1 (.slice (some ⟨pg, po, none⟩) n cc) n (celPtrs f.cels) * (HP.cels f.cels * (R0 * (HP.pt g (.mapIter (some m) clock (seen.push e.born) clock) * q)))))) := ⟨by rw [HSN.out]; exact HR.out.drew⟩
            rw [decide_eq_true e1] at ne1
            generalize (b8s c.durable).toArray = D1 at *
            generalize (b8s c.synced).toArray = D2 at *
            clear ld4 ne2 h5 hbackk HR HSN hxf hcs
            go_wp2
            refine region_R [] [] (fun _ => True) #[false, false, false, false, false, false, false, false, false, false, false, false, false, false, false, false, false, false, false, false] (by kernel_rfl) rfl rfl ?_
            refine wpR_rd 0 #[true, false, false, false, false, false, false, false, false, false, false, false, false, false, false, false, false, false, false, false] rfl onlyN_noPanic (by kernel_rfl) (fun K hK => ?_); (go_simp; try go_bits); refine hK _ ?_; clear hK K
            refine wpR_rd 1 #[true, true, false, false, false, false, false, false, false, false, false, false, false, false, false, false, false, false, false, false] rfl onlyN_noPanic (by kernel_rfl) (fun K hK => ?_); (go_simp; try go_bits); refine hK _ ?_; clear hK K
            refine wpR_rd 2 #[true, true, true, false, false, false, false, false, false, false, false, false, false, false, false, false, false, false, false, false] rfl onlyN_noPanic (by kernel_rfl) (fun K hK => ?_); (go_simp; try go_bits); refine hK _ ?_; clear hK K
            refine wpR_read (i := 3) #[true, true, true, true, false, false, false, false, false, false, false, false, false, false, false, false, false, false, false, false] rfl onlyN_noPanic (by kernel_rfl) (.inl ⟨rfl, exec_load rfl rfl ld1⟩) ?_
            simp only [Act.put, List.setIfInBounds_toArray, List.set_cons_zero, List.set_cons_succ]
            refine wpR_rd 4 #[true, true, true, true, true, false, false, false, false, false, false, false, false, false, false, false, false, false, false, false] rfl onlyN_noPanic (by kernel_rfl) (fun K hK => ?_); (go_simp; try go_bits); refine hK _ ?_; clear hK K
            refine wpR_rd 5 #[true, true, true, true, true, true, false, false, false, false, false, false, false, false, false, false, false, false, false, false] rfl onlyN_noPanic (by kernel_rfl) (fun K hK => ?_); (go_simp; try go_bits); refine hK _ ?_; clear hK K
            refine wpR_rd 6 #[true, true, true, true, true, true, true, false, false, false, false, false, false, false, false, false, false, false, false, false] rfl onlyN_noPanic (by kernel_rfl) (fun K hK => ?_); (go_simp; try go_bits); refine hK _ ?_; clear hK K
            refine wpR_read (i := 7) #[true, true, true, true, true, true, true, true, false, false, false, false, false, false, false, false, false, false, false, false] rfl onlyN_noPanic (by kernel_rfl) (.inl ⟨rfl, exec_load rfl rfl ld2⟩) ?_
            simp only [Act.put, List.setIfInBounds_toArray, List.set_cons_zero, List.set_cons_succ]
            refine wpR_read (i := 8) #[true, true, true, true, true, true, true, true, true, false, false, false, false, false, false, false, false, false, false, false] rfl onlyN_noPanic (by kernel_rfl) (.inl ⟨rfl, exec_binop rfl rfl rfl (run_eqGuard_agg _ .neq 147 _ _ _ _ (by kernel_rfl)) ne1⟩) ?_
            simp only [Act.put, List.setIfInBounds_toArray, List.set_cons_zero, List.set_cons_succ]
            refine wpR_rd 9 #[true, true, true, true, true, true, true, true, true, true, false, false, false, false, false, false, false, false, false, false] rfl onlyN_noPanic (by kernel_rfl) (fun K hK => ?_); (go_simp; try go_bits); refine hK _ ?_; clear hK K
            refine wpR_rd 10 #[true, true, true, true, true, true, true, true, true, true, true, false, false, false, false, false, false, false, false, false] rfl onlyN_noPanic (by kernel_rfl) (fun K hK => ?_); (go_simp; try go_bits); refine hK _ ?_; clear hK K
            refine wpR_rd 11 #[true, true, true, true, true, true, true, true, true, true, true, true, false, false, false, false, false, false, false, false] rfl onlyN_noPanic (by kernel_rfl) (fun K hK => ?_); (go_simp; try go_bits); refine hK _ ?_; clear hK K
            refine wpR_rd 12 #[true, true, true, true, true, true, true, true, true, true, true, true, true, false, false, false, false, false, false, false] rfl onlyN_noPanic (by kernel_rfl) (fun K hK => ?_); (go_simp; try go_bits); refine hK _ ?_; clear hK K
            refine wpR_rd 13 #[true, true, true, true, true, true, true, true, true, true, true, true, true, true, false, false, false, false, false, false] rfl onlyN_noPanic (by kernel_rfl) (fun K hK => ?_); (go_simp; try go_bits); refine hK _ ?_; clear hK K
            refine wpR_rd 14 #[true, true, true, true, true, true, true, true, true, true, true, true, true, true, true, false, false, false, false, false] rfl onlyN_noPanic (by kernel_rfl) (fun K hK => ?_); (go_simp; try go_bits); refine hK _ ?_; clear hK K
            refine wpR_rd 15 #[true, true, true, true, true, true, true, true, true, true, true, true, true, true, true, true, false, false, false, false] rfl onlyN_noPanic (by kernel_rfl) (fun K hK => ?_); (go_simp; try go_bits); refine hK _ ?_; clear hK K
            refine wpR_rd 16 #[true, true, true, true, true, true, true, true, true, true, true, true, true, true, true, true, true, false, false, false] rfl onlyN_noPanic (by kernel_rfl) (fun K hK => ?_); (go_simp; try go_bits); refine hK _ ?_; clear hK K
            refine wpR_rd 17 #[true, true, true, true, true, true, true, true, true, true, true, true, true, true, true, true, true, true, false, false] rfl onlyN_noPanic (by kernel_rfl) (fun K hK => ?_); (go_simp; try go_bits); refine hK _ ?_; clear hK K
            refine wpR_rd 18 #[true, true, true, true, true, true, true, true, true, true, true, true, true, true, true, true, true, true, true, false] rfl onlyN_noPanic (by kernel_rfl) (fun K hK => ?_); (go_simp; try go_bits); refine hK _ ?_; clear hK K
            refine wpR_rd 19 #[true, true, true, true, true, true, true, true, true, true, true, true, true, true, true, true, true, true, true, true] rfl onlyN_noPanic (by kernel_rfl) (fun K hK => ?_); (go_simp; try go_bits); refine hK _ ?_; clear hK K
            refine wpR_done (by kernel_rfl) ?_ _
            simp only [OnlyN]
            go_wp2
            go_roundw
            case rel => exact ⟨k + 1, by go_num, by omega, HR2⟩
            case measure => simp [intOf]; omega
          · rw [decide_eq_false e1] at ne1
            by_cases e2 : c.durable = c.written
            · have hbad : c.bad = false := by unfold Cel.bad; simp [e2]
              rw [hbad] at HSN
              simp only [Bool.false_eq_true, if_false, List.append_nil] at HSN
              have HR2 : Aside (Sat E wr.drew (HP.row 68 2 u3 (out ++ spotsN f.name f.cs (k + 1)).length ((out ++ spotsN f.name f.cs (k + 1)).flatMap encSpot) * (HP.row 145 1 (.slice (some ⟨pg, po, none⟩) n cc) n (celPtrs f.cels) * (HP.cels f.cels * (R0 * (HP.pt g (.mapIter (some m) clock (seen.push e.born) clock) * q)))))) := ⟨by rw [HSN.out]; exact HR.out.drew⟩
              rw [decide_eq_true e2] at ne2
              generalize (b8s c.durable).toArray = D1 at *
              generalize (b8s c.synced).toArray = D2 at *
              generalize (b8s c.written).toArray = D3 at *
              clear h5 hbackk HR HSN hxf hcs
              go_wp2
              refine region_R [] [] (fun _ => True) #[false, false, false, false, false, false, false, false, false, false, false, false, false, false, false, false, false, false, false, false] (by kernel_rfl) rfl rfl ?_
              refine wpR_rd 0 #[true, false, false, false, false, false, false, false, false, false, false, false, false, false, false, false, false, false, false, false] rfl onlyN_noPanic (by kernel_rfl) (fun K hK => ?_); (go_simp; try go_bits); refine hK _ ?_; clear hK K
              refine wpR_rd 1 #[true, true, false, false, false, false, false, false, false, false, false, false, false, false, false, false, false, false, false, false] rfl onlyN_noPanic (by kernel_rfl) (fun K hK => ?_); (go_simp; try go_bits); refine hK _ ?_; clear hK K
              refine wpR_rd 2 #[true, true, true, false, false, false, false, false, false, false, false, false, false, false, false, false, false, false, false, false] rfl onlyN_noPanic (by kernel_rfl) (fun K hK => ?_); (go_simp; try go_bits); refine hK _ ?_; clear hK K
              refine wpR_read (i := 3) #[true, true, true, true, false, false, false, false, false, false, false, false, false, false, false, false, false, false, false, false] rfl onlyN_noPanic (by kernel_rfl) (.inl ⟨rfl, exec_load rfl rfl ld1⟩) ?_
              simp only [Act.put, List.setIfInBounds_toArray, List.set_cons_zero, List.set_cons_succ]
              refine wpR_rd 4 #[true, true, true, true, true, false, false, false, false, false, false, false, false, false, false, false, false, false, false, false] rfl onlyN_noPanic (by kernel_rfl) (fun K hK => ?_); (go_simp; try go_bits); refine hK _ ?_; clear hK K
              refine wpR_rd 5 #[true, true, true, true, true, true, false, false, false, false, false, false, false, false, false, false, false, false, false, false] rfl onlyN_noPanic (by kernel_rfl) (fun K hK => ?_); (go_simp; try go_bits); refine hK _ ?_; clear hK K
              refine wpR_rd 6 #[true, true, true, true, true, true, true, false, false, false, false, false, false, false, false, false, false, false, false, false] rfl onlyN_noPanic (by kernel_rfl) (fun K hK => ?_); (go_simp; try go_bits); refine hK _ ?_; clear hK K
              refine wpR_read (i := 7) #[true, true, true, true, true, true, true, true, false, false, false, false, false, false, false, false, false, false, false, false] rfl onlyN_noPanic (by kernel_rfl) (.inl ⟨rfl, exec_load rfl rfl ld2⟩) ?_
              simp only [Act.put, List.setIfInBounds_toArray, List.set_cons_zero, List.set_cons_succ]
              refine wpR_read (i := 8) #[true, true, true, true, true, true, true, true, true, false, false, false, false, false, false, false, false, false, false, false] rfl onlyN_noPanic (by kernel_rfl) (.inl ⟨rfl, exec_binop rfl rfl rfl (run_eqGuard_agg _ .neq 147 _ _ _ _ (by kernel_rfl)) ne1⟩) ?_
              simp only [Act.put, List.setIfInBounds_toArray, List.set_cons_zero, List.set_cons_succ]
              refine wpR_rd 9 #[true, true, true, true, true, true, true, true, true, true, false, false, false, false, false, false, false, false, false, false] rfl onlyN_noPanic (by kernel_rfl) (fun K hK => ?_); (go_simp; try go_bits); refine hK _ ?_; clear hK K
              refine wpR_rd 10 #[true, true, true, true, true, true, true, true, true, true, true, false, false, false, false, false, false, false, false, false] rfl onlyN_noPanic (by kernel_rfl) (fun K hK => ?_); (go_simp; try go_bits); refine hK _ ?_; clear hK K
              refine wpR_rd 11 #[true, true, true, true, true, true, true, true, true, true, true, true, false, false, false, false, false, false, false, false] rfl onlyN_noPanic (by kernel_rfl) (fun K hK => ?_); (go_simp; try go_bits); refine hK _ ?_; clear hK K
              refine wpR_rd 12 #[true, true, true, true, true, true, true, true, true, true, true, true, true, false, false, false, false, false, false, false] rfl onlyN_noPanic (by kernel_rfl) (fun K hK => ?_); (go_simp; try go_bits); refine hK _ ?_; clear hK K
              refine wpR_read (i := 13) #[true, true, true, true, true, true, true, true, true, true, true, true, true, true, false, false, false, false, false, false] rfl onlyN_noPanic (by kernel_rfl) (.inl ⟨rfl, exec_load rfl rfl ld1⟩) ?_
              simp only [Act.put, List.setIfInBounds_toArray, List.set_cons_zero, List.set_cons_succ]
              refine wpR_rd 14 #[true, true, true, true, true, true, true, true, true, true, true, true, true, true, true, false, false, false, false, false] rfl onlyN_noPanic (by kernel_rfl) (fun K hK => ?_); (go_simp; try go_bits); refine hK _ ?_; clear hK K
              refine wpR_rd 15 #[true, true, true, true, true, true, true, true, true, true, true, true, true, true, true, true, false, false, false, false] rfl onlyN_noPanic (by kernel_rfl) (fun K hK => ?_); (go_simp; try go_bits); refine hK _ ?_; clear hK K
              refine wpR_rd 16 #[true, true, true, true, true, true, true, true, true, true, true, true, true, true, true, true, true, false, false, false] rfl onlyN_noPanic (by kernel_rfl) (fun K hK => ?_); (go_simp; try go_bits); refine hK _ ?_; clear hK K
              refine wpR_read (i := 17) #[true, true, true, true, true, true, true, true, true, true, true, true, true, true, true, true, true, true, false, false] rfl onlyN_noPanic (by kernel_rfl) (.inl ⟨rfl, exec_load rfl rfl ld4⟩) ?_
              simp only [Act.put, List.setIfInBounds_toArray, List.set_cons_zero, List.set_cons_succ]
              refine wpR_read (i := 18) #[true, true, true, true, true, true, true, true, true, true, true, true, true, true, true, true, true, true, true, false] rfl onlyN_noPanic (by kernel_rfl) (.inl ⟨rfl, exec_binop rfl rfl rfl (run_eqGuard_agg _ .neq 147 _ _ _ _ (by kernel_rfl)) ne2⟩) ?_
              simp only [Act.put, List.setIfInBounds_toArray, List.set_cons_zero, List.set_cons_succ]
              refine wpR_rd 19 #[true, true, true, true, true, true, true, true, true, true, true, true, true, true, true, true, true, true, true, true] rfl onlyN_noPanic (by kernel_rfl) (fun K hK => ?_); (go_simp; try go_bits); refine hK _ ?_; clear hK K
              refine wpR_done (by kernel_rfl) ?_ _
              simp only [OnlyN]
              go_wp2
              go_roundw
              case rel => exact ⟨k + 1, by go_num, by omega, HR2⟩
              case measure => simp [intOf]; omega
            · have hbad : c.bad = true := by unfold Cel.bad; simp [e1, e2]
              rw [hbad] at HSN
              simp only [if_true] at HSN
              rw [decide_eq_false e2] at ne2
              have HR2 := Aside.mk HR.out.drew
              obtain ⟨ln, hln⟩ : ∃ ln, ln = (out ++ spotsN f.name f.cs k).length := ⟨_, rfl⟩
              have hln2 : ln ≤ 200000 := by rw [hln, List.length_append]; omega
              rw [← hln] at HR2
              have HLN := Aside.mk hln
              generalize (b8s c.durable).toArray = D1 at *
              generalize (b8s c.synced).toArray = D2 at *
              generalize (b8s c.written).toArray = D3 at *
              obtain ⟨A3, c3, rfl, -, -⟩ := HR2.out.row_slice
              clear h5 hbackk HR hxf hcs hln
              go_wp2
              refine region_R [] [] (fun _ => True) #[false, false, false, false, false, false, false, false, false, false, false, false, false, false, false, false, false, false, false, false] (by kernel_rfl) rfl rfl ?_
              refine wpR_rd 0 #[true, false, false, false, false, false, false, false, false, false, false, false, false, false, false, false, false, false, false, false] rfl onlyN_noPanic (by kernel_rfl) (fun K hK => ?_); (go_simp; try go_bits); refine hK _ ?_; clear hK K
              refine wpR_rd 1 #[true, true, false, false, false, false, false, false, false, false, false, false, false, false, false, false, false, false, false, false] rfl onlyN_noPanic (by kernel_rfl) (fun K hK => ?_); (go_simp; try go_bits); refine hK _ ?_; clear hK K
              refine wpR_rd 2 #[true, true, true, false, false, false, false, false, false, false, false, false, false, false, false, false, false, false, false, false] rfl onlyN_noPanic (by kernel_rfl) (fun K hK => ?_); (go_simp; try go_bits); refine hK _ ?_; clear hK K
              refine wpR_read (i := 3) #[true, true, true, true, false, false, false, false, false, false, false, false, false, false, false, false, false, false, false, false] rfl onlyN_noPanic (by kernel_rfl) (.inl ⟨rfl, exec_load rfl rfl ld1⟩) ?_
              simp only [Act.put, List.setIfInBounds_toArray, List.set_cons_zero, List.set_cons_succ]
              refine wpR_rd 4 #[true, true, true, true, true, false, false, false, false, false, false, false, false, false, false, false, false, false, false, false] rfl onlyN_noPanic (by kernel_rfl) (fun K hK => ?_); (go_simp; try go_bits); refine hK _ ?_; clear hK K
              refine wpR_rd 5 #[true, true, true, true, true, true, false, false, false, false, false, false, false, false, false, false, false, false, false, false] rfl onlyN_noPanic (by kernel_rfl) (fun K hK => ?_); (go_simp; try go_bits); refine hK _ ?_; clear hK K
              refine wpR_rd 6 #[true, true, true, true, true, true, true, false, false, false, false, false, false, false, false, false, false, false, false, false] rfl onlyN_noPanic (by kernel_rfl) (fun K hK => ?_); (go_simp; try go_bits); refine hK _ ?_; clear hK K
              refine wpR_read (i := 7) #[true, true, true, true, true, true, true, true, false, false, false, false, false, false, false, false, false, false, false, false] rfl onlyN_noPanic (by kernel_rfl) (.inl ⟨rfl, exec_load rfl rfl ld2⟩) ?_
              simp only [Act.put, List.setIfInBounds_toArray, List.set_cons_zero, List.set_cons_succ]
              refine wpR_read (i := 8) #[true, true, true, true, true, true, true, true, true, false, false, false, false, false, false, false, false, false, false, false] rfl onlyN_noPanic (by kernel_rfl) (.inl ⟨rfl, exec_binop rfl rfl rfl (run_eqGuard_agg _ .neq 147 _ _ _ _ (by kernel_rfl)) ne1⟩) ?_
              simp only [Act.put, List.setIfInBounds_toArray, List.set_cons_zero, List.set_cons_succ]
              refine wpR_rd 9 #[true, true, true, true, true, true, true, true, true, true, false, false, false, false, false, false, false, false, false, false] rfl onlyN_noPanic (by kernel_rfl) (fun K hK => ?_); (go_simp; try go_bits); refine hK _ ?_; clear hK K
              refine wpR_rd 10 #[true, true, true, true, true, true, true, true, true, true, true, false, false, false, false, false, false, false, false, false] rfl onlyN_noPanic (by kernel_rfl) (fun K hK => ?_); (go_simp; try go_bits); refine hK _ ?_; clear hK K
              refine wpR_rd 11 #[true, true, true, true, true, true, true, true, true, true, true, true, false, false, false, false, false, false, false, false] rfl onlyN_noPanic (by kernel_rfl) (fun K hK => ?_); (go_simp; try go_bits); refine hK _ ?_; clear hK K
              refine wpR_rd 12 #[true, true, true, true, true, true, true, true, true, true, true, true, true, false, false, false, false, false, false, false] rfl onlyN_noPanic (by kernel_rfl) (fun K hK => ?_); (go_simp; try go_bits); refine hK _ ?_; clear hK K
              refine wpR_read (i := 13) #[true, true, true, true, true, true, true, true, true, true, true, true, true, true, false, false, false, false, false, false] rfl onlyN_noPanic (by kernel_rfl) (.inl ⟨rfl, exec_load rfl rfl ld1⟩) ?_
              simp only [Act.put, List.setIfInBounds_toArray, List.set_cons_zero, List.set_cons_succ]
              refine wpR_rd 14 #[true, true, true, true, true, true, true, true, true, true, true, true, true, true, true, false, false, false, false, false] rfl onlyN_noPanic (by kernel_rfl) (fun K hK => ?_); (go_simp; try go_bits); refine hK _ ?_; clear hK K
              refine wpR_rd 15 #[true, true, true, true, true, true, true, true, true, true, true, true, true, true, true, true, false, false, false, false] rfl onlyN_noPanic (by kernel_rfl) (fun K hK => ?_); (go_simp; try go_bits); refine hK _ ?_; clear hK K
              refine wpR_rd 16 #[true, true, true, true, true, true, true, true, true, true, true, true, true, true, true, true, true, false, false, false] rfl onlyN_noPanic (by kernel_rfl) (fun K hK => ?_); (go_simp; try go_bits); refine hK _ ?_; clear hK K
              refine wpR_read (i := 17) #[true, true, true, true, true, true, true, true, true, true, true, true, true, true, true, true, true, true, false, false] rfl onlyN_noPanic (by kernel_rfl) (.inl ⟨rfl, exec_load rfl rfl ld4⟩) ?_
              simp only [Act.put, List.setIfInBounds_toArray, List.set_cons_zero, List.set_cons_succ]
              refine wpR_read (i := 18) #[true, true, true, true, true, true, true, true, true, true, true, true, true, true, true, true, true, true, true, false] rfl onlyN_noPanic (by kernel_rfl) (.inl ⟨rfl, exec_binop rfl rfl rfl (run_eqGuard_agg _ .neq 147 _ _ _ _ (by kernel_rfl)) ne2⟩) ?_
              simp only [Act.put, List.setIfInBounds_toArray, List.set_cons_zero, List.set_cons_succ]
              refine wpR_rd 19 #[true, true, true, true, true, true, true, true, true, true, true, true, true, true, true, true, true, true, true, true] rfl onlyN_noPanic (by kernel_rfl) (fun K hK => ?_); (go_simp; try go_bits); refine hK _ ?_; clear hK K
              refine wpR_done (by kernel_rfl) ?_ _
              simp only [OnlyN]
              go_wp2_with (at_builtin; refine wpList_append_new slSp rfl rfl (by rfl) (by rfl) HR2.out (by rfl) (by rfl) (by unfold maxLen; omega) (by omega) (fun v5 w5 hw5 => ?_); obtain ⟨A5, c5, rfl, -, -⟩ := hw5.row_slice; have HW5 := Aside.mk hw5; clear hw5)
              refine ⟨⟨k + 1, by push_cast; rfl, by omega, ⟨by rw [HSN.out, ← List.append_assoc, List.flatMap_append, List.length_append, ← HLN.out]; exact HW5.out⟩⟩, ?_⟩
              simp only [intOf]
              omega
        · have hkn : k = n := by omega
          subst hkn
          have HT : Aside (Sat E wr (HP.pt g (.mapIter (some m) clock (seen.push e.born) clock) * (HP.row 68 2 u3 (out ++ spotsF (f.name, f.cs)).length ((out ++ spotsF (f.name, f.cs)).flatMap encSpot) * (HP.dk d A.room A.fuse m es clock fs * q)))) := ⟨by
            obtain ⟨hback, hset, -, -⟩ := HC.out
            have e1 : spotsF (f.name, f.cs) = spotsN f.name f.cs k := by unfold spotsF; rw [HN.out.2]
            rw [e1]
            have h8 := hback _ wr f.cels rfl (by rw [hvB, ← HN.out.1]; exact HR.out.perm (by ac_rfl : _ = HP.row 145 1 (.slice B k cc) k (celPtrs f.cels) * (HP.cels f.cels * (R0 * (HP.pt g (.mapIter (some m) clock (seen.push e.born) clock) * (HP.row 68 2 u3 (out ++ spotsN f.name f.cs k).length ((out ++ spotsN f.name f.cs k).flatMap encSpot) * q))))))
            rw [hset] at h8
            exact h8.perm (by ac_rfl)⟩
          have HO2 : Aside (((out ++ spotsF (f.name, f.cs)) ++ leftS es (seen.push e.born) fs).Perm A.damaged) := ⟨by
            rw [List.append_assoc]
            exact ((HC.out.2.2.1.symm).append_left out).trans HO.out⟩
          have HLS : Aside ((leftL es (seen.push e.born)).length < (leftL es seen).length) := ⟨left_less HM.out.2.2.2.2 HC.out.2.2.2⟩
          clear HR HC HFine HN HO
          go_wp2
          go_roundw
          case rel => exact ⟨seen.push e.born, clock, out ++ spotsF (f.name, f.cs), Nat.le_refl _, HO2, HT⟩
          case measure =>
            have h8 := HT.out.get
            rw [h8, HG1.out]
            exact HLS.out
theorem run_string_n {P : Program} {w : World} {src dst e : TypeId} {A : Option Addr} {l : List Int} {n c : Nat} (hn : l.length = n) (hs : P.underlying src = some (.slice e)) (he : P.underlying e = some (.int .u8)) (hd : P.underlying dst = some .string)
    (h : Cells w A (b8s l)) : (convert src dst (.slice A n c)).run P w = .ok (.string (strOf l)) w := by
  subst hn
  exact run_string hs he hd h
theorem strOf_beq {a b : List Int} (ha : Bytes a) (hb : Bytes b) : ((strOf a).toList == (strOf b).toList) = decide (a = b) := by
  by_cases h : a = b
  · subst h; simp
  · have : ¬ (strOf a).toList = (strOf b).toList := fun h2 => h (strOf_inj ha hb (toList_inj h2))
    simp [h, this]
theorem spotsF_append (l : List (ByteArray × List Cel)) {k : Nat} {x : ByteArray × List Cel} (h : l[k]? = some x) : (l.take (k + 1)).flatMap spotsF = (l.take k).flatMap spotsF ++ spotsF x := by
  rw [take_snoc h, List.flatMap_append]; simp
set_option maxHeartbeats 4000000 in
set_option maxRecDepth 100000 in
theorem ref_damaged (E : Env) (q : HP) (y : Nat) (A : Dk) (v : Value) (fs : List RF) (L : List (Value × List Int)) (w : World) (hv : RView A fs L) (hbt : A.Byt) (hw : Sat E w (HP.rdk y A.room A.fuse v fs L * q)) :
    Calls Tryz.prog 89 #[.pointer (some ⟨y, 0, none⟩)] w fun e w' => ∃ x, e = .returned x ∧ Sat E w' (HP.row 68 2 x A.damaged.length (A.damaged.flatMap encSpot) * (HP.rdk y A.room A.fuse v fs L * q)) := by
  obtain ⟨FA, cF, rfl, hcF, hcM⟩ := hw.rdk_parts.s2.row_slice
  have HV := Aside.mk hv
  have HBT := Aside.mk hbt
  clear hv hbt
  obtain ⟨fuse, hfu⟩ : ∃ fuse, fuse = A.fuse := ⟨_, rfl⟩
  obtain ⟨room, hro⟩ : ∃ room, room = A.room := ⟨_, rfl⟩
  rw [← hfu, ← hro] at hw ⊢
  clear hfu hro
  obtain ⟨n, hn⟩ : ∃ n, n = fs.length := ⟨_, rfl⟩
  have hfl := HV.out.flen
  rw [← hn] at hcF hw hfl ⊢
  have HN := Aside.mk hn
  obtain ⟨D, hD⟩ : ∃ D, D = A.damaged := ⟨_, rfl⟩
  rw [← hD]
  have HD := Aside.mk hD
  have c1 := hw.rdk_parts.cell 1
  simp only [List.getElem?_toArray, List.getElem?_cons_zero, List.getElem?_cons_succ] at c1
  have HW := Aside.mk (hw.row_nil 68 2 none)
  clear hn hw hD
  go_enter Tryz.func89, Tryz.ntmps89
  go_wp2
  go_loopw [3, 13] (fun v3 v13 wr => ∃ (k : Nat) (S : List (ByteArray × Int)), k ≤ n ∧ v13 = .int .i64 k ∧ S.length ≤ 100000 * k ∧ Aside (S = (A.files.take k).flatMap spotsF) ∧ Aside (Sat E wr (HP.row 68 2 v3 S.length (S.flatMap encSpot) * (HP.rdk y room fuse (.slice FA n cF) fs L * q)))) (fun _ i _ => n - (intOf i).toNat)
  case atStart => exact ⟨0, [], Nat.zero_le _, rfl, Nat.zero_le _, ⟨by simp⟩, HW⟩
  case round =>
    clear HW c1
    obtain ⟨k, S, hk, rfl, hSl, HSS, HS⟩ := hrel
    by_cases hlt : k < n
    · have hlt2 : (k : Int) < (n : Int) := by omega
      have h0 : (0 : Int) ≤ (k : Int) := by omega
      obtain ⟨f, hf⟩ : ∃ f, fs[k]? = some f := ⟨_, List.getElem?_eq_getElem (by rw [← HN.out]; exact hlt)⟩
      obtain ⟨g, o, VA, VC, rfl, hval, hvc, g0, g1⟩ := HS.out.right.rf_at HN.out hf
      have hkA : A.files[k]? = some (f.name, f.cs.map (·.c)) := by rw [← HV.out.same, List.getElem?_map, hf]; rfl
      have hvs : f.cs.length ≤ 100000 := by
        have := at_small HV.out.fine f.name
        have e : A.at f.name = f.cs.map (·.c) := by unfold Dk.at; rw [lk_first HV.out.fine.sorted hkA]; rfl
        rw [e, List.length_map] at this
        exact this
      obtain ⟨vn, hvn⟩ : ∃ vn, vn = f.cs.length := ⟨_, rfl⟩
      obtain ⟨fn, hfn⟩ : ∃ fn, fn = f.name := ⟨_, rfl⟩
      rw [← hvn] at g1 hval hvs
      rw [← hfn] at g0
      have HB := Aside.mk (HS.out.alloc (.cells #[.string fn, .slice VA vn VC] 174))
      have HF := Aside.mk (And.intro hf (And.intro hval (And.intro hvn (And.intro hfn hkA))))
      obtain ⟨BF, hBF⟩ : ∃ BF, BF = wr.heap.size := ⟨_, rfl⟩
      rw [← hBF] at HB
      have b0 := HB.out.cell 0
      have b1 := HB.out.cell 1
      clear hf hvn hfn hkA hval
      have HBF := Aside.mk hBF
      clear hBF b0 b1
      go_wp2
      rw [← HBF.out]
      clear g0 g1
      generalize World.alloc wr _ = wb at *
      obtain ⟨l, hl⟩ : ∃ l, l = f.cs.map (·.c) := ⟨_, rfl⟩
      have HL := Aside.mk hl
      clear hl
      go_loopw [3, 20] (fun v3 v20 wi => ∃ (i : Nat) (S2 : List (ByteArray × Int)), i ≤ vn ∧ v20 = .int .i64 i ∧ S2.length ≤ 100000 * k + i ∧ Aside (S2 = S ++ spotsN fn l i) ∧ Aside (Sat E wi (HP.pt BF (.cells #[.string fn, .slice VA vn VC] 174) * (HP.row 68 2 v3 S2.length (S2.flatMap encSpot) * (HP.rdk y room fuse (.slice (some ⟨g, o, none⟩) n cF) fs L * q))))) (fun _ i _ => vn - (intOf i).toNat)
      case atStart => exact ⟨0, S, Nat.zero_le _, rfl, by omega, ⟨by simp [spotsN]⟩, HB⟩
      case round =>
        clear HB HS
        obtain ⟨i, S2, hi, rfl, hS2, HS2, HI⟩ := hrel
        by_cases hil : i < vn
        · have hil2 : (i : Int) < (vn : Int) := by omega
          have hi0 : (0 : Int) ≤ (i : Int) := by omega
          obtain ⟨x, hx⟩ : ∃ x, f.cs[i]? = some x := ⟨_, List.getElem?_eq_getElem (by rw [← HF.out.2.2.1]; exact hil)⟩
          have hrd := HI.out.right.right
          obtain ⟨gc, oc, rfl, x0, x1, x2, x3, x4⟩ := hrd.rc_at HF.out.1 HF.out.2.1 hx
          have hin := HV.out.imgs f (List.mem_of_getElem? HF.out.1) x (List.mem_of_getElem? hx)
          have hm : (f.name, f.cs.map (·.c)) ∈ A.files := by rw [← HV.out.same]; exact List.mem_map.2 ⟨f, List.mem_of_getElem? HF.out.1, rfl⟩
          have hxm : x.c ∈ f.cs.map (·.c) := List.mem_map.2 ⟨x, List.mem_of_getElem? hx, rfl⟩
          have hfin := HV.out.fine.cels _ hm x.c hxm
          have hby := HBT.out _ hm x.c hxm
          obtain ⟨A0, c0, e0, -, -, -⟩ := hrd.rdk_imgs.img hin.1
          obtain ⟨A1, c1, e1, -, -, -⟩ := hrd.rdk_imgs.img hin.2.1
          obtain ⟨A2, c2, e2, -, -, -⟩ := hrd.rdk_imgs.img hin.2.2.1
          obtain ⟨A3, c3, e3, -, -, -⟩ := hrd.rdk_imgs.img hin.2.2.2
          rw [e0] at x0
          rw [e1] at x1
          rw [e2] at x2
          rw [e3] at x3
          have hB := HI.out.alloc (.cells #[.slice A0 128 c0, .slice A1 128 c1, .slice A2 128 c2, .slice A3 128 c3, .bool x.c.waits] 176)
          have y1 := run_string_n (P := Tryz.prog) (c := c1) hfin.2.1 Tryz.underlying43 Tryz.underlying5 Tryz.underlying9 (hB.right.right.right.rdk_imgs.img_cells (by rw [← e1]; exact hin.2.1))
          have y2 := run_string_n (P := Tryz.prog) (c := c2) hfin.2.2.1 Tryz.underlying43 Tryz.underlying5 Tryz.underlying9 (hB.right.right.right.rdk_imgs.img_cells (by rw [← e2]; exact hin.2.2.1))
          have y3 := run_string_n (P := Tryz.prog) (c := c3) hfin.2.2.2 Tryz.underlying43 Tryz.underlying5 Tryz.underlying9 (hB.right.right.right.rdk_imgs.img_cells (by rw [← e3]; exact hin.2.2.2))
          have q12 := strOf_beq hby.2.1 hby.2.2.1
          have q13 := strOf_beq hby.2.1 hby.2.2.2
          have HB := Aside.mk hB.right
          have hli : l[i]? = some x.c := by rw [HL.out, List.getElem?_map, hx]; rfl
          have hsp : spotsN fn l (i + 1) = spotsN fn l i ++ if x.c.bad = true then [(fn, (i : Int))] else [] := by
            rw [spotsN, hli]; rfl
          have HSP := Aside.mk hsp
          have HBAD : Aside (x.c.bad = (!decide (x.c.durable = x.c.synced) && !decide (x.c.durable = x.c.written))) := ⟨by simp [Cel.bad]⟩
          have bf := HI.out.cell 0
          clear hin hm hxm hfin hby e0 e1 e2 e3 hB hrd hx hli hsp
          obtain ⟨d1, hd1⟩ : ∃ d1, d1 = decide (x.c.durable = x.c.synced) := ⟨_, rfl⟩
          obtain ⟨d2, hd2⟩ : ∃ d2, d2 = decide (x.c.durable = x.c.written) := ⟨_, rfl⟩
          rw [← hd1] at q12 HBAD
          rw [← hd2] at q13 HBAD
          clear hd1 hd2
          generalize strOf x.c.durable = s1 at *
          generalize strOf x.c.synced = s2 at *
          generalize strOf x.c.written = s3 at *
          have b0 := HB.out.cell 0
          simp only [List.getElem?_toArray, List.getElem?_cons_zero, List.getElem?_cons_succ] at b0
          obtain ⟨B3, c3b, hu3, -, -⟩ := HI.out.right.row_slice
          subst hu3
          obtain ⟨sn, hsn⟩ : ∃ sn, sn = S2.length := ⟨_, rfl⟩
          rw [← hsn] at HB hS2 ⊢
          have HSN := Aside.mk hsn
          clear hsn bf HI
          by_cases hd : d1 = false ∧ d2 = false
          · obtain ⟨rfl, rfl⟩ := hd
            have hS3 : S ++ spotsN fn l (i + 1) = S2 ++ [(fn, (i : Int))] := by rw [HSP.out, HBAD.out, HS2.out]; simp
            have HS3 := Aside.mk hS3
            clear hS3
            go_wp2_with (at_builtin; refine wpList_append_new slSp rfl rfl (by rfl) (by rw [alloc_size]; rfl) HB.out.s2 (by rfl) (by rfl) (by unfold maxLen; omega) (by omega) (fun v5 w5 hw5 => ?_); obtain ⟨A5, c5, rfl, -, -⟩ := hw5.row_slice; have HW5 := Aside.mk hw5.s2; clear hw5)
            go_roundw
            case rel => exact ⟨i + 1, S2 ++ [(fn, (i : Int))], by omega, by go_num, by rw [List.length_append, ← HSN.out]; simp; omega, ⟨HS3.out.symm⟩, ⟨by rw [List.length_append, ← HSN.out, List.flatMap_append]; exact HW5.out⟩⟩
            case measure => simp [intOf]; omega
          · have hbad : x.c.bad = false := by
              rw [HBAD.out]
              cases d1 <;> cases d2 <;> simp at hd ⊢
            have HS3 : Aside (S2 = S ++ spotsN fn l (i + 1)) := ⟨by rw [HSP.out, hbad, HS2.out]; simp⟩
            clear hbad
            cases d1 <;> cases d2
            · exact absurd ⟨rfl, rfl⟩ hd
            all_goals
              clear hd
              go_wp2
              go_roundw
              case rel => exact ⟨i + 1, S2, by omega, by go_num, by rw [← HSN.out]; omega, HS3, ⟨by rw [← HSN.out]; exact HB.out⟩⟩
              case measure => simp [intOf]; omega
        · obtain rfl : i = vn := by omega
          have hS3 : S2 = (A.files.take (k + 1)).flatMap spotsF := by
            rw [spotsF_append _ HF.out.2.2.2.2, ← HSS.out, HS2.out]
            unfold spotsF
            rw [List.length_map, ← HF.out.2.2.1, HF.out.2.2.2.1, HL.out]
          have HS3 := Aside.mk hS3
          have HI2 := Aside.mk HI.out.right
          clear hS3 HI
          go_wp2
          go_roundw
          case rel => exact ⟨k + 1, S2, by omega, by go_num, by omega, HS3, HI2⟩
          case measure => simp [intOf]; omega
    · obtain rfl : k = n := by omega
      go_wp2
      go_ret
      refine ⟨_, rfl, ?_⟩
      have h := HS.out
      have e : S = D := by
        rw [HSS.out, HD.out, List.take_of_length_le (by rw [← HV.out.len, ← HN.out]; exact Nat.le_refl _)]
        rfl
      rw [e] at h
      exact h
end Go.Proofs.YtnpinegpajbkeaaGreatDoor
namespace Go.Proofs.YtnpinegpajbkeaaGreatDoor
open Go.RowKit HP
section
variable (E : Env) (q : HP) (y : Nat) (A : Dk) (name : ByteArray) (i : Int) (w : World) (hw : Sat E w (HP.rdisk y A * q))
include hw
theorem rdisk_extents : Calls Tryz.prog 75 #[.pointer (some ⟨y, 0, none⟩), .string name] w fun e w' => e = .returned (.int .i64 ((A.at name).length : Int)) ∧ Sat E w' (HP.rdisk y A * q) := by
  obtain ⟨v, fs, L, hv, hk⟩ := hw.rdisk_open
  exact (ref_extents E q y A v fs L name w hv hk).mono fun e w' h => ⟨h.1, Sat.rdisk_close hv h.2⟩
theorem rdisk_free : Calls Tryz.prog 87 #[.pointer (some ⟨y, 0, none⟩)] w fun e w' => e = .returned (.int .i64 A.free) ∧ Sat E w' (HP.rdisk y A * q) := by
  obtain ⟨v, fs, L, hv, hk⟩ := hw.rdisk_open
  exact (ref_free E q y A v fs L w hv hk).mono fun e w' h => ⟨h.1, Sat.rdisk_close hv h.2⟩
theorem rdisk_list : Calls Tryz.prog 84 #[.pointer (some ⟨y, 0, none⟩)] w fun e w' => ∃ x, e = .returned x ∧ Sat E w' (HP.row 9 1 x A.files.length (namesV A) * (HP.rdisk y A * q)) := by
  obtain ⟨v, fs, L, hv, hk⟩ := hw.rdisk_open
  exact (ref_list E q y A v fs L w hv hk).mono fun e w' ⟨x, h1, h2⟩ => ⟨x, h1, (Sat.rdisk_close (q := HP.row 9 1 x A.files.length (namesV A) * q) hv (h2.perm (HP.left_comm _ _ _))).perm (HP.left_comm _ _ _)⟩
theorem rdisk_damaged (hbt : A.Byt) : Calls Tryz.prog 89 #[.pointer (some ⟨y, 0, none⟩)] w fun e w' => ∃ x, e = .returned x ∧ Sat E w' (HP.row 68 2 x A.damaged.length (A.damaged.flatMap encSpot) * (HP.rdisk y A * q)) := by
  obtain ⟨v, fs, L, hv, hk⟩ := hw.rdisk_open
  exact (ref_damaged E q y A v fs L w hv hbt hk).mono fun e w' ⟨x, h1, h2⟩ => ⟨x, h1, (Sat.rdisk_close (q := HP.row 68 2 x A.damaged.length (A.damaged.flatMap encSpot) * q) hv (h2.perm (HP.left_comm _ _ _))).perm (HP.left_comm _ _ _)⟩
theorem rdisk_read : Calls Tryz.prog 90 #[.pointer (some ⟨y, 0, none⟩), .string name, .int .i64 i] w (readEnd E (HP.rdisk y A * q) (A.cel name i)) := by
  obtain ⟨v, fs, L, hv, hk⟩ := hw.rdisk_open
  refine (ref_read E q y A v fs L name i w hv hk).mono fun e w' h => ?_
  unfold readEnd at h ⊢
  cases hc : A.cel name i with
  | none => rw [hc] at h; exact ⟨h.1, Sat.rdisk_close hv h.2⟩
  | some c =>
    rw [hc] at h
    obtain ⟨x, h1, h2⟩ := h
    exact ⟨x, h1, (Sat.rdisk_close (q := HP.row 5 1 x 128 (b8s c.read) * q) hv (h2.perm (HP.left_comm _ _ _))).perm (HP.left_comm _ _ _)⟩
end
end Go.Proofs.YtnpinegpajbkeaaGreatDoor
namespace Go.Proofs.YtnpinegpajbkeaaGreatDoor
open Go.RowKit HP
set_option maxHeartbeats 2000000 in
set_option maxRecDepth 100000 in
theorem ref19_name (k : ByteArray) (n : Int) (w : World) (hk : k.size ≤ 10) (hn : wf64 n) :
    Calls Tryz.prog 55 #[.string k, .int .i64 n] w fun e w' => e = .returned (.string (k ++ decB n.toNat)) ∧ w' = w := by
  have HI := Aside.mk (digits_ok n w hn)
  unfold wf64 at hn
  have hsz := decB_size 18 n.toNat (by omega)
  have hs3 : k.size + (decB n.toNat).size ≤ 100 := by omega
  clear hn hsz
  go_enter Tryz.func55, Tryz.ntmps55
  go_wp2_with fail
  refine HI.out.mono ?_
  rintro e w1 ⟨rfl, hw1⟩
  subst w1
  go_wp2
  go_ret
  exact ⟨rfl, rfl⟩
set_option maxHeartbeats 4000000 in
set_option maxRecDepth 100000 in
theorem ref20_pairs (E : Env) (q : HP) (y : Nat) (A : Dk) (name : ByteArray) (w : World) (hn : name.size + 2 ≤ maxLen) (hs : longN A name ≤ 4000000) (hw : Sat E w (HP.rdisk y A * q)) :
    Calls Tryz.prog 53 #[.pointer (some ⟨y, 0, none⟩), .string name] w fun e w' => ∃ v, e = .returned v ∧ Sat E w' (HP.row 37 4 v (longN A name) ((pairsG name (longN A name)).flatMap Sgp.vals) * (HP.rdisk y A * q)) := by
  have hn2 : name.size + 2 ≤ 9223372036854775807 := by unfold maxLen at hn; omega
  obtain ⟨x, hx⟩ : ∃ x, x = (A.at (name ++ dotA)).length := ⟨_, rfl⟩
  obtain ⟨z, hz⟩ : ∃ z, z = (A.at (name ++ dotB)).length := ⟨_, rfl⟩
  obtain ⟨L, hL⟩ : ∃ L, L = longN A name := ⟨_, rfl⟩
  have hL2 : L = max 1 (max x z) := by rw [hL, hx, hz]; rfl
  obtain ⟨m, hm⟩ : ∃ m, m = max x z := ⟨_, rfl⟩
  rw [← hL] at hs ⊢
  have hm1 : (if (x : Int) < (z : Int) then (z : Int) else (x : Int)) = (m : Int) := by split <;> omega
  have hm2 : (if (m : Int) < 1 then (1 : Int) else (m : Int)) = (L : Int) := by split <;> omega
  have hm5 : (if x < z then (z : Int) else (x : Int)) = (m : Int) := by split <;> omega
  have hm6 : (if m < 1 then (1 : Int) else (m : Int)) = (L : Int) := by split <;> omega
  have hm7 : (if m = 0 then (1 : Int) else (m : Int)) = (L : Int) := by split <;> omega
  have hm3 : max (x : Int) (z : Int) = (m : Int) := by omega
  have hm4 : max (m : Int) 1 = (L : Int) := by omega
  have HX1 := fun E q w h => Aside.mk (rdisk_extents E q y A (name ++ dotA) w h)
  have HX2 := fun E q w h => Aside.mk (rdisk_extents E q y A (name ++ dotB) w h)
  rw [← hx] at HX1
  rw [← hz] at HX2
  unfold dotA at HX1
  unfold dotB at HX2
  have H0 := Aside.mk hw
  clear hL hL2 hm hx hz hw hn
  go_enter Tryz.func53, Tryz.ntmps53
  go_wp2_with fail
  refine (HX1 E _ _ H0.out).out.mono ?_
  rintro e w1 ⟨rfl, h1⟩
  have H1 := Aside.mk h1
  clear h1 H0
  go_wp2_with fail
  refine (HX2 E _ _ H1.out).out.mono ?_
  rintro e w2 ⟨rfl, h2⟩
  have H2 := Aside.mk (h2.row_nil 37 4 none)
  clear h2 H1
  go_wp2
  clear hm1 hm2 hm3 hm4 hm5 hm6 hm7
  go_loopw [5, 16] (fun v5 v16 wr => ∃ k : Nat, v16 = .int .i64 k ∧ k ≤ L ∧ Aside (Sat E wr (HP.row 37 4 v5 (k) ((pairsG name k).flatMap Sgp.vals) * (HP.rdisk y A * q)))) (fun _ x _ => L - (intOf x).toNat)
  case atStart => exact ⟨0, rfl, Nat.zero_le _, H2⟩
  case round =>
    clear H2
    obtain ⟨k, rfl, hk, HS⟩ := hrel
    by_cases hlt : k < L
    · have hlt1 : (k : Int) < (L : Int) := by omega
      have HT : Aside ((pairsG name (k + 1)).flatMap Sgp.vals = (pairsG name k).flatMap Sgp.vals ++ [.int .i64 1, .string name, .int .i64 k, .int .i64 0]) := ⟨by rw [pairsG_step, List.flatMap_append]; rfl⟩
      go_wp2_with (at_builtin; refine wpList_append_new slGrp rfl rfl (by rfl) (by rfl) HS.out (by rfl) (by rfl) (by unfold maxLen; omega) (by omega) (fun v5 w5 hw5 => ?_); have HW5 := Aside.mk hw5; clear hw5)
      have H6 : Aside (Sat E w5 (HP.row 37 4 v5 (k + 1) ((pairsG name (k + 1)).flatMap Sgp.vals) * (HP.rdisk y A * q))) := ⟨by rw [HT.out]; exact HW5.out⟩
      clear HW5 HT HS
      go_roundw
      case rel => exact ⟨k + 1, by go_num, by omega, H6⟩
      case measure => simp [intOf]; omega
    · obtain rfl : k = L := by omega
      have hkk : ¬ (k : Int) < (k : Int) := by omega
      obtain ⟨Av, cv, rfl, -, -⟩ := HS.out.row_slice
      go_wp2
      go_ret
      exact ⟨_, rfl, HS.out⟩
theorem ref6_groups (n : Int) (w : World) (h : wf64 n) : Calls Tryz.prog 56 #[.int .i64 n] w fun e w' => e = .returned (.int .i64 (groupsI n)) ∧ w' = w := by
  have HG : Aside (groupsI n = if n ≤ 0 then 1 else (n - 1) / 105 / 3 + 1) := ⟨rfl⟩
  unfold wf64 at h
  by_cases hn : n ≤ 0
  · rw [if_pos hn] at HG
    have hm : (if n < 0 then 0 else n) = 0 := by split <;> omega
    go_enter Tryz.func56, Tryz.ntmps56
    go_wp2
    go_ret
    rw [HG.out]
    exact ⟨rfl, rfl⟩
  · rw [if_neg hn] at HG
    have hm : (if n < 0 then 0 else n) = n := by split <;> omega
    have hn0 : ¬ n = 0 := by omega
    have hn1 : (n == 0) = false := by rw [beq_eq_false_iff_ne]; exact hn0
    go_enter Tryz.func56, Tryz.ntmps56
    have e1 : (n - 1).tdiv 105 = (n - 1) / 105 := Int.tdiv_eq_ediv_of_nonneg (by omega)
    have e2 : ((n - 1) / 105).tdiv 3 = (n - 1) / 105 / 3 := Int.tdiv_eq_ediv_of_nonneg (by omega)
    go_wp2
    go_ret
    rw [HG.out]
    exact ⟨ret_int (by omega), rfl⟩
theorem gvals_one (gs : List Sgp) : (gs.flatMap Sgp.vals).all Value.oneCell' = true := by
  rw [List.all_eq_true]
  intro v hv
  obtain ⟨g, -, hg⟩ := List.mem_flatMap.1 hv
  unfold Sgp.vals at hg
  simp only [List.mem_cons, List.not_mem_nil, or_false] at hg
  rcases hg with rfl | rfl | rfl | rfl <;> rfl
theorem vals_length (gs : List Sgp) : (gs.flatMap Sgp.vals).length = gs.length * 4 := by
  induction gs with
  | nil => rfl
  | cons g r ih => rw [List.flatMap_cons, List.length_append, ih]; show 4 + _ = _; simp; omega
set_option maxHeartbeats 8000000 in
set_option maxRecDepth 100000 in
theorem ref20_groups (E : Env) (q : HP) (y : Nat) (A : Dk) (a : Anch) (l : List Ftr) (V : Option Addr) (n c : Nat) (w : World) (hl : l.length = n) (hn9 : n ≤ 4000000) (hag : wf64 a.gen) (has : wf64 a.seg) (hlf : ∀ f ∈ l, wf64 f.number ∧ wf64 f.bytes) (hsm : (groupsG A a l).length ≤ 4000000)
    (hq : ∀ w, Sat E w q → Cells w V (l.flatMap Ftr.vals)) (hw : Sat E w (HP.rdisk y A * q)) :
    Calls Tryz.prog 11 #[.pointer (some ⟨y, 0, none⟩), .agg #[.int .i64 a.seq, .int .i64 a.gen, .int .i64 a.lsn, .int .i64 a.seg, .int .i64 a.ext, .int .i64 a.flo, .int .i64 a.new, .int .i64 a.keep, .int .i64 a.next, .int .i64 a.cur], .slice V n c] w fun e w' => ∃ v, e = .returned v ∧ Sat E w' (HP.row 37 4 v ((groupsG A a l).length) ((groupsG A a l).flatMap Sgp.vals) * (HP.rdisk y A * q)) := by
  obtain ⟨seq, gen, lsn, seg, ext, flo, new, keep, next, cur⟩ := a
  dsimp only at *
  have HQ := Aside.mk (And.intro hq (And.intro hl (And.intro hlf (And.intro hag has))))
  have HGG : Aside (groupsG A ⟨seq, gen, lsn, seg, ext, flo, new, keep, next, cur⟩ l = if canA ⟨seq, gen, lsn, seg, ext, flo, new, keep, next, cur⟩ = true ∧ ext ≤ 2147483647 ∧ l.all Ftr.ok = true then pairsG anchorS 1 ++ (pairsG (mB ++ decB gen.toNat) (longN A (mB ++ decB gen.toNat)) ++ (pairsG (tB ++ decB gen.toNat) (longN A (tB ++ decB gen.toNat)) ++ (pairsG (nameW seg) ext.toNat ++ l.flatMap (ftG A)))) else []) := ⟨rfl⟩
  obtain ⟨gg, hgg⟩ : ∃ gg, gg = groupsG A ⟨seq, gen, lsn, seg, ext, flo, new, keep, next, cur⟩ l := ⟨_, rfl⟩
  rw [← hgg] at HGG hsm ⊢
  have HSM := Aside.mk hsm
  have h1 := (hw.alloc (.cells #[.int .i64 seq, .int .i64 gen, .int .i64 lsn, .int .i64 seg, .int .i64 ext, .int .i64 flo, .int .i64 new, .int .i64 keep, .int .i64 next, .int .i64 cur] 24))
  have k0 := h1.cell 0
  have k1 := h1.cell 1
  have k2 := h1.cell 2
  have k3 := h1.cell 3
  have k4 := h1.cell 4
  have k5 := h1.cell 5
  have k6 := h1.cell 6
  have k7 := h1.cell 7
  have k8 := h1.cell 8
  have k9 := h1.cell 9
  simp only [List.getElem?_toArray, List.getElem?_cons_zero, List.getElem?_cons_succ] at k0 k1 k2 k3 k4 k5 k6 k7 k8 k9
  have H1 : Aside (Sat E (w.alloc (.cells #[.int .i64 seq, .int .i64 gen, .int .i64 lsn, .int .i64 seg, .int .i64 ext, .int .i64 flo, .int .i64 new, .int .i64 keep, .int .i64 next, .int .i64 cur] 24)) (HP.rdisk y A * (HP.pt w.heap.size (.cells #[.int .i64 seq, .int .i64 gen, .int .i64 lsn, .int .i64 seg, .int .i64 ext, .int .i64 flo, .int .i64 new, .int .i64 keep, .int .i64 next, .int .i64 cur] 24) * q))) := ⟨h1.s2⟩
  obtain ⟨bA, hbA⟩ : ∃ bA, bA = w.heap.size := ⟨_, rfl⟩
  clear hw hq hl hlf hag has h1 hgg hsm
  go_enter Tryz.func11, Tryz.ntmps11
  go_wp2_with fail
  refine (refcan_ok E _ ⟨seq, gen, lsn, seg, ext, flo, new, keep, next, cur⟩ _ H1.out).mono ?_
  rintro e w2 ⟨rfl, h4⟩
  rw [← hbA] at h4 ⊢
  clear k0 k1 k2 k3 k4 k5 k6 k7 k8 k9 H1 hbA
  cases hcan : canA ⟨seq, gen, lsn, seg, ext, flo, new, keep, next, cur⟩ with
  | false =>
    have HG : Aside (gg = []) := ⟨by rw [HGG.out, if_neg (fun h => by rw [hcan] at h; cases h.1)]⟩
    have H5 : Aside (Sat E w2 (HP.rdisk y A * q)) := ⟨h4.drop2⟩
    clear h4 hcan
    go_wp2
    go_ret
    rw [HG.out]
    exact ⟨_, rfl, H5.out.row_nil _ _ _⟩
  | true =>
    have hx0 : 0 ≤ ext := canA_ext hcan
    obtain ⟨x, rfl⟩ : ∃ x : Nat, ext = (x : Int) := ⟨ext.toNat, by omega⟩
    have k4 := h4.s2.cell 4
    simp only [List.getElem?_toArray, List.getElem?_cons_zero, List.getElem?_cons_succ] at k4
    by_cases hxt : 2147483647 < (x : Int)
    · have HG : Aside (gg = []) := ⟨by rw [HGG.out, if_neg (fun h => by omega)]⟩
      have H5 : Aside (Sat E w2 (HP.rdisk y A * q)) := ⟨h4.drop2⟩
      clear h4 hcan
      go_wp2
      go_ret
      rw [HG.out]
      exact ⟨_, rfl, H5.out.row_nil _ _ _⟩
    · have H5 := Aside.mk h4
      have HC := Aside.mk hcan
      clear h4 hcan
      go_wp2
      clear k4
      go_loopw [26] (fun v26 wr => ∃ k : Nat, v26 = .int .i64 k ∧ k ≤ n ∧ Aside ((l.take k).all Ftr.ok = true) ∧ Aside (Sat E wr (HP.rdisk y A * (HP.pt bA (.cells #[.int .i64 seq, .int .i64 gen, .int .i64 lsn, .int .i64 seg, .int .i64 (x : Nat), .int .i64 flo, .int .i64 new, .int .i64 keep, .int .i64 next, .int .i64 cur] 24) * q)))) (fun i _ => n - (intOf i).toNat)
      case atStart => exact ⟨0, rfl, Nat.zero_le _, ⟨rfl⟩, H5⟩
      case round =>
        clear H5
        obtain ⟨k, rfl, hk, HB, HS⟩ := hrel
        by_cases hlt : k < n
        · have hlt1 : (k : Int) < (n : Int) := by omega
          have hlt0 : (0 : Int) ≤ (k : Int) := by omega
          obtain ⟨f, hf⟩ : ∃ f, l[k]? = some f := ⟨_, List.getElem?_eq_getElem (by rw [HQ.out.2.1]; exact hlt)⟩
          obtain ⟨g, o, hV, gx⟩ := ftr_at (HQ.out.1 _ HS.out.right.right) hf
          have c0 : wr.cell? ⟨g, o + k * 8, none⟩ = some (.int .i64 f.number) := gx 0 _ rfl
          have c1 : wr.cell? ⟨g, o + k * 8 + 1, none⟩ = some (.int .i64 f.gen) := gx 1 _ rfl
          have c2 : wr.cell? ⟨g, o + k * 8 + 2, none⟩ = some (.int .i64 f.level) := gx 2 _ rfl
          have c3 : wr.cell? ⟨g, o + k * 8 + 3, none⟩ = some (.int .i64 f.rank) := gx 3 _ rfl
          have c4 : wr.cell? ⟨g, o + k * 8 + 4, none⟩ = some (.int .i64 f.mn) := gx 4 _ rfl
          have c5 : wr.cell? ⟨g, o + k * 8 + 5, none⟩ = some (.int .i64 f.mx) := gx 5 _ rfl
          have c6 : wr.cell? ⟨g, o + k * 8 + 6, none⟩ = some (.int .i64 f.bytes) := gx 6 _ rfl
          have c7 : wr.cell? ⟨g, o + k * 8 + 7, none⟩ = some (.slice f.pA f.pn f.pc) := gx 7 _ rfl
          rw [hV]
          have HF := Aside.mk hf
          have HFO : Aside (f.ok = (decide (0 ≤ f.bytes) && decide (f.bytes ≤ 2147483647) && decide (1 ≤ f.number))) := ⟨rfl⟩
          have H6 := Aside.mk (HS.out.alloc (.cells #[.int .i64 f.number, .int .i64 f.gen, .int .i64 f.level, .int .i64 f.rank, .int .i64 f.mn, .int .i64 f.mx, .int .i64 f.bytes, .slice f.pA f.pn f.pc] 33)).right
          have HBAD : Aside (f.ok = false → gg = []) := ⟨fun ho => by
            rw [HGG.out, if_neg]
            intro h
            have := List.all_eq_true.1 h.2.2 f (List.mem_of_getElem? HF.out)
            rw [ho] at this
            cases this⟩
          clear hf gx hV HS
          by_cases b0 : f.bytes < 0
          · have HG : Aside (gg = []) := ⟨HBAD.out (by rw [HFO.out, decide_eq_false (by omega)]; rfl)⟩
            have H7 : Aside (Sat E _ (HP.rdisk y A * q)) := ⟨H6.out.drop2⟩
            clear HFO HBAD
            go_wp2
            go_ret
            rw [HG.out]
            exact ⟨_, rfl, H7.out.row_nil _ _ _⟩
          · by_cases b1 : 2147483647 < f.bytes
            · have HG : Aside (gg = []) := ⟨HBAD.out (by rw [HFO.out, decide_eq_true (show 0 ≤ f.bytes by omega), decide_eq_false (show ¬ f.bytes ≤ 2147483647 by omega)]; rfl)⟩
              have H7 : Aside (Sat E _ (HP.rdisk y A * q)) := ⟨H6.out.drop2⟩
              clear HFO HBAD
              go_wp2
              go_ret
              rw [HG.out]
              exact ⟨_, rfl, H7.out.row_nil _ _ _⟩
            · by_cases b2 : f.number < 1
              · have HG : Aside (gg = []) := ⟨HBAD.out (by rw [HFO.out, decide_eq_true (show 0 ≤ f.bytes by omega), decide_eq_true (show f.bytes ≤ 2147483647 by omega), decide_eq_false (show ¬ 1 ≤ f.number by omega)]; rfl)⟩
                have H7 : Aside (Sat E _ (HP.rdisk y A * q)) := ⟨H6.out.drop2⟩
                clear HFO HBAD
                go_wp2
                go_ret
                rw [HG.out]
                exact ⟨_, rfl, H7.out.row_nil _ _ _⟩
              · have HB2 : Aside ((l.take (k + 1)).all Ftr.ok = true) := ⟨by rw [okAll_take HF.out, HB.out, HFO.out, decide_eq_true (show 0 ≤ f.bytes by omega), decide_eq_true (show f.bytes ≤ 2147483647 by omega), decide_eq_true (show 1 ≤ f.number by omega)]; rfl⟩
                clear HFO HBAD
                go_wp2
                go_roundw
                case rel => exact ⟨k + 1, by go_num, by omega, HB2, H6⟩
                case measure => simp [intOf]; omega
        · obtain rfl : n = k := by omega
          have hkk : ¬ (n : Int) < (n : Int) := by omega
          have hall : l.all Ftr.ok = true := by
            have h := HB.out
            rwa [List.take_of_length_le (by rw [HQ.out.2.1]; exact Nat.le_refl _)] at h
          have HG : Aside (gg = headG A gen.toNat seg x ++ l.flatMap (ftG A)) := ⟨by
            rw [HGG.out, if_pos ⟨HC.out, by omega, hall⟩]
            unfold headG
            rw [Int.toNat_natCast]
            simp only [List.append_assoc]⟩
          have HOK : Aside (∀ f ∈ l, f.ok = true) := ⟨by rwa [List.all_eq_true] at hall⟩
          have HSZ : Aside (1 + longN A (mB ++ decB gen.toNat) + longN A (tB ++ decB gen.toNat) + x + (l.flatMap (ftG A)).length ≤ 4000000) := ⟨by
            have h := HSM.out
            rw [HG.out] at h
            unfold headG at h
            simp only [List.length_append, pairsG_length] at h
            omega⟩
          have hgs : (decB gen.toNat).size ≤ 19 := decB_size 18 gen.toNat (by have := HQ.out.2.2.2.1; unfold wf64 at this; omega)
          have hms : (mB ++ decB gen.toNat).size ≤ 20 := by rw [ByteArray.size_append]; show 1 + _ ≤ 20; omega
          have hts : (tB ++ decB gen.toNat).size ≤ 20 := by rw [ByteArray.size_append]; show 1 + _ ≤ 20; omega
          have HNS : Aside ((mB ++ decB gen.toNat).size + 2 ≤ maxLen ∧ (tB ++ decB gen.toNat).size + 2 ≤ maxLen) := ⟨by unfold maxLen; omega, by unfold maxLen; omega⟩
          have c1 := HS.out.s2.cell 1
          simp only [List.getElem?_toArray, List.getElem?_cons_zero, List.getElem?_cons_succ] at c1
          clear hall hgs hms hts HGG
          go_wp2_with fail
          refine (refnames_ok gen _ HQ.out.2.2.2.1).mono ?_
          rintro e w3 ⟨rfl, hw3⟩
          subst w3
          have h7 := HS.out.alloc (.cells #[.int .i64 1, .string anchorS, .int .i64 0, .int .i64 0] 37)
          have H7 : Aside (Sat E (wr.alloc (.cells #[.int .i64 1, .string anchorS, .int .i64 0, .int .i64 0] 37)) (HP.rdisk y A * (HP.row 37 4 (.slice (some ⟨wr.heap.size, 0, none⟩) 1 1) (1) ((pairsG anchorS 1).flatMap Sgp.vals) * (HP.pt bA (.cells #[.int .i64 seq, .int .i64 gen, .int .i64 lsn, .int .i64 seg, .int .i64 (x : Nat), .int .i64 flo, .int .i64 new, .int .i64 keep, .int .i64 next, .int .i64 cur] 24) * q)))) := ⟨(h7.row_mk (off := 0) (n := 1) (cap := 1) (size := 4) (cs := (pairsG anchorS 1).flatMap Sgp.vals) (Nat.le_refl _) (by unfold maxLen; omega) (by simp) rfl).s2⟩
          clear h7 HS c1
          unfold anchorS at H7
          go_wp2_with fail
          refine (ref20_pairs E _ y A (mB ++ decB gen.toNat) _ HNS.out.1 (by have := HSZ.out; omega) H7.out).mono ?_
          rintro e w4 ⟨v4, rfl, h8⟩
          obtain ⟨V4, c4, rfl, -, -⟩ := h8.row_slice
          have H8 := Aside.mk (And.intro (h8.s3) h8.row_cells)
          have HLL : Aside (longN A (mB ++ decB gen.toNat) ≤ 4000000 ∧ longN A (tB ++ decB gen.toNat) ≤ 4000000 ∧ 1 + longN A (mB ++ decB gen.toNat) + longN A (tB ++ decB gen.toNat) + x ≤ 4000000) := ⟨by have := HSZ.out; omega⟩
          have HPL := Aside.mk (fun nm k => vals_length (pairsG nm k))
          clear h8 H7
          go_wp2_with (at_builtin; refine wpList_append_row slGrp rfl rfl (by rfl) (by rfl) H8.out.1 H8.out.2 (by rw [vals_length, pairsG_length]) (gvals_one _) (by have := HLL.out; unfold maxLen; omega) (by have := HLL.out; omega) (fun v5 w5 hw5 => ?_); obtain ⟨A5, c5, rfl, -, -⟩ := hw5.row_slice; have HW5 := Aside.mk hw5; clear hw5)
          obtain ⟨L1, hL1⟩ : ∃ L1, L1 = longN A (mB ++ decB gen.toNat) := ⟨_, rfl⟩
          obtain ⟨L2, hL2⟩ : ∃ L2, L2 = longN A (tB ++ decB gen.toNat) := ⟨_, rfl⟩
          have HA1 : Aside (Sat E w5 (HP.rdisk y A * (HP.row 37 4 (.slice A5 (1 + longN A (mB ++ decB gen.toNat)) c5) (1 + longN A (mB ++ decB gen.toNat)) ((pairsG anchorS 1 ++ pairsG (mB ++ decB gen.toNat) (longN A (mB ++ decB gen.toNat))).flatMap Sgp.vals) * (HP.pt bA (.cells #[.int .i64 seq, .int .i64 gen, .int .i64 lsn, .int .i64 seg, .int .i64 (x : Nat), .int .i64 flo, .int .i64 new, .int .i64 keep, .int .i64 next, .int .i64 cur] 24) * q)))) := ⟨by
            rw [List.flatMap_append]
            exact HW5.out.drop2.s2⟩
          clear HW5 H8
          rw [← hL1] at HLL HSZ HA1 ⊢
          have HL1 := Aside.mk hL1
          clear hL1
          refine (ref20_pairs E _ y A (tB ++ decB gen.toNat) _ HNS.out.2 (by rw [← hL2]; have := HLL.out; omega) HA1.out).mono ?_
          rintro e w6 ⟨v6, rfl, h9⟩
          rw [← hL2] at h9 HLL HSZ
          obtain ⟨V6, c6, rfl, -, -⟩ := h9.row_slice
          have H9 := Aside.mk (And.intro (h9.s3) h9.row_cells)
          have HL2 := Aside.mk hL2
          clear h9 HA1 hL2
          go_wp2_with (at_builtin; refine wpList_append_row slGrp rfl rfl (by rfl) (by rfl) H9.out.1 H9.out.2 (by rw [vals_length, pairsG_length]) (gvals_one _) (by have := HLL.out; unfold maxLen; omega) (by have := HLL.out; omega) (fun v7 w7 hw7 => ?_); obtain ⟨A7, c7, rfl, -, -⟩ := hw7.row_slice; have k4 := hw7.s4.cell 4; simp only [List.getElem?_toArray, List.getElem?_cons_zero, List.getElem?_cons_succ] at k4; have HW7 := Aside.mk hw7; clear hw7)
          obtain ⟨HD, hHD⟩ : ∃ HD, HD = pairsG anchorS 1 ++ pairsG (mB ++ decB gen.toNat) L1 ++ pairsG (tB ++ decB gen.toNat) L2 := ⟨_, rfl⟩
          have HA2 : Aside (Sat E w7 (HP.row 37 4 (.slice A7 (1 + L1 + L2) c7) (1 + L1 + L2 + 0) ((HD ++ pairsG (nameW seg) 0).flatMap Sgp.vals) * (HP.rdisk y A * (HP.pt bA (.cells #[.int .i64 seq, .int .i64 gen, .int .i64 lsn, .int .i64 seg, .int .i64 (x : Nat), .int .i64 flo, .int .i64 new, .int .i64 keep, .int .i64 next, .int .i64 cur] 24) * q)))) := ⟨by
            rw [show pairsG (nameW seg) 0 = [] from rfl, List.append_nil, hHD, List.flatMap_append]
            exact HW7.out.drop2⟩
          have HHD : Aside (HD.length = 1 + L1 + L2 ∧ headG A gen.toNat seg x = HD ++ pairsG (nameW seg) x) := ⟨by rw [hHD, List.length_append, List.length_append, pairsG_length, pairsG_length, pairsG_length], by rw [hHD, HL1.out, HL2.out]; rfl⟩
          obtain ⟨N0, hN0⟩ : ∃ N0, N0 = 1 + L1 + L2 := ⟨_, rfl⟩
          rw [← hN0] at HA2 HLL HSZ HHD ⊢
          clear HW7 H9 hHD hN0 HL1 HL2
          go_loopw [11, 63] (fun v11 v63 wr => ∃ k : Nat, v63 = .int .i64 k ∧ k ≤ x ∧ Aside (Sat E wr (HP.row 37 4 v11 (N0 + k) ((HD ++ pairsG (nameW seg) k).flatMap Sgp.vals) * (HP.rdisk y A * (HP.pt bA (.cells #[.int .i64 seq, .int .i64 gen, .int .i64 lsn, .int .i64 seg, .int .i64 (x : Nat), .int .i64 flo, .int .i64 new, .int .i64 keep, .int .i64 next, .int .i64 cur] 24) * q))))) (fun _ i _ => x - (intOf i).toNat)
          case atStart => exact ⟨0, rfl, Nat.zero_le _, HA2⟩
          case round =>
            clear HA2 k4
            obtain ⟨k, rfl, hkx, HS⟩ := hrel
            by_cases hlt2 : k < x
            · have hlt3 : (k : Int) < (x : Int) := by omega
              have k3 := HS.out.s3.cell 3
              simp only [List.getElem?_toArray, List.getElem?_cons_zero, List.getElem?_cons_succ] at k3
              obtain ⟨Av, cv, rfl, -, -⟩ := HS.out.row_slice
              have HT : Aside ((HD ++ pairsG (nameW seg) (k + 1)).flatMap Sgp.vals = (HD ++ pairsG (nameW seg) k).flatMap Sgp.vals ++ [.int .i64 1, .string (nameW seg), .int .i64 k, .int .i64 0]) := ⟨by rw [pairsG_step, ← List.append_assoc, List.flatMap_append (xs := HD ++ pairsG (nameW seg) k)]; rfl⟩
              go_wp2_with fail
              refine (ref_wname seg _ HQ.out.2.2.2.2).mono ?_
              rintro e w8 ⟨rfl, hw8⟩
              subst w8
              clear k3
              go_wp2_with (at_builtin; refine wpList_append_new slGrp rfl rfl (by rfl) (by rfl) HS.out (by rfl) (by rfl) (by have := HLL.out; unfold maxLen; omega) (by have := HLL.out; omega) (fun v9 w9 hw9 => ?_); have HW9 := Aside.mk hw9; clear hw9)
              have H6 : Aside (Sat E w9 (HP.row 37 4 v9 (N0 + (k + 1)) ((HD ++ pairsG (nameW seg) (k + 1)).flatMap Sgp.vals) * (HP.rdisk y A * (HP.pt bA (.cells #[.int .i64 seq, .int .i64 gen, .int .i64 lsn, .int .i64 seg, .int .i64 (x : Nat), .int .i64 flo, .int .i64 new, .int .i64 keep, .int .i64 next, .int .i64 cur] 24) * q)))) := ⟨by rw [HT.out, ← Nat.add_assoc]; exact HW9.out⟩
              clear HW9 HT HS
              go_roundw
              case rel => exact ⟨k + 1, by go_num, by omega, H6⟩
              case measure => simp [intOf]; omega
            · obtain rfl : x = k := by omega
              have hxx : ¬ (x : Int) < (x : Int) := by omega
              obtain ⟨Av, cv, rfl, -, -⟩ := HS.out.row_slice
              have HHL : Aside ((headG A gen.toNat seg x).length = N0 + x) := ⟨by rw [HHD.out.2, List.length_append, pairsG_length, HHD.out.1]⟩
              have HA3 : Aside (∃ z, z = (headG A gen.toNat seg x ++ (l.take 0).flatMap (ftG A)).length ∧ Sat E wr (HP.row 37 4 (.slice Av (N0 + x) cv) (z) ((headG A gen.toNat seg x ++ (l.take 0).flatMap (ftG A)).flatMap Sgp.vals) * (HP.rdisk y A * (HP.pt bA (.cells #[.int .i64 seq, .int .i64 gen, .int .i64 lsn, .int .i64 seg, .int .i64 (x : Nat), .int .i64 flo, .int .i64 new, .int .i64 keep, .int .i64 next, .int .i64 cur] 24) * q)))) := ⟨_, rfl, by
                rw [List.take_zero, List.flatMap_nil, List.append_nil, HHL.out, HHD.out.2]; exact HS.out⟩
              clear HS HHD
              go_wp2
              go_loopw [11, 77] (fun v11 v77 wr => ∃ i : Nat, v77 = .int .i64 i ∧ i ≤ n ∧ Aside (∃ z, z = (headG A gen.toNat seg x ++ (l.take i).flatMap (ftG A)).length ∧ Sat E wr (HP.row 37 4 v11 (z) ((headG A gen.toNat seg x ++ (l.take i).flatMap (ftG A)).flatMap Sgp.vals) * (HP.rdisk y A * (HP.pt bA (.cells #[.int .i64 seq, .int .i64 gen, .int .i64 lsn, .int .i64 seg, .int .i64 (x : Nat), .int .i64 flo, .int .i64 new, .int .i64 keep, .int .i64 next, .int .i64 cur] 24) * q))))) (fun _ i _ => n - (intOf i).toNat)
              case atStart => exact ⟨0, rfl, Nat.zero_le _, HA3⟩
              case round =>
                clear HA3
                obtain ⟨i, rfl, hin, HZ⟩ := hrel
                by_cases hil : i < n
                · have hil1 : (i : Int) < (n : Int) := by omega
                  have hil0 : (0 : Int) ≤ (i : Int) := by omega
                  obtain ⟨z, hz, h⟩ := HZ.out
                  obtain ⟨f, hf⟩ : ∃ f, l[i]? = some f := ⟨_, List.getElem?_eq_getElem (by rw [HQ.out.2.1]; exact hil)⟩
                  have hfm := List.mem_of_getElem? hf
                  obtain ⟨g, o, hV, gx⟩ := ftr_at (HQ.out.1 _ h.right.right.right) hf
                  have c0 : wr.cell? ⟨g, o + i * 8, none⟩ = some (.int .i64 f.number) := gx 0 _ rfl
                  have c1 : wr.cell? ⟨g, o + i * 8 + 1, none⟩ = some (.int .i64 f.gen) := gx 1 _ rfl
                  have c2 : wr.cell? ⟨g, o + i * 8 + 2, none⟩ = some (.int .i64 f.level) := gx 2 _ rfl
                  have c3 : wr.cell? ⟨g, o + i * 8 + 3, none⟩ = some (.int .i64 f.rank) := gx 3 _ rfl
                  have c4 : wr.cell? ⟨g, o + i * 8 + 4, none⟩ = some (.int .i64 f.mn) := gx 4 _ rfl
                  have c5 : wr.cell? ⟨g, o + i * 8 + 5, none⟩ = some (.int .i64 f.mx) := gx 5 _ rfl
                  have c6 : wr.cell? ⟨g, o + i * 8 + 6, none⟩ = some (.int .i64 f.bytes) := gx 6 _ rfl
                  have c7 : wr.cell? ⟨g, o + i * 8 + 7, none⟩ = some (.slice f.pA f.pn f.pc) := gx 7 _ rfl
                  rw [hV]
                  have hwf := HQ.out.2.2.1 f hfm
                  have hok := HOK.out f hfm
                  unfold Ftr.ok at hok
                  simp only [Bool.and_eq_true, decide_eq_true_eq] at hok
                  obtain ⟨dn, hdn⟩ : ∃ dn : Nat, dn = f.number.toNat := ⟨_, rfl⟩
                  have hdl : dn ≤ 9223372036854775807 := by have := hwf.1; unfold wf64 at this; omega
                  have hds := decB_size 18 dn (by omega)
                  obtain ⟨sg, hsg⟩ : ∃ sg : Nat, groupsI f.bytes = (sg : Int) := ⟨(groupsI f.bytes).toNat, by unfold groupsI; split <;> omega⟩
                  have HTK := Aside.mk (flat_take (ftG A) hf)
                  have HFT : Aside (ftG A f = pairsG (fB ++ decB dn) 1 ++ (pairsG (iB ++ decB dn) (longN A (iB ++ decB dn)) ++ stripesG (cB ++ decB dn) sg f.gen)) := ⟨by unfold ftG; rw [← hdn, hsg, Int.toNat_natCast]⟩
                  have hle := flat_take_le (ftG A) l (i + 1)
                  rw [HTK.out, List.length_append, HFT.out, List.length_append, List.length_append, pairsG_length, pairsG_length, stripesG_length] at hle
                  obtain ⟨LI, hLI⟩ : ∃ LI, LI = longN A (iB ++ decB dn) := ⟨_, rfl⟩
                  rw [← hLI] at HFT hle
                  have HLE : Aside (z + (1 + (LI + sg)) ≤ 4000000) := ⟨by rw [hz, List.length_append, HHL.out]; have := HSZ.out; have := HLL.out; omega⟩
                  have HIN : Aside ((iB ++ decB dn).size + 2 ≤ maxLen) := ⟨by rw [ByteArray.size_append]; unfold maxLen; show 1 + _ + 2 ≤ _; omega⟩
                  have HBY : Aside (wf64 f.bytes ∧ wf64 f.number) := ⟨hwf.2, hwf.1⟩
                  have HSG := Aside.mk hsg
                  have HDN := Aside.mk hdn.symm
                  have HLI := Aside.mk hLI
                  obtain ⟨P, hP⟩ : ∃ P, P = headG A gen.toNat seg x ++ (l.take i).flatMap (ftG A) := ⟨_, rfl⟩
                  have HP1 := Aside.mk hP
                  rw [← hP] at h hz
                  have HZL := Aside.mk hz
                  obtain ⟨Az, cz, rfl, -, -⟩ := h.row_slice
                  obtain ⟨bF, hbF⟩ : ∃ bF, bF = wr.heap.size := ⟨_, rfl⟩
                  have h3 := h.alloc (.cells #[.int .i64 f.number, .int .i64 f.gen, .int .i64 f.level, .int .i64 f.rank, .int .i64 f.mn, .int .i64 f.mx, .int .i64 f.bytes, .slice f.pA f.pn f.pc] 33)
                  rw [← hbF] at h3
                  have H3 : Aside (Sat E (wr.alloc (.cells #[.int .i64 f.number, .int .i64 f.gen, .int .i64 f.level, .int .i64 f.rank, .int .i64 f.mn, .int .i64 f.mx, .int .i64 f.bytes, .slice f.pA f.pn f.pc] 33)) (HP.row 37 4 (.slice Az z cz) (z) ((P).flatMap Sgp.vals) * (HP.pt bF (.cells #[.int .i64 f.number, .int .i64 f.gen, .int .i64 f.level, .int .i64 f.rank, .int .i64 f.mn, .int .i64 f.mx, .int .i64 f.bytes, .slice f.pA f.pn f.pc] 33) * (HP.rdisk y A * (HP.pt bA (.cells #[.int .i64 seq, .int .i64 gen, .int .i64 lsn, .int .i64 seg, .int .i64 (x : Nat), .int .i64 flo, .int .i64 new, .int .i64 keep, .int .i64 next, .int .i64 cur] 24) * q))))) := ⟨h3.s2⟩
                  have e0 := H3.out.s2.cell 0
                  simp only [List.getElem?_toArray, List.getElem?_cons_zero, List.getElem?_cons_succ] at e0
                  clear hf hfm gx hwf hok hsg hle h h3 hP hds hdl hV hz HZ hLI hdn
                  go_wp2_with fail
                  rw [← hbF]
                  clear hbF
                  refine (ref19_name fB f.number _ (by show 1 ≤ 10; omega) HBY.out.2).mono ?_
                  rintro e w8 ⟨rfl, hw8⟩
                  rw [← hw8] at H3
                  rw [HDN.out]
                  clear hw8
                  clear c0 c1 c2 c3 c4 c5 c6 c7 e0
                  go_wp2_with (at_builtin; refine wpList_append_new slGrp rfl rfl (by rfl) (by rfl) H3.out (by rfl) (by rfl) (by have := HLE.out; unfold maxLen; omega) (by have := HLE.out; omega) (fun v9 w9 hw9 => ?_); obtain ⟨A9, c9, rfl, -, -⟩ := hw9.row_slice; have e0 := hw9.s2.cell 0; simp only [List.getElem?_toArray, List.getElem?_cons_zero, List.getElem?_cons_succ] at e0; have HW9 := Aside.mk hw9; clear hw9)
                  refine (ref19_name iB f.number _ (by show 1 ≤ 10; omega) HBY.out.2).mono ?_
                  rintro e w8 ⟨rfl, hw8⟩
                  subst w8
                  rw [HDN.out]
                  have H9 : Aside (Sat E w9 (HP.rdisk y A * (HP.row 37 4 (.slice A9 (z + 1) c9) (z + 1) ((P ++ pairsG (fB ++ decB dn) 1).flatMap Sgp.vals) * (HP.pt bF (.cells #[.int .i64 f.number, .int .i64 f.gen, .int .i64 f.level, .int .i64 f.rank, .int .i64 f.mn, .int .i64 f.mx, .int .i64 f.bytes, .slice f.pA f.pn f.pc] 33) * (HP.pt bA (.cells #[.int .i64 seq, .int .i64 gen, .int .i64 lsn, .int .i64 seg, .int .i64 (x : Nat), .int .i64 flo, .int .i64 new, .int .i64 keep, .int .i64 next, .int .i64 cur] 24) * q))))) := ⟨by
                    rw [List.flatMap_append]
                    exact HW9.out.s3⟩
                  clear e0 H3 HW9
                  go_wp2_with fail
                  refine (ref20_pairs E _ y A (iB ++ decB dn) _ HIN.out (by rw [← HLI.out]; have := HLE.out; omega) H9.out).mono ?_
                  rintro e w10 ⟨v10, rfl, h10⟩
                  rw [← HLI.out] at h10
                  obtain ⟨V10, c10, rfl, -, -⟩ := h10.row_slice
                  have H10 := Aside.mk (And.intro h10.s3 h10.row_cells)
                  clear h10 H9
                  go_wp2_with (at_builtin; refine wpList_append_row slGrp rfl rfl (by rfl) (by rfl) H10.out.1 H10.out.2 (by rw [vals_length, pairsG_length]) (gvals_one _) (by have := HLE.out; unfold maxLen; omega) (by have := HLE.out; omega) (fun v7 w7 hw7 => ?_); obtain ⟨A7, c7, rfl, -, -⟩ := hw7.row_slice; have e6 := hw7.s4.cell 6; simp only [List.getElem?_toArray, List.getElem?_cons_zero, List.getElem?_cons_succ] at e6; have HW7 := Aside.mk hw7; clear hw7)
                  refine (ref6_groups f.bytes _ HBY.out.1).mono ?_
                  rintro e w8 ⟨rfl, hw8⟩
                  subst w8
                  rw [HSG.out]
                  obtain ⟨R, hR⟩ : ∃ R, R = P ++ pairsG (fB ++ decB dn) 1 ++ pairsG (iB ++ decB dn) LI := ⟨_, rfl⟩
                  have HR0 := Aside.mk hR
                  have H7 : Aside (Sat E w7 (HP.row 37 4 (.slice A7 (z + 1 + LI) c7) (z + 1 + LI + 0) ((R ++ stripesG (cB ++ decB dn) 0 f.gen).flatMap Sgp.vals) * (HP.pt bF (.cells #[.int .i64 f.number, .int .i64 f.gen, .int .i64 f.level, .int .i64 f.rank, .int .i64 f.mn, .int .i64 f.mx, .int .i64 f.bytes, .slice f.pA f.pn f.pc] 33) * (HP.rdisk y A * (HP.pt bA (.cells #[.int .i64 seq, .int .i64 gen, .int .i64 lsn, .int .i64 seg, .int .i64 (x : Nat), .int .i64 flo, .int .i64 new, .int .i64 keep, .int .i64 next, .int .i64 cur] 24) * q))))) := ⟨by
                    rw [show stripesG (cB ++ decB dn) 0 f.gen = [] from rfl, List.append_nil, hR, List.flatMap_append (xs := P ++ pairsG (fB ++ decB dn) 1)]
                    exact (HW7.out.drop2).perm (by ac_rfl)⟩
                  have HRL : Aside (R.length = z + 1 + LI) := ⟨by rw [hR, List.length_append, List.length_append, pairsG_length, pairsG_length, ← HZL.out]⟩
                  obtain ⟨zR, hzR⟩ : ∃ zR, zR = z + 1 + LI := ⟨_, rfl⟩
                  have hzs : zR + sg ≤ 4000000 := by have := HLE.out; omega
                  rw [← hzR] at H7 HRL ⊢
                  clear HW7 H10 hR hzR
                  obtain ⟨wo, hwo⟩ : ∃ wo : World, wo = w7 := ⟨_, rfl⟩
                  subst hwo
                  go_wp2
                  clear e6
                  go_loopw [11, 98] (fun v11 v98 wi => ∃ j : Nat, v98 = .int .i64 j ∧ j ≤ sg ∧ Aside (Sat E wi (HP.row 37 4 v11 (zR + j) ((R ++ stripesG (cB ++ decB dn) j f.gen).flatMap Sgp.vals) * (HP.pt bF (.cells #[.int .i64 f.number, .int .i64 f.gen, .int .i64 f.level, .int .i64 f.rank, .int .i64 f.mn, .int .i64 f.mx, .int .i64 f.bytes, .slice f.pA f.pn f.pc] 33) * (HP.rdisk y A * (HP.pt bA (.cells #[.int .i64 seq, .int .i64 gen, .int .i64 lsn, .int .i64 seg, .int .i64 (x : Nat), .int .i64 flo, .int .i64 new, .int .i64 keep, .int .i64 next, .int .i64 cur] 24) * q)))))) (fun _ t _ => sg - (intOf t).toNat)
                  case atStart => exact ⟨0, rfl, Nat.zero_le _, H7⟩
                  case round =>
                    clear H7
                    obtain ⟨j, rfl, hj, HI⟩ := hrel
                    obtain ⟨Av, cv, rfl, -, -⟩ := HI.out.row_slice
                    by_cases hjl : j < sg
                    · have hjl1 : (j : Int) < (sg : Int) := by omega
                      have HID := Aside.mk HI.out.drew
                      have e0 := HID.out.s2.cell 0
                      have e1 := HID.out.s2.cell 1
                      simp only [List.getElem?_toArray, List.getElem?_cons_zero, List.getElem?_cons_succ] at e0 e1
                      have HT : Aside ((R ++ stripesG (cB ++ decB dn) (j + 1) f.gen).flatMap Sgp.vals = (R ++ stripesG (cB ++ decB dn) j f.gen).flatMap Sgp.vals ++ [.int .i64 2, .string (cB ++ decB dn), .int .i64 j, .int .i64 f.gen]) := ⟨by rw [stripesG_step, ← List.append_assoc, List.flatMap_append (xs := R ++ stripesG (cB ++ decB dn) j f.gen)]; rfl⟩
                      clear HI
                      go_wp2
                      refine region_R [3, 8, 9] [3] (fun W => W = wr.drew) #[false, false, false, false, false, false, false, false, false, false, false] (by kernel_rfl) rfl rfl ?_
                      refine wpR_pu 0 #[true, false, false, false, false, false, false, false, false, false, false] rfl onlyN_noPanic (by kernel_rfl) (fun K hK => ?_); (go_simp; try go_bits); refine hK _ ?_; clear hK K
                      refine wpR_rd 1 #[true, true, false, false, false, false, false, false, false, false, false] rfl onlyN_noPanic (by kernel_rfl) (fun K hK => ?_); (go_simp; try go_bits); refine hK _ ?_; clear hK K
                      refine wpR_rd 2 #[true, true, true, false, false, false, false, false, false, false, false] rfl onlyN_noPanic (by kernel_rfl) (fun K hK => ?_); (go_simp; try go_bits); refine hK _ ?_; clear hK K
                      refine wpR_pu 4 #[true, true, true, false, true, false, false, false, false, false, false] rfl onlyN_noPanic (by kernel_rfl) (fun K hK => ?_); (go_simp; try go_bits); refine hK _ ?_; clear hK K
                      refine wpR_pu 5 #[true, true, true, false, true, true, false, false, false, false, false] rfl onlyN_noPanic (by kernel_rfl) (fun K hK => ?_); (go_simp; try go_bits); refine hK _ ?_; clear hK K
                      refine wpR_held (i := 6) (v := .int .i64 f.gen) #[true, true, true, false, true, true, true, false, false, false, false] rfl onlyN_noPanic (by kernel_rfl) rfl (.inl ⟨rfl, fun w' hT => ?_⟩) ?_
                      · subst hT; go_simp
                      simp only [Act.put, List.setIfInBounds_toArray, List.set_cons_zero, List.set_cons_succ]
                      refine wpR_keep #[true, true, true, true, true, true, true, false, false, false, false] (i := 3) rfl (by kernel_rfl) (fun K hK => ?_)
                      go_simp; refine (ref19_name cB f.number _ (by show 1 ≤ 10; omega) HBY.out.2).mono ?_; rintro e w8 ⟨rfl, hw8⟩; subst w8; rw [HDN.out]; refine hK _ _ rfl ?_; clear hK K e0 e1
                      refine wpR_rd 7 #[true, true, true, true, true, true, true, true, false, false, false] rfl onlyN_noPanic (by kernel_rfl) (fun K hK => ?_); (go_simp; try go_bits); refine hK _ ?_; clear hK K
                      refine wpR_eff #[true, true, true, true, true, true, true, true, true, false, false] (i := 8) rfl (by kernel_rfl) (fun K hK => ?_)
                      go_simp; refine hK _ _ ?_; clear hK K
                      have HX2 := Aside.mk (HID.out.alloc (.cells #[.int .i64 2, .string (cB ++ decB dn), .int .i64 j, .int .i64 f.gen] 37)).right
                      have HF2 : Aside (Cells (wr.drew.alloc (.cells #[.int .i64 2, .string (cB ++ decB dn), .int .i64 j, .int .i64 f.gen] 37)) (some ⟨wr.drew.heap.size, 0, none⟩) [.int .i64 2, .string (cB ++ decB dn), .int .i64 j, .int .i64 f.gen]) := ⟨Cells.fresh wr.drew [.int .i64 2, .string (cB ++ decB dn), .int .i64 j, .int .i64 f.gen] 37 (0, 0)⟩
                      refine wpR_eff #[true, true, true, true, true, true, true, true, true, true, false] (i := 9) rfl (by kernel_rfl) (fun K hK => ?_)
                      refine Eq.mpr (if_pos (by rfl)) ?_; refine wp_append_row (m := 1) (c := 1) slGrp rfl rfl (by rfl) HX2.out HF2.out rfl rfl (by unfold maxLen; omega) (by omega) (fun v9 w9 hw9 => ?_)
                      obtain ⟨A9, c9, rfl, -, -⟩ := hw9.row_slice
                      have HW9 := Aside.mk hw9
                      refine hK _ _ ?_; clear hK K hw9 HX2 HF2 HID
                      refine wpR_rd 10 #[true, true, true, true, true, true, true, true, true, true, true] rfl onlyN_noPanic (by kernel_rfl) (fun K hK => ?_); (go_simp; try go_bits); refine hK _ ?_; clear hK K
                      refine wpR_done (by kernel_rfl) ?_ _
                      simp only [OnlyN]
                      have H6 : Aside (Sat E w9 (HP.row 37 4 (.slice A9 (zR + j + 1) c9) (zR + (j + 1)) ((R ++ stripesG (cB ++ decB dn) (j + 1) f.gen).flatMap Sgp.vals) * (HP.pt bF (.cells #[.int .i64 f.number, .int .i64 f.gen, .int .i64 f.level, .int .i64 f.rank, .int .i64 f.mn, .int .i64 f.mx, .int .i64 f.bytes, .slice f.pA f.pn f.pc] 33) * (HP.rdisk y A * (HP.pt bA (.cells #[.int .i64 seq, .int .i64 gen, .int .i64 lsn, .int .i64 seg, .int .i64 (x : Nat), .int .i64 flo, .int .i64 new, .int .i64 keep, .int .i64 next, .int .i64 cur] 24) * q))))) := ⟨by rw [HT.out, ← Nat.add_assoc]; exact HW9.out⟩
                      clear HW9 HT
                      go_wp2
                      go_roundw
                      case rel => exact ⟨j + 1, by go_num, by omega, H6⟩
                      case measure => simp [intOf]; omega
                    · obtain rfl : sg = j := by omega
                      have hjj : ¬ (sg : Int) < (sg : Int) := by omega
                      have H8 : Aside (∃ z, z = (headG A gen.toNat seg x ++ (l.take (i + 1)).flatMap (ftG A)).length ∧ Sat E wr (HP.row 37 4 (.slice Av (zR + sg) cv) (z) ((headG A gen.toNat seg x ++ (l.take (i + 1)).flatMap (ftG A)).flatMap Sgp.vals) * (HP.rdisk y A * (HP.pt bA (.cells #[.int .i64 seq, .int .i64 gen, .int .i64 lsn, .int .i64 seg, .int .i64 (x : Nat), .int .i64 flo, .int .i64 new, .int .i64 keep, .int .i64 next, .int .i64 cur] 24) * q)))) := ⟨_, rfl, by
                        have e : headG A gen.toNat seg x ++ (l.take (i + 1)).flatMap (ftG A) = R ++ stripesG (cB ++ decB dn) sg f.gen := by
                          rw [HTK.out, HFT.out, ← List.append_assoc, ← HP1.out, ← List.append_assoc, ← List.append_assoc, ← HR0.out]
                        rw [e, List.length_append, stripesG_length, HRL.out]
                        exact HI.out.drop2⟩
                      clear HI
                      go_wp2
                      go_roundw
                      case rel => exact ⟨i + 1, by go_num, by omega, H8⟩
                      case measure => simp [intOf]; omega
                · obtain rfl : n = i := by omega
                  have hii : ¬ (n : Int) < (n : Int) := by omega
                  obtain ⟨z, hz, h⟩ := HZ.out
                  rw [List.take_of_length_le (by rw [HQ.out.2.1]; exact Nat.le_refl _), ← HG.out] at hz h
                  subst hz
                  obtain ⟨Az, cz, rfl, -, -⟩ := h.row_slice
                  have H9 : Aside (Sat E wr (HP.row 37 4 (.slice Az gg.length cz) (gg.length) ((gg).flatMap Sgp.vals) * (HP.rdisk y A * q))) := ⟨h.perm (by ac_rfl : _ = HP.pt bA (.cells #[.int .i64 seq, .int .i64 gen, .int .i64 lsn, .int .i64 seg, .int .i64 (x : Nat), .int .i64 flo, .int .i64 new, .int .i64 keep, .int .i64 next, .int .i64 cur] 24) * (HP.row 37 4 (.slice Az gg.length cz) (gg.length) ((gg).flatMap Sgp.vals) * (HP.rdisk y A * q))) |>.right⟩
                  clear HZ h
                  go_wp2
                  go_ret
                  exact ⟨_, rfl, H9.out⟩
theorem awakeG : groupsG (Dk.new 10) ⟨1, 1, 0, 1, 0, 0, 0, 0, 1, 0⟩ [] = [⟨1, anchorS, 0, 0⟩, ⟨1, mB ++ decB 1, 0, 0⟩, ⟨1, tB ++ decB 1, 0, 0⟩] := by
  have hl : ∀ f, longN (Dk.new 10) f = 1 := fun f => rfl
  unfold groupsG
  rw [if_pos ⟨by decide, by decide, rfl⟩]
  simp only [hl, show ((1 : Int)).toNat = 1 from rfl, show ((0 : Int)).toNat = 0 from rfl]
  rfl
set_option maxHeartbeats 2000000 in
set_option maxRecDepth 100000 in
theorem awake20_ok (E : Env) (q : HP) (w : World) (hq : ∀ w, Sat E w q → Lib.TabIs Tryz.prog w "internal/strconv.uint64pow10" .u64 Lib.pow10Tab) (hw : Sat E w q) :
    Calls Tryz.prog 12 #[] w fun e w' => e = .returned (.bool true) ∧ Sat E w' q := by
  have HQ := Aside.mk (And.intro hq hw)
  clear hq hw
  go_enter Tryz.func12, Tryz.ntmps12
  go_wp2_with fail
  refine (disk_new_ok E q 10 _ ⟨by omega, by omega⟩ HQ.out.2).mono ?_
  rintro e w1 ⟨d, rfl, h1⟩
  have H1 := Aside.mk h1
  clear h1
  go_wp2_with fail
  refine (scrub_groups E q d (Dk.new 10) ⟨1, 1, 0, 1, 0, 0, 0, 0, 1, 0⟩ [] none 0 0 _ rfl (by omega) (show wf64 1 by unfold wf64; omega) (show wf64 1 by unfold wf64; omega) (fun f hf => by cases hf) (by rw [awakeG]; decide) (fun w h => ⟨HQ.out.1 w h, Cells.nil _ _⟩) H1.out).mono ?_
  rintro e w2 ⟨v, rfl, h2⟩
  rw [awakeG] at h2
  obtain ⟨Av, cv, rfl, -, -⟩ := h2.row_slice
  have hcl := h2.row_cells
  have g1 : ([⟨1, anchorS, 0, 0⟩, ⟨1, mB ++ decB 1, 0, 0⟩, ⟨1, tB ++ decB 1, 0, 0⟩] : List Sgp).flatMap Sgp.vals = [.int .i64 1, .string anchorS, .int .i64 0, .int .i64 0, .int .i64 1, .string (mB ++ decB 1), .int .i64 0, .int .i64 0, .int .i64 1, .string (tB ++ decB 1), .int .i64 0, .int .i64 0] := rfl
  rw [g1] at hcl
  have hc1 : ([.int .i64 1, .string anchorS, .int .i64 0, .int .i64 0, .int .i64 1, .string (mB ++ decB 1), .int .i64 0, .int .i64 0, .int .i64 1, .string (tB ++ decB 1), .int .i64 0, .int .i64 0] : List Value)[1]? = some (.string anchorS) := rfl
  obtain ⟨a, ha, -⟩ := hcl _ _ hc1
  obtain ⟨g, o, rfl⟩ : ∃ g o, a = ⟨g, o, none⟩ := slice_addr hcl ha (List.getElem?_eq_some_iff.1 hc1).1
  subst ha
  have c1 := hcl.some_ _ _ hc1
  rw [addr_add] at c1
  have H2 := Aside.mk h2.right.right
  unfold anchorS at c1
  clear h2 hcl hc1 g1 H1
  go_wp2
  go_ret
  exact ⟨rfl, H2.out⟩
end Go.Proofs.YtnpinegpajbkeaaGreatDoor
