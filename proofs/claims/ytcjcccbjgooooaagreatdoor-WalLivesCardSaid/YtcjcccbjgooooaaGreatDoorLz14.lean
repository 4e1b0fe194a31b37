/- Texts of one claim, one behind the other: Dam, RefM3, RefW3, Rf5A, Rf5S, Itoa, Digits, WalP, WalA. -/
import Derived.Test.YtcjcccbjgooooaaGreatDoorLz13
import Derived.Test.YtcjcccbjgooooaaGreatDoorProg
import Derived.Shelf.Strconv.Itoa3
/- (*Disk).Damaged: the walk. -/
namespace Go.Proofs.YtcjcccbjgooooaaGreatDoor
open Go.RowKit HP
set_option linter.unusedSimpArgs false
set_option linter.unusedVariables false

theorem slSp : SlTy Tryz.prog 85 87 (.agg #[.string ⟨#[]⟩, .int .i64 0]) 2 24 := ⟨Tryz.underlying85, by kernel_rfl, rfl, by decide⟩
theorem encSpot_one (x : ByteArray × Int) : ∀ v ∈ encSpot x, v.oneCell' = true := by
  intro v hv
  simp [encSpot] at hv
  rcases hv with rfl | rfl <;> rfl
theorem sort_spots (E : Env) (q : HP) (v : Value) (l : List (ByteArray × Int)) (n : Nat) (w : World) (hl : l.length = n) (hn : n ≤ maxLen / 4) (hw : Sat E w (HP.row 87 2 v n (l.flatMap encSpot) * q)) :
    Calls Tryz.prog 94 #[v, .func (.func 95) #[] #[]] w fun r w' => r = .returned (.tuple #[]) ∧ Sat E w' (HP.row 87 2 v n ((l.mergeSort fun x y => !(ltC cmpSpot) y x).flatMap encSpot) * q) :=
  sort_row (k := 2) laysSpot (by intro w; kernel_rfl) (by intro w; kernel_rfl) encSpot (fun _ => rfl) encSpot_one cmpSpot swo_spot (fun _ _ h1 h2 => ltSpot_total h1 h2) 95 #[] (enters_of Tryz.func95 (by kernel_rfl) rfl)
    (fun x y W => damaged_cmp x.1 y.1 x.2 y.2 W) hl hn hw
theorem spots_length : ∀ l : List (ByteArray × List Cel), (l.flatMap spotsF).length ≤ sizeF l
  | [] => Nat.le_refl _
  | x :: l => by
    have h1 := spots_length l
    have h2 := spotsN_length x.1 x.2 x.2.length
    rw [List.flatMap_cons, List.length_append]
    unfold sizeF at *
    rw [List.map_cons, List.sum_cons]
    unfold spotsF at *
    omega
def leftS (es : Array MapEntry) (seen : Array Nat) (fs : List Fil) : List (ByteArray × Int) := (leftZ es seen fs).flatMap fun x => spotsF (x.2.name, x.2.cs)
theorem leftS_start {A : Dk} {es : Array MapEntry} {clock : Nat} {fs : List Fil} (hv : View A es clock fs) : (leftS es #[] fs).Perm A.damaged := by
  have hlen : es.toList.length = fs.length := by simpa using congrArg List.length hv.map.2.1
  have e : leftS es #[] fs = (fs.map fun f => (f.name, f.cs)).flatMap spotsF := by
    unfold leftS
    conv => rhs; rw [← leftZ_start hlen]
    rw [List.map_map, List.flatMap_map]
    rfl
  rw [e]
  exact (files_perm hv).flatMap_right _
theorem leftS_step {es : Array MapEntry} {seen : Array Nat} {fs : List Fil} {j : Nat} {e : MapEntry} {f : Fil} (hn : (es.toList.map (·.born)).Nodup) (hl : es.toList.length = fs.length) (hj : es.toList[j]? = some e) (hf : fs[j]? = some f) (he : e ∈ leftL es seen) :
    (leftS es seen fs).Perm (spotsF (f.name, f.cs) ++ leftS es (seen.push e.born) fs) := by
  have he2 : seen.contains e.born = false := by
    have := (List.mem_filter.1 he).2
    simpa using this
  have := (leftZ_step hn hl hj hf he2).flatMap_right (fun x => spotsF (x.2.name, x.2.cs))
  rwa [List.flatMap_cons] at this
set_option maxHeartbeats 4000000 in
set_option maxRecDepth 100000 in
theorem disk_damaged (E : Env) (q : HP) (d : Nat) (A : Dk) (w : World) (hw : Sat E w (HP.disk d A * q)) :
    Calls Tryz.prog 47 #[.pointer (some ⟨d, 0, none⟩)] w fun e w' => ∃ v, e = .returned v ∧ Sat E w' (HP.row 87 2 v A.damaged.length (A.damaged.flatMap encSpot) * (HP.disk d A * q)) := by
  obtain ⟨m, es, clock, fs, hv, hd⟩ := hw.disk_open
  clear hw
  go_enter Tryz.func47, Tryz.ntmps47
  go_wp2_with fail
  refine (disk_none E _ d _ _ m w (dk_parts hd)).mono ?_
  rintro e w1 ⟨rfl, rfl⟩
  have c1 := (dk_parts hd).cell 1
  simp only [List.getElem?_toArray, List.getElem?_cons_zero, List.getElem?_cons_succ] at c1
  have hrg := run_range_map (P := Tryz.prog) (t := 126) Tryz.underlying126 (dk_parts hd).s2.get
  have HS0 := Aside.mk ((hd.alloc (.mapIter (some m) clock #[] clock)).row_nil 87 2 none)
  have HM := Aside.mk hv.map
  have hlen : es.toList.length = fs.length := by simpa using congrArg List.length hv.map.2.1
  have HV := Aside.mk (And.intro hv hlen)
  have hdl : A.damaged.length ≤ 100000 := by
    have h1 := spots_length A.files
    have h2 := hv.fine.fits
    have h3 := hv.fine.room
    unfold Dk.damaged
    omega
  have HL := Aside.mk (And.intro (leftS_start hv) (damaged_sorted hv.fine.sorted))
  clear hv hlen hd
  go_wp2
  obtain ⟨g, hg⟩ : ∃ g, g = w1.heap.size := ⟨_, rfl⟩
  obtain ⟨w0, hw0⟩ : ∃ w0, w0 = w1.alloc (.mapIter (some m) clock #[] clock) := ⟨_, rfl⟩
  rw [← hg, ← hw0] at HS0
  rw [← hg, ← hw0]
  clear hrg c1 hg hw0
  go_loopw [3] (fun v3 wr => ∃ (seen : Array Nat) (c0 : Nat) (out : List (ByteArray × Int)), clock ≤ c0 ∧ Aside ((out ++ leftS es seen fs).Perm A.damaged) ∧ Aside (Sat E wr (HP.pt g (.mapIter (some m) clock seen c0) * (HP.row 87 2 v3 out.length (out.flatMap encSpot) * (HP.dk d A.room A.fuse m es clock fs * q)))))
    (fun _ wr => match wr.heap[g]? with | some (.mapIter _ _ seen _) => (leftL es seen).length | _ => 0)
  case atStart => exact ⟨#[], clock, [], Nat.le_refl _, ⟨HL.out.1⟩, ⟨HS0.out.perm (by show HP.row _ _ _ 0 [] * _ = HP.pt _ _ * (HP.row _ _ _ 0 [] * _); ac_rfl)⟩⟩
  case round =>
    clear HS0
    obtain ⟨seen, c0, out, hc0, HO, HS⟩ := hrel
    have hol : out.length ≤ 100000 := by
      have := HO.out.length_eq
      rw [List.length_append] at this
      omega
    rcases next_file HM.out hc0 (HS.out.perm (by ac_rfl : _ = HP.pt g (.mapIter (some m) clock seen c0) * (HP.dk d A.room A.fuse m es clock fs * (HP.row 87 2 u3 out.length (out.flatMap encSpot) * q)))) 0 with ⟨hend, hnext⟩ | ⟨j, f, e, w2, hj, hje, hel, hnext, hent, h2⟩
    · have hz : leftS es seen fs = [] := by unfold leftS; rw [leftZ_end hend]; rfl
      have hp := HO.out
      rw [hz, List.append_nil] at hp
      have HP0 := Aside.mk hp
      clear hz hp HO hend
      go_wp2_with fail
      refine (sort_spots E _ u3 out out.length _ rfl (by unfold maxLen; omega) HS.out.right).mono ?_
      rintro e w2 ⟨rfl, h2⟩
      rw [sorted_damaged HV.out.1.fine.sorted HP0.out, HP0.out.length_eq] at h2
      have H2 := Aside.mk (And.intro rfl (Sat.disk_close (q := HP.row 87 2 u3 A.damaged.length (A.damaged.flatMap encSpot) * q) HV.out.1 h2.s2) : u3 = u3 ∧ _)
      clear h2 HP0 HS hol
      go_wp2
      go_ret
      exact ⟨_, rfl, H2.out.2.s2⟩
    · obtain ⟨R0, h3, hback⟩ := dk_fileQ (h2.perm (by ac_rfl : _ = HP.dk d A.room A.fuse m es clock fs * (HP.pt g (.mapIter (some m) clock (seen.push e.born) clock) * (HP.row 87 2 u3 out.length (out.flatMap encSpot) * q)))) hj
      obtain ⟨B, cc, hvB, -, -⟩ := h3.row_slice
      have hfm := HV.out.1.mem (List.mem_of_getElem? hj)
      have hfs : f.cels.length ≤ 100000 := by
        have h7 := at_small HV.out.1.fine f.name
        rw [Dk.at, lk_of_mem HV.out.1.fine.sorted hfm] at h7
        simpa [Fil.cs] using h7
      have HFine : Aside (∀ x ∈ f.cels, x.2.Fine) := ⟨fun x hx => HV.out.1.cel_fine (List.mem_of_getElem? hj) hx⟩
      have hset : fs.set j ⟨f.name, f.val, f.cels⟩ = fs := by
        obtain ⟨h1, h2⟩ := List.getElem?_eq_some_iff.1 hj
        rw [show (⟨f.name, f.val, f.cels⟩ : Fil) = fs[j] from h2.symm]
        exact List.set_getElem_self h1
      have hst := leftS_step HM.out.2.2.2.2 HV.out.2 hje hj hel
      have HC := Aside.mk (And.intro hback (And.intro hset (And.intro hst hel)))
      have hce : f.cs.length = f.cels.length := by unfold Fil.cs; rw [List.length_map]
      rw [hvB] at hnext hent h3
      have H3 := Aside.mk h3
      have HG1 := Aside.mk HS.out.get
      clear HS h2 hback h3 hj hje hel hfm hset hst
      obtain ⟨n, hnn⟩ : ∃ n, n = f.cels.length := ⟨_, rfl⟩
      rw [← hnn] at H3 hfs hnext hent hce
      have HN := Aside.mk (And.intro hnn hce)
      clear hnn hce
      go_wp2
      obtain ⟨wo, rfl⟩ : ∃ wo : World, wo = wr := ⟨_, rfl⟩
      go_loopw [3, 22] (fun v3 v22 wi => ∃ k : Nat, v22 = .int .i64 k ∧ k ≤ n ∧ Aside (Sat E wi (HP.row 87 2 v3 (out ++ spotsN f.name f.cs k).length ((out ++ spotsN f.name f.cs k).flatMap encSpot) * (HP.row 137 1 (.slice B n cc) n (celPtrs f.cels) * (HP.cels f.cels * (R0 * (HP.pt g (.mapIter (some m) clock (seen.push e.born) clock) * q))))))) (fun _ x _ => n - (intOf x).toNat)
      case atStart => exact ⟨0, rfl, Nat.zero_le _, ⟨by rw [show spotsN f.name f.cs 0 = [] from rfl, List.append_nil]; exact H3.out.perm (by ac_rfl)⟩⟩
      case round =>
        clear H3 hnext hent
        obtain ⟨k, rfl, hk, HR⟩ := hrel
        by_cases hlt : k < n
        · have hkf : k < f.cels.length := by have := HN.out.1; omega
          have hrow := HR.out.right
          obtain ⟨pa, hpa, hcx⟩ := hrow.row_cells.at_ k (by simp [celPtrs, hkf])
          obtain ⟨pg, po, rfl⟩ : ∃ g o, pa = ⟨g, o, none⟩ := slice_addr hrow.row_cells hpa (k := k) (by simp [celPtrs, hkf])
          subst hpa
          rw [addr_add] at hcx
          simp only [celPtrs, List.getElem_map] at hcx
          obtain ⟨Rk, h5, hRk, hbackk⟩ := cels_take (hrow.s2) (List.getElem?_eq_getElem hkf)
          have hxf : (f.cels[k]).2.Fine := HFine.out _ (List.getElem_mem hkf)
          have hcs : f.cs[k]? = some (f.cels[k]).2 := by unfold Fil.cs; rw [List.getElem?_map, List.getElem?_eq_getElem hkf]; rfl
          have HSN : Aside (spotsN f.name f.cs (k + 1) = spotsN f.name f.cs k ++ if (f.cels[k]).2.bad = true then [(f.name, (k : Int))] else []) := ⟨by rw [spotsN, hcs]; rfl⟩
          have hsl := spotsN_length f.name f.cs k
          generalize f.cels[k] = x at *
          obtain ⟨bk, c⟩ := x
          dsimp only at *
          have hk0 : (0 : Int) ≤ (k : Int) := by omega
          have hk1 : (k : Int) < (n : Int) := by omega
          have ld1 := run_loadAgg agImg (by rw [b8s_length]; exact hxf.2.1) (cel_durable h5.drew hxf)
          have ld2 := run_loadAgg agImg (by rw [b8s_length]; exact hxf.2.2.1) (cel_synced h5.drew hxf)
          have ld4 := run_loadAgg agImg (by rw [b8s_length]; exact hxf.2.2.2) (cel_written h5.drew hxf)
          have ne1 := run_neq_u8s (P := Tryz.prog) (w := wr.drew) Tryz.underlying138 Tryz.underlying5 (by kernel_rfl) (by kernel_rfl) c.durable c.synced hxf.2.1 hxf.2.2.1
          have ne2 := run_neq_u8s (P := Tryz.prog) (w := wr.drew) Tryz.underlying138 Tryz.underlying5 (by kernel_rfl) (by kernel_rfl) c.durable c.written hxf.2.1 hxf.2.2.2
          clear hRk hrow
          by_cases e1 : c.durable = c.synced
          · have hbad : c.bad = false := by unfold Cel.bad; simp [e1]
            rw [hbad] at HSN
            simp only [Bool.false_eq_true, if_false, List.append_nil] at HSN
            have HR2 : Aside (Sat E wr.drew (HP.row 87 2 u3 (out ++ spotsN f.name f.cs (k + 1)).length ((out ++ spotsN f.name f.cs (k + 1)).flatMap encSpot) * (HP.row 137 1 (.slice (some ⟨pg, po, none⟩) n cc) n (celPtrs f.cels) * (HP.cels f.cels * (R0 * (HP.pt g (.mapIter (some m) clock (seen.push e.born) clock) * q)))))) := ⟨by rw [HSN.out]; exact HR.out.drew⟩
            rw [decide_eq_true e1] at ne1
            generalize (b8s c.durable).toArray = D1 at *
            generalize (b8s c.synced).toArray = D2 at *
            clear ld4 ne2 h5 hbackk HR HSN hxf hcs
            go_wp2
            refine region_R [] [] (fun _ => True) #[false, false, false, false, false, false, false, false, false, false, false, false, false, false, false, false, false, false, false, false] (by kernel_rfl) rfl rfl ?_
            refine wpR_rd 0 #[true, false, false, false, false, false, false, false, false, false, false, false, false, false, false, false, false, false, false, false] rfl onlyN_noPanic (by kernel_rfl) (fun K hK => ?_); (go_simp; try go_bits); refine hK _ ?_; clear hK K
            refine wpR_rd 1 #[true, true, false, false, false, false, false, false, false, false, false, false, false, false, false, false, false, false, false, false] rfl onlyN_noPanic (by kernel_rfl) (fun K hK => ?_); (go_simp; try go_bits); refine hK _ ?_; clear hK K
            refine wpR_rd 2 #[true, true, true, false, false, false, false, false, false, false, false, false, false, false, false, false, false, false, false, false] rfl onlyN_noPanic (by kernel_rfl) (fun K hK => ?_); (go_simp; try go_bits); refine hK _ ?_; clear hK K
            refine wpR_read (i := 3) #[true, true, true, true, false, false, false, false, false, false, false, false, false, false, false, false, false, false, false, false] rfl onlyN_noPanic (by kernel_rfl) (.inl ⟨rfl, exec_load rfl rfl ld1⟩) ?_
            simp only [Act.put, List.setIfInBounds_toArray, List.set_cons_zero, List.set_cons_succ]
            refine wpR_rd 4 #[true, true, true, true, true, false, false, false, false, false, false, false, false, false, false, false, false, false, false, false] rfl onlyN_noPanic (by kernel_rfl) (fun K hK => ?_); (go_simp; try go_bits); refine hK _ ?_; clear hK K
            refine wpR_rd 5 #[true, true, true, true, true, true, false, false, false, false, false, false, false, false, false, false, false, false, false, false] rfl onlyN_noPanic (by kernel_rfl) (fun K hK => ?_); (go_simp; try go_bits); refine hK _ ?_; clear hK K
            refine wpR_rd 6 #[true, true, true, true, true, true, true, false, false, false, false, false, false, false, false, false, false, false, false, false] rfl onlyN_noPanic (by kernel_rfl) (fun K hK => ?_); (go_simp; try go_bits); refine hK _ ?_; clear hK K
            refine wpR_read (i := 7) #[true, true, true, true, true, true, true, true, false, false, false, false, false, false, false, false, false, false, false, false] rfl onlyN_noPanic (by kernel_rfl) (.inl ⟨rfl, exec_load rfl rfl ld2⟩) ?_
            simp only [Act.put, List.setIfInBounds_toArray, List.set_cons_zero, List.set_cons_succ]
            refine wpR_read (i := 8) #[true, true, true, true, true, true, true, true, true, false, false, false, false, false, false, false, false, false, false, false] rfl onlyN_noPanic (by kernel_rfl) (.inl ⟨rfl, exec_binop rfl rfl rfl (run_eqGuard_agg _ .neq 138 _ _ _ _ (by kernel_rfl)) ne1⟩) ?_
            simp only [Act.put, List.setIfInBounds_toArray, List.set_cons_zero, List.set_cons_succ]
            refine wpR_rd 9 #[true, true, true, true, true, true, true, true, true, true, false, false, false, false, false, false, false, false, false, false] rfl onlyN_noPanic (by kernel_rfl) (fun K hK => ?_); (go_simp; try go_bits); refine hK _ ?_; clear hK K
            refine wpR_rd 10 #[true, true, true, true, true, true, true, true, true, true, true, false, false, false, false, false, false, false, false, false] rfl onlyN_noPanic (by kernel_rfl) (fun K hK => ?_); (go_simp; try go_bits); refine hK _ ?_; clear hK K
            refine wpR_rd 11 #[true, true, true, true, true, true, true, true, true, true, true, true, false, false, false, false, false, false, false, false] rfl onlyN_noPanic (by kernel_rfl) (fun K hK => ?_); (go_simp; try go_bits); refine hK _ ?_; clear hK K
            refine wpR_rd 12 #[true, true, true, true, true, true, true, true, true, true, true, true, true, false, false, false, false, false, false, false] rfl onlyN_noPanic (by kernel_rfl) (fun K hK => ?_); (go_simp; try go_bits); refine hK _ ?_; clear hK K
            refine wpR_rd 13 #[true, true, true, true, true, true, true, true, true, true, true, true, true, true, false, false, false, false, false, false] rfl onlyN_noPanic (by kernel_rfl) (fun K hK => ?_); (go_simp; try go_bits); refine hK _ ?_; clear hK K
            refine wpR_rd 14 #[true, true, true, true, true, true, true, true, true, true, true, true, true, true, true, false, false, false, false, false] rfl onlyN_noPanic (by kernel_rfl) (fun K hK => ?_); (go_simp; try go_bits); refine hK _ ?_; clear hK K
            refine wpR_rd 15 #[true, true, true, true, true, true, true, true, true, true, true, true, true, true, true, true, false, false, false, false] rfl onlyN_noPanic (by kernel_rfl) (fun K hK => ?_); (go_simp; try go_bits); refine hK _ ?_; clear hK K
            refine wpR_rd 16 #[true, true, true, true, true, true, true, true, true, true, true, true, true, true, true, true, true, false, false, false] rfl onlyN_noPanic (by kernel_rfl) (fun K hK => ?_); (go_simp; try go_bits); refine hK _ ?_; clear hK K
            refine wpR_rd 17 #[true, true, true, true, true, true, true, true, true, true, true, true, true, true, true, true, true, true, false, false] rfl onlyN_noPanic (by kernel_rfl) (fun K hK => ?_); (go_simp; try go_bits); refine hK _ ?_; clear hK K
            refine wpR_rd 18 #[true, true, true, true, true, true, true, true, true, true, true, true, true, true, true, true, true, true, true, false] rfl onlyN_noPanic (by kernel_rfl) (fun K hK => ?_); (go_simp; try go_bits); refine hK _ ?_; clear hK K
            refine wpR_rd 19 #[true, true, true, true, true, true, true, true, true, true, true, true, true, true, true, true, true, true, true, true] rfl onlyN_noPanic (by kernel_rfl) (fun K hK => ?_); (go_simp; try go_bits); refine hK _ ?_; clear hK K
            refine wpR_done (by kernel_rfl) ?_ _
            simp only [OnlyN]
            go_wp2
            go_roundw
            case rel => exact ⟨k + 1, by go_num, by omega, HR2⟩
            case measure => simp [intOf]; omega
          · rw [decide_eq_false e1] at ne1
            by_cases e2 : c.durable = c.written
            · have hbad : c.bad = false := by unfold Cel.bad; simp [e2]
              rw [hbad] at HSN
              simp only [Bool.false_eq_true, if_false, List.append_nil] at HSN
              have HR2 : Aside (Sat E wr.drew (HP.row 87 2 u3 (out ++ spotsN f.name f.cs (k + 1)).length ((out ++ spotsN f.name f.cs (k + 1)).flatMap encSpot) * (HP.row 137 1 (.slice (some ⟨pg, po, none⟩) n cc) n (celPtrs f.cels) * (HP.cels f.cels * (R0 * (HP.pt g (.mapIter (some m) clock (seen.push e.born) clock) * q)))))) := ⟨by rw [HSN.out]; exact HR.out.drew⟩
              rw [decide_eq_true e2] at ne2
              generalize (b8s c.durable).toArray = D1 at *
              generalize (b8s c.synced).toArray = D2 at *
              generalize (b8s c.written).toArray = D3 at *
              clear h5 hbackk HR HSN hxf hcs
              go_wp2
              refine region_R [] [] (fun _ => True) #[false, false, false, false, false, false, false, false, false, false, false, false, false, false, false, false, false, false, false, false] (by kernel_rfl) rfl rfl ?_
              refine wpR_rd 0 #[true, false, false, false, false, false, false, false, false, false, false, false, false, false, false, false, false, false, false, false] rfl onlyN_noPanic (by kernel_rfl) (fun K hK => ?_); (go_simp; try go_bits); refine hK _ ?_; clear hK K
              refine wpR_rd 1 #[true, true, false, false, false, false, false, false, false, false, false, false, false, false, false, false, false, false, false, false] rfl onlyN_noPanic (by kernel_rfl) (fun K hK => ?_); (go_simp; try go_bits); refine hK _ ?_; clear hK K
              refine wpR_rd 2 #[true, true, true, false, false, false, false, false, false, false, false, false, false, false, false, false, false, false, false, false] rfl onlyN_noPanic (by kernel_rfl) (fun K hK => ?_); (go_simp; try go_bits); refine hK _ ?_; clear hK K
              refine wpR_read (i := 3) #[true, true, true, true, false, false, false, false, false, false, false, false, false, false, false, false, false, false, false, false] rfl onlyN_noPanic (by kernel_rfl) (.inl ⟨rfl, exec_load rfl rfl ld1⟩) ?_
              simp only [Act.put, List.setIfInBounds_toArray, List.set_cons_zero, List.set_cons_succ]
              refine wpR_rd 4 #[true, true, true, true, true, false, false, false, false, false, false, false, false, false, false, false, false, false, false, false] rfl onlyN_noPanic (by kernel_rfl) (fun K hK => ?_); (go_simp; try go_bits); refine hK _ ?_; clear hK K
              refine wpR_rd 5 #[true, true, true, true, true, true, false, false, false, false, false, false, false, false, false, false, false, false, false, false] rfl onlyN_noPanic (by kernel_rfl) (fun K hK => ?_); (go_simp; try go_bits); refine hK _ ?_; clear hK K
              refine wpR_rd 6 #[true, true, true, true, true, true, true, false, false, false, false, false, false, false, false, false, false, false, false, false] rfl onlyN_noPanic (by kernel_rfl) (fun K hK => ?_); (go_simp; try go_bits); refine hK _ ?_; clear hK K
              refine wpR_read (i := 7) #[true, true, true, true, true, true, true, true, false, false, false, false, false, false, false, false, false, false, false, false] rfl onlyN_noPanic (by kernel_rfl) (.inl ⟨rfl, exec_load rfl rfl ld2⟩) ?_
              simp only [Act.put, List.setIfInBounds_toArray, List.set_cons_zero, List.set_cons_succ]
              refine wpR_read (i := 8) #[true, true, true, true, true, true, true, true, true, false, false, false, false, false, false, false, false, false, false, false] rfl onlyN_noPanic (by kernel_rfl) (.inl ⟨rfl, exec_binop rfl rfl rfl (run_eqGuard_agg _ .neq 138 _ _ _ _ (by kernel_rfl)) ne1⟩) ?_
              simp only [Act.put, List.setIfInBounds_toArray, List.set_cons_zero, List.set_cons_succ]
              refine wpR_rd 9 #[true, true, true, true, true, true, true, true, true, true, false, false, false, false, false, false, false, false, false, false] rfl onlyN_noPanic (by kernel_rfl) (fun K hK => ?_); (go_simp; try go_bits); refine hK _ ?_; clear hK K
              refine wpR_rd 10 #[true, true, true, true, true, true, true, true, true, true, true, false, false, false, false, false, false, false, false, false] rfl onlyN_noPanic (by kernel_rfl) (fun K hK => ?_); (go_simp; try go_bits); refine hK _ ?_; clear hK K
              refine wpR_rd 11 #[true, true, true, true, true, true, true, true, true, true, true, true, false, false, false, false, false, false, false, false] rfl onlyN_noPanic (by kernel_rfl) (fun K hK => ?_); (go_simp; try go_bits); refine hK _ ?_; clear hK K
              refine wpR_rd 12 #[true, true, true, true, true, true, true, true, true, true, true, true, true, false, false, false, false, false, false, false] rfl onlyN_noPanic (by kernel_rfl) (fun K hK => ?_); (go_simp; try go_bits); refine hK _ ?_; clear hK K
              refine wpR_read (i := 13) #[true, true, true, true, true, true, true, true, true, true, true, true, true, true, false, false, false, false, false, false] rfl onlyN_noPanic (by kernel_rfl) (.inl ⟨rfl, exec_load rfl rfl ld1⟩) ?_
              simp only [Act.put, List.setIfInBounds_toArray, List.set_cons_zero, List.set_cons_succ]
              refine wpR_rd 14 #[true, true, true, true, true, true, true, true, true, true, true, true, true, true, true, false, false, false, false, false] rfl onlyN_noPanic (by kernel_rfl) (fun K hK => ?_); (go_simp; try go_bits); refine hK _ ?_; clear hK K
              refine wpR_rd 15 #[true, true, true, true, true, true, true, true, true, true, true, true, true, true, true, true, false, false, false, false] rfl onlyN_noPanic (by kernel_rfl) (fun K hK => ?_); (go_simp; try go_bits); refine hK _ ?_; clear hK K
              refine wpR_rd 16 #[true, true, true, true, true, true, true, true, true, true, true, true, true, true, true, true, true, false, false, false] rfl onlyN_noPanic (by kernel_rfl) (fun K hK => ?_); (go_simp; try go_bits); refine hK _ ?_; clear hK K
              refine wpR_read (i := 17) #[true, true, true, true, true, true, true, true, true, true, true, true, true, true, true, true, true, true, false, false] rfl onlyN_noPanic (by kernel_rfl) (.inl ⟨rfl, exec_load rfl rfl ld4⟩) ?_
              simp only [Act.put, List.setIfInBounds_toArray, List.set_cons_zero, List.set_cons_succ]
              refine wpR_read (i := 18) #[true, true, true, true, true, true, true, true, true, true, true, true, true, true, true, true, true, true, true, false] rfl onlyN_noPanic (by kernel_rfl) (.inl ⟨rfl, exec_binop rfl rfl rfl (run_eqGuard_agg _ .neq 138 _ _ _ _ (by kernel_rfl)) ne2⟩) ?_
              simp only [Act.put, List.setIfInBounds_toArray, List.set_cons_zero, List.set_cons_succ]
              refine wpR_rd 19 #[true, true, true, true, true, true, true, true, true, true, true, true, true, true, true, true, true, true, true, true] rfl onlyN_noPanic (by kernel_rfl) (fun K hK => ?_); (go_simp; try go_bits); refine hK _ ?_; clear hK K
              refine wpR_done (by kernel_rfl) ?_ _
              simp only [OnlyN]
              go_wp2
              go_roundw
              case rel => exact ⟨k + 1, by go_num, by omega, HR2⟩
              case measure => simp [intOf]; omega
            · have hbad : c.bad = true := by unfold Cel.bad; simp [e1, e2]
              rw [hbad] at HSN
              simp only [if_true] at HSN
              rw [decide_eq_false e2] at ne2
              have HR2 := Aside.mk HR.out.drew
              obtain ⟨ln, hln⟩ : ∃ ln, ln = (out ++ spotsN f.name f.cs k).length := ⟨_, rfl⟩
              have hln2 : ln ≤ 200000 := by rw [hln, List.length_append]; omega
              rw [← hln] at HR2
              have HLN := Aside.mk hln
              generalize (b8s c.durable).toArray = D1 at *
              generalize (b8s c.synced).toArray = D2 at *
              generalize (b8s c.written).toArray = D3 at *
              obtain ⟨A3, c3, rfl, -, -⟩ := HR2.out.row_slice
              clear h5 hbackk HR hxf hcs hln
              go_wp2
              refine region_R [] [] (fun _ => True) #[false, false, false, false, false, false, false, false, false, false, false, false, false, false, false, false, false, false, false, false] (by kernel_rfl) rfl rfl ?_
              refine wpR_rd 0 #[true, false, false, false, false, false, false, false, false, false, false, false, false, false, false, false, false, false, false, false] rfl onlyN_noPanic (by kernel_rfl) (fun K hK => ?_); (go_simp; try go_bits); refine hK _ ?_; clear hK K
              refine wpR_rd 1 #[true, true, false, false, false, false, false, false, false, false, false, false, false, false, false, false, false, false, false, false] rfl onlyN_noPanic (by kernel_rfl) (fun K hK => ?_); (go_simp; try go_bits); refine hK _ ?_; clear hK K
              refine wpR_rd 2 #[true, true, true, false, false, false, false, false, false, false, false, false, false, false, false, false, false, false, false, false] rfl onlyN_noPanic (by kernel_rfl) (fun K hK => ?_); (go_simp; try go_bits); refine hK _ ?_; clear hK K
              refine wpR_read (i := 3) #[true, true, true, true, false, false, false, false, false, false, false, false, false, false, false, false, false, false, false, false] rfl onlyN_noPanic (by kernel_rfl) (.inl ⟨rfl, exec_load rfl rfl ld1⟩) ?_
              simp only [Act.put, List.setIfInBounds_toArray, List.set_cons_zero, List.set_cons_succ]
              refine wpR_rd 4 #[true, true, true, true, true, false, false, false, false, false, false, false, false, false, false, false, false, false, false, false] rfl onlyN_noPanic (by kernel_rfl) (fun K hK => ?_); (go_simp; try go_bits); refine hK _ ?_; clear hK K
              refine wpR_rd 5 #[true, true, true, true, true, true, false, false, false, false, false, false, false, false, false, false, false, false, false, false] rfl onlyN_noPanic (by kernel_rfl) (fun K hK => ?_); (go_simp; try go_bits); refine hK _ ?_; clear hK K
              refine wpR_rd 6 #[true, true, true, true, true, true, true, false, false, false, false, false, false, false, false, false, false, false, false, false] rfl onlyN_noPanic (by kernel_rfl) (fun K hK => ?_); (go_simp; try go_bits); refine hK _ ?_; clear hK K
              refine wpR_read (i := 7) #[true, true, true, true, true, true, true, true, false, false, false, false, false, false, false, false, false, false, false, false] rfl onlyN_noPanic (by kernel_rfl) (.inl ⟨rfl, exec_load rfl rfl ld2⟩) ?_
              simp only [Act.put, List.setIfInBounds_toArray, List.set_cons_zero, List.set_cons_succ]
              refine wpR_read (i := 8) #[true, true, true, true, true, true, true, true, true, false, false, false, false, false, false, false, false, false, false, false] rfl onlyN_noPanic (by kernel_rfl) (.inl ⟨rfl, exec_binop rfl rfl rfl (run_eqGuard_agg _ .neq 138 _ _ _ _ (by kernel_rfl)) ne1⟩) ?_
              simp only [Act.put, List.setIfInBounds_toArray, List.set_cons_zero, List.set_cons_succ]
              refine wpR_rd 9 #[true, true, true, true, true, true, true, true, true, true, false, false, false, false, false, false, false, false, false, false] rfl onlyN_noPanic (by kernel_rfl) (fun K hK => ?_); (go_simp; try go_bits); refine hK _ ?_; clear hK K
              refine wpR_rd 10 #[true, true, true, true, true, true, true, true, true, true, true, false, false, false, false, false, false, false, false, false] rfl onlyN_noPanic (by kernel_rfl) (fun K hK => ?_); (go_simp; try go_bits); refine hK _ ?_; clear hK K
              refine wpR_rd 11 #[true, true, true, true, true, true, true, true, true, true, true, true, false, false, false, false, false, false, false, false] rfl onlyN_noPanic (by kernel_rfl) (fun K hK => ?_); (go_simp; try go_bits); refine hK _ ?_; clear hK K
              refine wpR_rd 12 #[true, true, true, true, true, true, true, true, true, true, true, true, true, false, false, false, false, false, false, false] rfl onlyN_noPanic (by kernel_rfl) (fun K hK => ?_); (go_simp; try go_bits); refine hK _ ?_; clear hK K
              refine wpR_read (i := 13) #[true, true, true, true, true, true, true, true, true, true, true, true, true, true, false, false, false, false, false, false] rfl onlyN_noPanic (by kernel_rfl) (.inl ⟨rfl, exec_load rfl rfl ld1⟩) ?_
              simp only [Act.put, List.setIfInBounds_toArray, List.set_cons_zero, List.set_cons_succ]
              refine wpR_rd 14 #[true, true, true, true, true, true, true, true, true, true, true, true, true, true, true, false, false, false, false, false] rfl onlyN_noPanic (by kernel_rfl) (fun K hK => ?_); (go_simp; try go_bits); refine hK _ ?_; clear hK K
              refine wpR_rd 15 #[true, true, true, true, true, true, true, true, true, true, true, true, true, true, true, true, false, false, false, false] rfl onlyN_noPanic (by kernel_rfl) (fun K hK => ?_); (go_simp; try go_bits); refine hK _ ?_; clear hK K
              refine wpR_rd 16 #[true, true, true, true, true, true, true, true, true, true, true, true, true, true, true, true, true, false, false, false] rfl onlyN_noPanic (by kernel_rfl) (fun K hK => ?_); (go_simp; try go_bits); refine hK _ ?_; clear hK K
              refine wpR_read (i := 17) #[true, true, true, true, true, true, true, true, true, true, true, true, true, true, true, true, true, true, false, false] rfl onlyN_noPanic (by kernel_rfl) (.inl ⟨rfl, exec_load rfl rfl ld4⟩) ?_
              simp only [Act.put, List.setIfInBounds_toArray, List.set_cons_zero, List.set_cons_succ]
              refine wpR_read (i := 18) #[true, true, true, true, true, true, true, true, true, true, true, true, true, true, true, true, true, true, true, false] rfl onlyN_noPanic (by kernel_rfl) (.inl ⟨rfl, exec_binop rfl rfl rfl (run_eqGuard_agg _ .neq 138 _ _ _ _ (by kernel_rfl)) ne2⟩) ?_
              simp only [Act.put, List.setIfInBounds_toArray, List.set_cons_zero, List.set_cons_succ]
              refine wpR_rd 19 #[true, true, true, true, true, true, true, true, true, true, true, true, true, true, true, true, true, true, true, true] rfl onlyN_noPanic (by kernel_rfl) (fun K hK => ?_); (go_simp; try go_bits); refine hK _ ?_; clear hK K
              refine wpR_done (by kernel_rfl) ?_ _
              simp only [OnlyN]
              go_wp2_with (at_builtin; refine wpList_append_new slSp rfl rfl (by rfl) (by rfl) HR2.out (by rfl) (by rfl) (by unfold maxLen; omega) (by omega) (fun v5 w5 hw5 => ?_); obtain ⟨A5, c5, rfl, -, -⟩ := hw5.row_slice; have HW5 := Aside.mk hw5; clear hw5)
              refine ⟨⟨k + 1, by push_cast; rfl, by omega, ⟨by rw [HSN.out, ← List.append_assoc, List.flatMap_append, List.length_append, ← HLN.out]; exact HW5.out⟩⟩, ?_⟩
              simp only [intOf]
              omega
        · have hkn : k = n := by omega
          subst hkn
          have HT : Aside (Sat E wr (HP.pt g (.mapIter (some m) clock (seen.push e.born) clock) * (HP.row 87 2 u3 (out ++ spotsF (f.name, f.cs)).length ((out ++ spotsF (f.name, f.cs)).flatMap encSpot) * (HP.dk d A.room A.fuse m es clock fs * q)))) := ⟨by
            obtain ⟨hback, hset, -, -⟩ := HC.out
            have e1 : spotsF (f.name, f.cs) = spotsN f.name f.cs k := by unfold spotsF; rw [HN.out.2]
            rw [e1]
            have h8 := hback _ wr f.cels rfl (by rw [hvB, ← HN.out.1]; exact HR.out.perm (by ac_rfl : _ = HP.row 137 1 (.slice B k cc) k (celPtrs f.cels) * (HP.cels f.cels * (R0 * (HP.pt g (.mapIter (some m) clock (seen.push e.born) clock) * (HP.row 87 2 u3 (out ++ spotsN f.name f.cs k).length ((out ++ spotsN f.name f.cs k).flatMap encSpot) * q))))))
            rw [hset] at h8
            exact h8.perm (by ac_rfl)⟩
          have HO2 : Aside (((out ++ spotsF (f.name, f.cs)) ++ leftS es (seen.push e.born) fs).Perm A.damaged) := ⟨by
            rw [List.append_assoc]
            exact ((HC.out.2.2.1.symm).append_left out).trans HO.out⟩
          have HLS : Aside ((leftL es (seen.push e.born)).length < (leftL es seen).length) := ⟨left_less HM.out.2.2.2.2 HC.out.2.2.2⟩
          clear HR HC HFine HN HO
          go_wp2
          go_roundw
          case rel => exact ⟨seen.push e.born, clock, out ++ spotsF (f.name, f.cs), Nat.le_refl _, HO2, HT⟩
          case measure =>
            have h8 := HT.out.get
            rw [h8, HG1.out]
            exact HLS.out
end Go.Proofs.YtcjcccbjgooooaaGreatDoor
/- dryrotref03: Damaged. -/
namespace Go.Proofs.YtcjcccbjgooooaaGreatDoor
open Go.RowKit HP
set_option linter.unusedSimpArgs false
set_option linter.unusedVariables false

theorem run_string_n {P : Program} {w : World} {src dst e : TypeId} {A : Option Addr} {l : List Int} {n c : Nat} (hn : l.length = n) (hs : P.underlying src = some (.slice e)) (he : P.underlying e = some (.int .u8)) (hd : P.underlying dst = some .string)
    (h : Cells w A (b8s l)) : (convert src dst (.slice A n c)).run P w = .ok (.string (strOf l)) w := by
  subst hn
  exact run_string hs he hd h
theorem strOf_beq {a b : List Int} (ha : Bytes a) (hb : Bytes b) : ((strOf a).toList == (strOf b).toList) = decide (a = b) := by
  by_cases h : a = b
  · subst h; simp
  · have : ¬ (strOf a).toList = (strOf b).toList := fun h2 => h (strOf_inj ha hb (toList_inj h2))
    simp [h, this]
theorem spotsF_append (l : List (ByteArray × List Cel)) {k : Nat} {x : ByteArray × List Cel} (h : l[k]? = some x) : (l.take (k + 1)).flatMap spotsF = (l.take k).flatMap spotsF ++ spotsF x := by
  rw [take_snoc h, List.flatMap_append]; simp
set_option maxHeartbeats 4000000 in
set_option maxRecDepth 100000 in
theorem ref_damaged (E : Env) (q : HP) (y : Nat) (A : Dk) (v : Value) (fs : List RF) (L : List (Value × List Int)) (w : World) (hv : RView A fs L) (hbt : A.Byt) (hw : Sat E w (HP.rdk y A.room A.fuse v fs L * q)) :
    Calls Tryz.prog 48 #[.pointer (some ⟨y, 0, none⟩)] w fun e w' => ∃ x, e = .returned x ∧ Sat E w' (HP.row 87 2 x A.damaged.length (A.damaged.flatMap encSpot) * (HP.rdk y A.room A.fuse v fs L * q)) := by
  obtain ⟨FA, cF, rfl, hcF, hcM⟩ := hw.rdk_parts.s2.row_slice
  have HV := Aside.mk hv
  have HBT := Aside.mk hbt
  clear hv hbt
  obtain ⟨fuse, hfu⟩ : ∃ fuse, fuse = A.fuse := ⟨_, rfl⟩
  obtain ⟨room, hro⟩ : ∃ room, room = A.room := ⟨_, rfl⟩
  rw [← hfu, ← hro] at hw ⊢
  clear hfu hro
  obtain ⟨n, hn⟩ : ∃ n, n = fs.length := ⟨_, rfl⟩
  have hfl := HV.out.flen
  rw [← hn] at hcF hw hfl ⊢
  have HN := Aside.mk hn
  obtain ⟨D, hD⟩ : ∃ D, D = A.damaged := ⟨_, rfl⟩
  rw [← hD]
  have HD := Aside.mk hD
  have c1 := hw.rdk_parts.cell 1
  simp only [List.getElem?_toArray, List.getElem?_cons_zero, List.getElem?_cons_succ] at c1
  have HW := Aside.mk (hw.row_nil 87 2 none)
  clear hn hw hD
  go_enter Tryz.func48, Tryz.ntmps48
  go_wp2
  go_loopw [3, 13] (fun v3 v13 wr => ∃ (k : Nat) (S : List (ByteArray × Int)), k ≤ n ∧ v13 = .int .i64 k ∧ S.length ≤ 100000 * k ∧ Aside (S = (A.files.take k).flatMap spotsF) ∧ Aside (Sat E wr (HP.row 87 2 v3 S.length (S.flatMap encSpot) * (HP.rdk y room fuse (.slice FA n cF) fs L * q)))) (fun _ i _ => n - (intOf i).toNat)
  case atStart => exact ⟨0, [], Nat.zero_le _, rfl, Nat.zero_le _, ⟨by simp⟩, HW⟩
  case round =>
    clear HW c1
    obtain ⟨k, S, hk, rfl, hSl, HSS, HS⟩ := hrel
    by_cases hlt : k < n
    · have hlt2 : (k : Int) < (n : Int) := by omega
      have h0 : (0 : Int) ≤ (k : Int) := by omega
      obtain ⟨f, hf⟩ : ∃ f, fs[k]? = some f := ⟨_, List.getElem?_eq_getElem (by rw [← HN.out]; exact hlt)⟩
      obtain ⟨g, o, VA, VC, rfl, hval, hvc, g0, g1⟩ := HS.out.right.rf_at HN.out hf
      have hkA : A.files[k]? = some (f.name, f.cs.map (·.c)) := by rw [← HV.out.same, List.getElem?_map, hf]; rfl
      have hvs : f.cs.length ≤ 100000 := by
        have := at_small HV.out.fine f.name
        have e : A.at f.name = f.cs.map (·.c) := by unfold Dk.at; rw [lk_first HV.out.fine.sorted hkA]; rfl
        rw [e, List.length_map] at this
        exact this
      obtain ⟨vn, hvn⟩ : ∃ vn, vn = f.cs.length := ⟨_, rfl⟩
      obtain ⟨fn, hfn⟩ : ∃ fn, fn = f.name := ⟨_, rfl⟩
      rw [← hvn] at g1 hval hvs
      rw [← hfn] at g0
      have HB := Aside.mk (HS.out.alloc (.cells #[.string fn, .slice VA vn VC] 144))
      have HF := Aside.mk (And.intro hf (And.intro hval (And.intro hvn (And.intro hfn hkA))))
      obtain ⟨BF, hBF⟩ : ∃ BF, BF = wr.heap.size := ⟨_, rfl⟩
      rw [← hBF] at HB
      have b0 := HB.out.cell 0
      have b1 := HB.out.cell 1
      clear hf hvn hfn hkA hval
      have HBF := Aside.mk hBF
      clear hBF b0 b1
      go_wp2
      rw [← HBF.out]
      clear g0 g1
      generalize World.alloc wr _ = wb at *
      obtain ⟨l, hl⟩ : ∃ l, l = f.cs.map (·.c) := ⟨_, rfl⟩
      have HL := Aside.mk hl
      clear hl
      go_loopw [3, 20] (fun v3 v20 wi => ∃ (i : Nat) (S2 : List (ByteArray × Int)), i ≤ vn ∧ v20 = .int .i64 i ∧ S2.length ≤ 100000 * k + i ∧ Aside (S2 = S ++ spotsN fn l i) ∧ Aside (Sat E wi (HP.pt BF (.cells #[.string fn, .slice VA vn VC] 144) * (HP.row 87 2 v3 S2.length (S2.flatMap encSpot) * (HP.rdk y room fuse (.slice (some ⟨g, o, none⟩) n cF) fs L * q))))) (fun _ i _ => vn - (intOf i).toNat)
      case atStart => exact ⟨0, S, Nat.zero_le _, rfl, by omega, ⟨by simp [spotsN]⟩, HB⟩
      case round =>
        clear HB HS
        obtain ⟨i, S2, hi, rfl, hS2, HS2, HI⟩ := hrel
        by_cases hil : i < vn
        · have hil2 : (i : Int) < (vn : Int) := by omega
          have hi0 : (0 : Int) ≤ (i : Int) := by omega
          obtain ⟨x, hx⟩ : ∃ x, f.cs[i]? = some x := ⟨_, List.getElem?_eq_getElem (by rw [← HF.out.2.2.1]; exact hil)⟩
          have hrd := HI.out.right.right
          obtain ⟨gc, oc, rfl, x0, x1, x2, x3, x4⟩ := hrd.rc_at HF.out.1 HF.out.2.1 hx
          have hin := HV.out.imgs f (List.mem_of_getElem? HF.out.1) x (List.mem_of_getElem? hx)
          have hm : (f.name, f.cs.map (·.c)) ∈ A.files := by rw [← HV.out.same]; exact List.mem_map.2 ⟨f, List.mem_of_getElem? HF.out.1, rfl⟩
          have hxm : x.c ∈ f.cs.map (·.c) := List.mem_map.2 ⟨x, List.mem_of_getElem? hx, rfl⟩
          have hfin := HV.out.fine.cels _ hm x.c hxm
          have hby := HBT.out _ hm x.c hxm
          obtain ⟨A0, c0, e0, -, -, -⟩ := hrd.rdk_imgs.img hin.1
          obtain ⟨A1, c1, e1, -, -, -⟩ := hrd.rdk_imgs.img hin.2.1
          obtain ⟨A2, c2, e2, -, -, -⟩ := hrd.rdk_imgs.img hin.2.2.1
          obtain ⟨A3, c3, e3, -, -, -⟩ := hrd.rdk_imgs.img hin.2.2.2
          rw [e0] at x0
          rw [e1] at x1
          rw [e2] at x2
          rw [e3] at x3
          have hB := HI.out.alloc (.cells #[.slice A0 128 c0, .slice A1 128 c1, .slice A2 128 c2, .slice A3 128 c3, .bool x.c.waits] 155)
          have y1 := run_string_n (P := Tryz.prog) (c := c1) hfin.2.1 Tryz.underlying28 Tryz.underlying5 Tryz.underlying9 (hB.right.right.right.rdk_imgs.img_cells (by rw [← e1]; exact hin.2.1))
          have y2 := run_string_n (P := Tryz.prog) (c := c2) hfin.2.2.1 Tryz.underlying28 Tryz.underlying5 Tryz.underlying9 (hB.right.right.right.rdk_imgs.img_cells (by rw [← e2]; exact hin.2.2.1))
          have y3 := run_string_n (P := Tryz.prog) (c := c3) hfin.2.2.2 Tryz.underlying28 Tryz.underlying5 Tryz.underlying9 (hB.right.right.right.rdk_imgs.img_cells (by rw [← e3]; exact hin.2.2.2))
          have q12 := strOf_beq hby.2.1 hby.2.2.1
          have q13 := strOf_beq hby.2.1 hby.2.2.2
          have HB := Aside.mk hB.right
          have hli : l[i]? = some x.c := by rw [HL.out, List.getElem?_map, hx]; rfl
          have hsp : spotsN fn l (i + 1) = spotsN fn l i ++ if x.c.bad = true then [(fn, (i : Int))] else [] := by
            rw [spotsN, hli]; rfl
          have HSP := Aside.mk hsp
          have HBAD : Aside (x.c.bad = (!decide (x.c.durable = x.c.synced) && !decide (x.c.durable = x.c.written))) := ⟨by simp [Cel.bad]⟩
          have bf := HI.out.cell 0
          clear hin hm hxm hfin hby e0 e1 e2 e3 hB hrd hx hli hsp
          obtain ⟨d1, hd1⟩ : ∃ d1, d1 = decide (x.c.durable = x.c.synced) := ⟨_, rfl⟩
          obtain ⟨d2, hd2⟩ : ∃ d2, d2 = decide (x.c.durable = x.c.written) := ⟨_, rfl⟩
          rw [← hd1] at q12 HBAD
          rw [← hd2] at q13 HBAD
          clear hd1 hd2
          generalize strOf x.c.durable = s1 at *
          generalize strOf x.c.synced = s2 at *
          generalize strOf x.c.written = s3 at *
          have b0 := HB.out.cell 0
          simp only [List.getElem?_toArray, List.getElem?_cons_zero, List.getElem?_cons_succ] at b0
          obtain ⟨B3, c3b, hu3, -, -⟩ := HI.out.right.row_slice
          subst hu3
          obtain ⟨sn, hsn⟩ : ∃ sn, sn = S2.length := ⟨_, rfl⟩
          rw [← hsn] at HB hS2 ⊢
          have HSN := Aside.mk hsn
          clear hsn bf HI
          by_cases hd : d1 = false ∧ d2 = false
          · obtain ⟨rfl, rfl⟩ := hd
            have hS3 : S ++ spotsN fn l (i + 1) = S2 ++ [(fn, (i : Int))] := by rw [HSP.out, HBAD.out, HS2.out]; simp
            have HS3 := Aside.mk hS3
            clear hS3
            go_wp2_with (at_builtin; refine wpList_append_new slSp rfl rfl (by rfl) (by rw [alloc_size]; rfl) HB.out.s2 (by rfl) (by rfl) (by unfold maxLen; omega) (by omega) (fun v5 w5 hw5 => ?_); obtain ⟨A5, c5, rfl, -, -⟩ := hw5.row_slice; have HW5 := Aside.mk hw5.s2; clear hw5)
            go_roundw
            case rel => exact ⟨i + 1, S2 ++ [(fn, (i : Int))], by omega, by go_num, by rw [List.length_append, ← HSN.out]; simp; omega, ⟨HS3.out.symm⟩, ⟨by rw [List.length_append, ← HSN.out, List.flatMap_append]; exact HW5.out⟩⟩
            case measure => simp [intOf]; omega
          · have hbad : x.c.bad = false := by
              rw [HBAD.out]
              cases d1 <;> cases d2 <;> simp at hd ⊢
            have HS3 : Aside (S2 = S ++ spotsN fn l (i + 1)) := ⟨by rw [HSP.out, hbad, HS2.out]; simp⟩
            clear hbad
            cases d1 <;> cases d2
            · exact absurd ⟨rfl, rfl⟩ hd
            all_goals
              clear hd
              go_wp2
              go_roundw
              case rel => exact ⟨i + 1, S2, by omega, by go_num, by rw [← HSN.out]; omega, HS3, ⟨by rw [← HSN.out]; exact HB.out⟩⟩
              case measure => simp [intOf]; omega
        · obtain rfl : i = vn := by omega
          have hS3 : S2 = (A.files.take (k + 1)).flatMap spotsF := by
            rw [spotsF_append _ HF.out.2.2.2.2, ← HSS.out, HS2.out]
            unfold spotsF
            rw [List.length_map, ← HF.out.2.2.1, HF.out.2.2.2.1, HL.out]
          have HS3 := Aside.mk hS3
          have HI2 := Aside.mk HI.out.right
          clear hS3 HI
          go_wp2
          go_roundw
          case rel => exact ⟨k + 1, S2, by omega, by go_num, by omega, HS3, HI2⟩
          case measure => simp [intOf]; omega
    · obtain rfl : k = n := by omega
      go_wp2
      go_ret
      refine ⟨_, rfl, ?_⟩
      have h := HS.out
      have e : S = D := by
        rw [HSS.out, HD.out, List.take_of_length_le (by rw [← HV.out.len, ← HN.out]; exact Nat.le_refl _)]
        rfl
      rw [e] at h
      exact h
end Go.Proofs.YtcjcccbjgooooaaGreatDoor
/- dryrotref03: all that it tells, over the disk told by its model. -/
namespace Go.Proofs.YtcjcccbjgooooaaGreatDoor
open Go.RowKit HP
set_option linter.unusedSimpArgs false
set_option linter.unusedVariables false

section
variable (E : Env) (q : HP) (y : Nat) (A : Dk) (name : ByteArray) (i : Int) (w : World) (hw : Sat E w (HP.rdisk y A * q))
include hw
theorem rdisk_extents : Calls Tryz.prog 50 #[.pointer (some ⟨y, 0, none⟩), .string name] w fun e w' => e = .returned (.int .i64 ((A.at name).length : Int)) ∧ Sat E w' (HP.rdisk y A * q) := by
  obtain ⟨v, fs, L, hv, hk⟩ := hw.rdisk_open
  exact (ref_extents E q y A v fs L name w hv hk).mono fun e w' h => ⟨h.1, Sat.rdisk_close hv h.2⟩
theorem rdisk_free : Calls Tryz.prog 45 #[.pointer (some ⟨y, 0, none⟩)] w fun e w' => e = .returned (.int .i64 A.free) ∧ Sat E w' (HP.rdisk y A * q) := by
  obtain ⟨v, fs, L, hv, hk⟩ := hw.rdisk_open
  exact (ref_free E q y A v fs L w hv hk).mono fun e w' h => ⟨h.1, Sat.rdisk_close hv h.2⟩
theorem rdisk_list : Calls Tryz.prog 41 #[.pointer (some ⟨y, 0, none⟩)] w fun e w' => ∃ x, e = .returned x ∧ Sat E w' (HP.row 9 1 x A.files.length (namesV A) * (HP.rdisk y A * q)) := by
  obtain ⟨v, fs, L, hv, hk⟩ := hw.rdisk_open
  exact (ref_list E q y A v fs L w hv hk).mono fun e w' ⟨x, h1, h2⟩ => ⟨x, h1, (Sat.rdisk_close (q := HP.row 9 1 x A.files.length (namesV A) * q) hv (h2.perm (HP.left_comm _ _ _))).perm (HP.left_comm _ _ _)⟩
theorem rdisk_damaged (hbt : A.Byt) : Calls Tryz.prog 48 #[.pointer (some ⟨y, 0, none⟩)] w fun e w' => ∃ x, e = .returned x ∧ Sat E w' (HP.row 87 2 x A.damaged.length (A.damaged.flatMap encSpot) * (HP.rdisk y A * q)) := by
  obtain ⟨v, fs, L, hv, hk⟩ := hw.rdisk_open
  exact (ref_damaged E q y A v fs L w hv hbt hk).mono fun e w' ⟨x, h1, h2⟩ => ⟨x, h1, (Sat.rdisk_close (q := HP.row 87 2 x A.damaged.length (A.damaged.flatMap encSpot) * q) hv (h2.perm (HP.left_comm _ _ _))).perm (HP.left_comm _ _ _)⟩
theorem rdisk_read : Calls Tryz.prog 52 #[.pointer (some ⟨y, 0, none⟩), .string name, .int .i64 i] w (readEnd E (HP.rdisk y A * q) (A.cel name i)) := by
  obtain ⟨v, fs, L, hv, hk⟩ := hw.rdisk_open
  refine (ref_read E q y A v fs L name i w hv hk).mono fun e w' h => ?_
  unfold readEnd at h ⊢
  cases hc : A.cel name i with
  | none => rw [hc] at h; exact ⟨h.1, Sat.rdisk_close hv h.2⟩
  | some c =>
    rw [hc] at h
    obtain ⟨x, h1, h2⟩ := h
    exact ⟨x, h1, (Sat.rdisk_close (q := HP.row 5 1 x 128 (b8s c.read) * q) hv (h2.perm (HP.left_comm _ _ _))).perm (HP.left_comm _ _ _)⟩
end
end Go.Proofs.YtcjcccbjgooooaaGreatDoor
/- dryrotref05 over the document's disk: Halves, write, Both, Put. -/
namespace Go.Proofs.YtcjcccbjgooooaaGreatDoor
open Go.RowKit HP
set_option linter.unusedSimpArgs false
set_option linter.unusedVariables false

set_option maxHeartbeats 1000000 in
set_option maxRecDepth 100000 in
theorem ref_halves (E : Env) (q : HP) (name : ByteArray) (w : World) (hn : name.size + 2 ≤ maxLen) (hw : Sat E w q) :
    Calls Tryz.prog 89 #[.string name] w fun e w' => ∃ g, e = .returned (.slice (some ⟨g, 0, none⟩) 2 2) ∧ Sat E w' (HP.pt g (.cells #[.string (name ++ dotA), .string (name ++ dotB)] 9) * q) := by
  have hn2 : name.size + 2 ≤ 9223372036854775807 := by unfold maxLen at hn; omega
  have H1 := Aside.mk (hw.alloc (.cells #[.string (name ++ dotA), .string (name ++ dotB)] 9))
  unfold dotA dotB at *
  clear hw
  go_enter Tryz.func89, Tryz.ntmps89
  go_wp2
  go_ret
  exact ⟨_, rfl, H1.out⟩
set_option maxHeartbeats 4000000 in
set_option maxRecDepth 100000 in
theorem ref_wfile (E : Env) (q : HP) (y : Nat) (A : Dk) (f : ByteArray) (at_ gen : Nat) (Ap : Option Addr) (ss : List (Sl Int)) (n c : Nat) (w : World) (hf : f.size ≤ maxLen) (hat : (at_ : Int) ≤ 2147483647) (hgen : (gen : Int) ≤ 4611686018427387904)
    (hn : ss.length = n) (hnm : n ≤ maxLen) (hss : ∀ s ∈ ss, PayOk s) (hq : ∀ w, Sat E w q → Cells w Ap (ss.map Sl.val8) ∧ ∀ s ∈ ss, Cells w s.A (b8s s.l)) (hw : Sat E w (HP.rdisk y A * q)) :
    Calls Tryz.prog 90 #[.pointer (some ⟨y, 0, none⟩), .string f, .int .i64 at_, .int .i64 gen, .slice Ap n c] w fun e w' => e = .returned (.int .i64 (wrF A f gen at_ (ss.map (·.l))).1) ∧ Sat E w' (HP.rdisk y (wrF A f gen at_ (ss.map (·.l))).2 * q) := by
  obtain ⟨ps, hps⟩ : ∃ ps, ps = ss.map (·.l) := ⟨_, rfl⟩
  rw [← hps]
  have HQ := Aside.mk (And.intro hq (And.intro hss (And.intro hn (And.intro hps hw))))
  clear hq hss hn hps hw
  have hnm' : (n : Int) ≤ 9223372036854775807 := by unfold maxLen at hnm; omega
  go_enter Tryz.func90, Tryz.ntmps90
  go_wp2
  go_loopw [18] (fun v25 w2 => ∃ (k : Nat) (B : Dk), k ≤ n ∧ (at_ : Int) + k ≤ 2147483648 ∧ v25 = .int .i64 k ∧ Aside (wrF B f gen (at_ + k) (ps.drop k) = wrF A f gen at_ ps) ∧ Aside (Sat E w2 (HP.rdisk y B * q))) (fun i _ => n - (intOf i).toNat)
  case atStart => exact ⟨0, A, by omega, by omega, rfl, ⟨by rw [Nat.add_zero]; rfl⟩, ⟨HQ.out.2.2.2.2⟩⟩
  case round =>
    obtain ⟨k, B, hk, hak, rfl, HB, HT⟩ := hrel
    by_cases hkn : k < n
    · have hks : k < ss.length := by rw [HQ.out.2.2.1]; exact hkn
      obtain ⟨ap, rfl, hcx⟩ := (HQ.out.1 _ HT.out.right).1.at_ k (by rw [List.length_map]; exact hks)
      rw [List.getElem_map] at hcx
      obtain ⟨s, hs⟩ : ∃ s, s = ss[k] := ⟨_, rfl⟩
      have hsm : s ∈ ss := by rw [hs]; exact List.getElem_mem hks
      have hpk : ps.drop k = s.l :: ps.drop (k + 1) := by
        rw [HQ.out.2.2.2.1, List.drop_eq_getElem_cons (by rw [List.length_map]; exact hks), List.getElem_map, ← hs]
      rw [← hs] at hcx
      rw [hpk] at HB
      clear hs hpk hks
      have hso := HQ.out.2.1 s hsm
      have hkn2 : (k : Int) < n := by omega
      unfold Sl.val8 at hcx
      have HN : Aside (wrF B f gen (at_ + k) (s.l :: ps.drop (k + 1)) = if ¬ FrameOk ((at_ + k : Nat) : Int) gen s.l.length then (1, B)
        else if (B.write f ((at_ + k : Nat) : Int) (extI f (at_ + k) gen s.l)).1 = 0 then wrF (B.write f ((at_ + k : Nat) : Int) (extI f (at_ + k) gen s.l)).2 f gen (at_ + k + 1) (ps.drop (k + 1))
        else B.write f ((at_ + k : Nat) : Int) (extI f (at_ + k) gen s.l)) := ⟨rfl⟩
      rw [HB.out] at HN
      obtain ⟨j, hj⟩ : ∃ j : Nat, (at_ : Int) + k = j := ⟨at_ + k, by omega⟩
      have hj2 : at_ + k = j := by omega
      rw [hj2] at HN
      by_cases hfo : FrameOk (j : Int) gen s.l.length
      · rw [if_neg (by simpa using hfo)] at HN
        obtain ⟨_, hf2, _, _, hf5⟩ := hfo
        go_wp2_with fail
        refine (ref_frame E (HP.rdisk y B * q) f j gen s.A s.l s.l.length s.cap _ hf hf2 hgen rfl hf5 hso.bytes (fun w h => (HQ.out.1 _ h.right).2 s hsm) HT.out).mono ?_
        rintro e w3 ⟨v, rfl, h3⟩
        obtain ⟨Av, cv, rfl, -, -⟩ := h3.row_slice
        have hIl : (extI f j gen s.l).length = 128 := extI_length hf5
        obtain ⟨I, hIe⟩ : ∃ I, I = extI f j gen s.l := ⟨_, rfl⟩
        rw [← hIe] at hIl h3 HN
        clear hIe
        have H3 := Aside.mk (And.intro h3 hIl)
        clear h3 hIl hcx hsm hso
        go_wp2_with fail
        refine (ref_write E (HP.row 5 1 (.slice Av 128 cv) 128 (b8s I) * q) y B f j Av I 128 cv _ hf H3.out.2 (by unfold maxLen; omega) (fun w h => h.row_cells) H3.out.1.s2).mono ?_
        rintro e w4 ⟨rfl, h4⟩
        have H4 := Aside.mk h4.drop2
        clear h4 H3
        by_cases h0 : (B.write f (j : Int) I).1 = 0
        · rw [h0]
          rw [if_pos h0] at HN
          generalize (B.write f (j : Int) I).2 = B2 at *
          have HX : Aside (wrF B2 f gen (at_ + (k + 1)) (ps.drop (k + 1)) = wrF A f gen at_ ps) := ⟨by rw [HN.out, show at_ + (k + 1) = j + 1 by omega]⟩
          clear HN h0 HB
          go_wp2
          go_roundw
          case rel => exact ⟨k + 1, B2, by omega, by push_cast; omega, by push_cast; rfl, HX, H4⟩
          case measure => simp [intOf]; omega
        · rw [if_neg h0] at HN
          obtain ⟨ec, hec⟩ : ∃ ec, ec = (B.write f (j : Int) I).1 := ⟨_, rfl⟩
          rw [← hec] at h0 ⊢
          have HE := Aside.mk hec
          clear hec HB
          go_wp2
          go_ret
          rw [HN.out, HE.out]
          exact ⟨rfl, H4.out⟩
      · rw [if_pos hfo] at HN
        have HFo := Aside.mk hfo
        clear HB hfo
        go_wp2_with fail
        refine (ref_frame_bad f j gen s.A s.l.length s.cap _ HFo.out).mono ?_
        rintro e w3 ⟨rfl, hw3⟩
        subst w3
        clear hcx
        go_wp2
        go_ret
        rw [HN.out]
        exact ⟨rfl, HT.out⟩
    · have hkn' : k = n := by omega
      subst hkn'
      have hpl : ps.drop k = [] := by rw [HQ.out.2.2.2.1]; exact List.drop_eq_nil_of_le (by rw [List.length_map, HQ.out.2.2.1]; exact Nat.le_refl _)
      rw [hpl] at HB
      clear hpl
      have HB2 : Aside (wrF A f gen at_ ps = B.sync f) := ⟨by rw [← HB.out]; rfl⟩
      clear HB
      go_wp2_with fail
      refine (ref_sync E q y B f _ HT.out).mono ?_
      rintro e w4 ⟨rfl, h4⟩
      have H4 := Aside.mk h4
      clear h4
      go_wp2
      go_ret
      rw [HB2.out]
      exact ⟨rfl, H4.out⟩
set_option maxHeartbeats 4000000 in
set_option maxRecDepth 100000 in
theorem ref_both (E : Env) (q : HP) (y : Nat) (A : Dk) (name : ByteArray) (at_ gen : Nat) (Ap : Option Addr) (ss : List (Sl Int)) (n c : Nat) (w : World) (hname : name.size + 2 ≤ maxLen) (hat : (at_ : Int) ≤ 2147483647) (hgen : (gen : Int) ≤ 4611686018427387904)
    (hn : ss.length = n) (hnm : n ≤ maxLen) (hss : ∀ s ∈ ss, PayOk s) (hq : ∀ w, Sat E w q → Cells w Ap (ss.map Sl.val8) ∧ ∀ s ∈ ss, Cells w s.A (b8s s.l)) (hw : Sat E w (HP.rdisk y A * q)) :
    Calls Tryz.prog 39 #[.pointer (some ⟨y, 0, none⟩), .string name, .int .i64 at_, .int .i64 gen, .slice Ap n c] w fun e w' => e = .returned (.int .i64 (wrP A name at_ gen (ss.map (·.l))).1) ∧ Sat E w' (HP.rdisk y (wrP A name at_ gen (ss.map (·.l))).2 * q) := by
  have hfa : (name ++ dotA).size ≤ maxLen := by rw [dotA_size]; exact hname
  have hfb : (name ++ dotB).size ≤ maxLen := by rw [dotB_size]; exact hname
  have HF : Aside (halvesL name = [name ++ dotA, name ++ dotB]) := ⟨rfl⟩
  obtain ⟨ps, hps⟩ : ∃ ps, ps = ss.map (·.l) := ⟨_, rfl⟩
  rw [← hps]
  have HR : Aside (wrP A name at_ gen ps = wrL A at_ gen ps (halvesL name)) := ⟨rfl⟩
  have HQ := Aside.mk (And.intro hq (And.intro hss (And.intro hn (And.intro hps hw))))
  have HNM := Aside.mk hnm
  clear hq hss hn hps hw hnm
  go_enter Tryz.func39, Tryz.ntmps39
  go_wp2_with fail
  refine (ref_halves E _ name _ hname HQ.out.2.2.2.2).mono ?_
  rintro e w1 ⟨g, rfl, h1⟩
  obtain ⟨fa, hfae⟩ : ∃ fa, fa = name ++ dotA := ⟨_, rfl⟩
  obtain ⟨fb, hfbe⟩ : ∃ fb, fb = name ++ dotB := ⟨_, rfl⟩
  rw [← hfae] at hfa HF h1
  rw [← hfbe] at hfb HF h1
  clear hfae hfbe
  have H1 := Aside.mk h1
  clear h1
  go_wp2
  go_loopw [17] (fun v20 wr => ∃ (h : Nat) (A' : Dk), h ≤ 2 ∧ v20 = .int .i64 h ∧ Aside (wrL A' at_ gen ps ((halvesL name).drop h) = wrP A name at_ gen ps) ∧ Aside (Sat E wr (HP.pt g (.cells #[.string fa, .string fb] 9) * (HP.rdisk y A' * q)))) (fun i _ => 2 - (intOf i).toNat)
  case atStart => exact ⟨0, A, by omega, rfl, ⟨by rw [HR.out]; rfl⟩, H1⟩
  case round =>
    clear H1
    obtain ⟨h, A', hh, rfl, HA, HS⟩ := hrel
    by_cases hlt : h < 2
    · obtain ⟨f, hf, hff, hix⟩ : ∃ f : ByteArray, f.size ≤ maxLen ∧ (halvesL name).drop h = f :: (halvesL name).drop (h + 1) ∧ (#[Value.string fa, Value.string fb] : Array Value)[h]? = some (.string f) := by
        rw [HF.out]
        rcases Nat.lt_or_ge h 1 with h0 | h0
        · obtain rfl : h = 0 := by omega
          exact ⟨fa, hfa, rfl, rfl⟩
        · obtain rfl : h = 1 := by omega
          exact ⟨fb, hfb, rfl, rfl⟩
      have kc : wr.cell? ⟨g, h, none⟩ = some (.string f) := by rw [HS.out.cell]; exact hix
      rw [hff] at HA
      clear hff hix
      have hlt2 : (h : Int) < 2 := by omega
      have HW : Aside (wrL A' at_ gen ps (f :: (halvesL name).drop (h + 1)) = if (wrF A' f gen at_ ps).1 = 0 then wrL (wrF A' f gen at_ ps).2 at_ gen ps ((halvesL name).drop (h + 1)) else wrF A' f gen at_ ps) := ⟨rfl⟩
      have HS2 := Aside.mk HS.out.s2
      clear HS
      go_wp2_with fail
      refine (ref_wfile E (HP.pt g (.cells #[.string fa, .string fb] 9) * q) y A' f at_ gen Ap ss n c _ hf hat hgen HQ.out.2.2.1 HNM.out HQ.out.2.1 (fun w h => HQ.out.1 w h.right) HS2.out).mono ?_
      rintro e w3 ⟨rfl, h3⟩
      rw [← HQ.out.2.2.2.1] at h3 ⊢
      have H3 := Aside.mk h3.s2
      clear h3 HS2 kc
      by_cases h0 : (wrF A' f gen at_ ps).1 = 0
      · rw [h0]
        rw [if_pos h0] at HW
        have HX : Aside (wrL (wrF A' f gen at_ ps).2 at_ gen ps ((halvesL name).drop (h + 1)) = wrP A name at_ gen ps) := ⟨by rw [← HW.out, HA.out]⟩
        generalize (wrF A' f gen at_ ps).2 = B2 at *
        clear HW HA h0
        go_wp2
        go_roundw
        case rel => exact ⟨h + 1, B2, by omega, by push_cast; rfl, HX, H3⟩
        case measure => simp [intOf]; omega
      · rw [if_neg h0] at HW
        have HX : Aside (wrP A name at_ gen ps = wrF A' f gen at_ ps) := ⟨by rw [← HA.out, HW.out]⟩
        obtain ⟨ec, hec⟩ : ∃ ec, ec = (wrF A' f gen at_ ps).1 := ⟨_, rfl⟩
        rw [← hec] at h0 ⊢
        have HE := Aside.mk hec
        clear hec HA HW
        go_wp2
        go_ret
        rw [HX.out, HE.out]
        exact ⟨rfl, H3.out.right⟩
    · obtain rfl : h = 2 := by omega
      rw [HF.out] at HA
      have HX : Aside (wrP A name at_ gen ps = (0, A')) := ⟨by rw [← HA.out]; rfl⟩
      clear HA
      go_wp2
      go_ret
      rw [HX.out]
      exact ⟨rfl, HS.out.right⟩
end Go.Proofs.YtcjcccbjgooooaaGreatDoor
/- dryrotref05.Drop, parts, Store over the document's disk. -/
namespace Go.Proofs.YtcjcccbjgooooaaGreatDoor
open Go.RowKit HP
set_option linter.unusedSimpArgs false
set_option linter.unusedVariables false

theorem slBB5 : SlTy Tryz.prog 39 28 (.slice none 0 0) 1 24 := ⟨Tryz.underlying39, by kernel_rfl, rfl, by decide⟩
theorem range_snoc_map {α : Type} (f : Nat → α) (j : Nat) : (List.range (j + 1)).map f = (List.range j).map f ++ [f j] := by
  rw [List.range_succ, List.map_append]; rfl
/-- What 'parts' hands back. -/
structure PartsEnd (E : Env) (q q0 : HP) (l : List Int) (V : Option Addr) (cv : Nat) (ss : List (Sl Int)) (w' : World) : Prop where
  same : ss.map (·.l) = piecesI l
  pay : ∀ s ∈ ss, PayOk s
  cells : ∀ w, Sat E w q0 → ∀ s ∈ ss, Cells w s.A (b8s s.l)
  sat : Sat E w' (HP.row 28 1 (.slice V ss.length cv) ss.length (ss.map Sl.val8) * q)
structure PartsAt (E : Env) (q0 : HP) (l : List Int) (c j : Nat) (Aj : Option Addr) (ss : List (Sl Int)) : Prop where
  same : ss.map (·.l) = (List.range j).map (piece l)
  pay : ∀ s ∈ ss, PayOk s
  cells : ∀ w, Sat E w q0 → ∀ s ∈ ss, Cells w s.A (b8s s.l)
  left : ∀ w, Sat E w q0 → Cells w Aj (b8s (l.drop (106 * j)))
  many : ss.length = j
theorem pieces_end {l : List Int} {j : Nat} (h1 : j = 0 ∨ 106 * j < l.length) (h2 : l.length - 106 * j ≤ 106) : (List.range j).map (piece l) ++ [l.drop (106 * j)] = piecesI l := by
  unfold piecesI
  by_cases h : l.length = 0
  · rw [if_pos h]
    have hj : j = 0 := by omega
    subst hj
    rw [List.eq_nil_of_length_eq_zero h]
    rfl
  · rw [if_neg h]
    have hc : chunkN l.length = j + 1 := by unfold chunkN; omega
    rw [hc, range_snoc_map]
    congr 2
    unfold piece
    rw [List.take_of_length_le (by rw [List.length_drop]; omega)]
end Go.Proofs.YtcjcccbjgooooaaGreatDoor
/- strconv.Itoa, laid at this program (printed by the kit's own tool). -/
namespace Go.Proofs.YtcjcccbjgooooaaGreatDoor
open Go.Shelf Go.RowKit HP
set_option linter.unusedSimpArgs false
set_option linter.unusedVariables false

def laysItoa_ren : Go.Shelf.Ren := ⟨fun | 171 => 85 | 243 => 116 | 246 => 138 | 283 => 159 | 284 => 160 | 285 => 161 | 286 => 162 | 129 => 152 | 317 => 179 | 318 => 180 | 319 => 181 | 320 => 182 | 337 => 187 | 338 => 188 | n => n, fun | 3 => 3 | 9 => 9 | 2 => 2 | 4 => 4 | 171 => 211 | 0 => 0 | 53 => 72 | 37 => 28 | 5 => 5 | 173 => 213 | 212 => 229 | 51 => 161 | 20 => 20 | 213 => 230 | 46 => 52 | 232 => 241 | 233 => 242 | n => n, fun | 17 => 1 | 18 => 4 | 19 => 5 | n => n⟩
theorem laysItoa : Go.Proofs.LaysM.n171 Tryz.prog laysItoa_ren := {
  mixed := by kernel_rfl
  f129 := Tryz.func152.trans (congrArg some (by kernel_rfl))
  f171 := Tryz.func85.trans (congrArg some (by kernel_rfl))
  f243 := Tryz.func116.trans (congrArg some (by kernel_rfl))
  f246 := Tryz.func138.trans (congrArg some (by kernel_rfl))
  f283 := Tryz.func159.trans (congrArg some (by kernel_rfl))
  f284 := Tryz.func160.trans (congrArg some (by kernel_rfl))
  f285 := Tryz.func161.trans (congrArg some (by kernel_rfl))
  f286 := Tryz.func162.trans (congrArg some (by kernel_rfl))
  f317 := Tryz.func179.trans (congrArg some (by kernel_rfl))
  f318 := Tryz.func180.trans (congrArg some (by kernel_rfl))
  f319 := Tryz.func181.trans (congrArg some (by kernel_rfl))
  f320 := Tryz.func182.trans (congrArg some (by kernel_rfl))
  f337 := Tryz.func187.trans (congrArg some (by kernel_rfl))
  f338 := Tryz.func188.trans (congrArg some (by kernel_rfl))
  t0 := Tryz.underlying0
  a0 := Tryz.isAgg0
  z0 := Tryz.sizeOf0
  v0 := Tryz.zeroValue0
  t2 := Tryz.underlying2
  a2 := Tryz.isAgg2
  z2 := Tryz.sizeOf2
  v2 := Tryz.zeroValue2
  t3 := Tryz.underlying3
  a3 := Tryz.isAgg3
  z3 := Tryz.sizeOf3
  v3 := Tryz.zeroValue3
  t4 := Tryz.underlying4
  a4 := Tryz.isAgg4
  z4 := Tryz.sizeOf4
  v4 := Tryz.zeroValue4
  t5 := Tryz.underlying5
  a5 := Tryz.isAgg5
  z5 := Tryz.sizeOf5
  v5 := Tryz.zeroValue5
  t9 := Tryz.underlying9
  a9 := Tryz.isAgg9
  z9 := Tryz.sizeOf9
  v9 := Tryz.zeroValue9
  t20 := Tryz.underlying20
  a20 := Tryz.isAgg20
  z20 := Tryz.sizeOf20
  v20 := Tryz.zeroValue20
  t37 := Tryz.underlying28
  a37 := Tryz.isAgg28
  z37 := Tryz.sizeOf28
  v37 := Tryz.zeroValue28
  t46 := Tryz.underlying52
  a46 := Tryz.isAgg52
  z46 := Tryz.sizeOf52
  v46 := Tryz.zeroValue52
  t51 := Tryz.underlying161
  a51 := Tryz.isAgg161
  z51 := Tryz.sizeOf161
  v51 := Tryz.zeroValue161
  t53 := Tryz.underlying72
  a53 := Tryz.isAgg72
  z53 := Tryz.sizeOf72
  v53 := Tryz.zeroValue72
  t171 := Tryz.underlying211
  a171 := Tryz.isAgg211
  z171 := Tryz.sizeOf211
  v171 := Tryz.zeroValue211
  t173 := Tryz.underlying213
  a173 := Tryz.isAgg213
  z173 := Tryz.sizeOf213
  v173 := Tryz.zeroValue213
  t212 := Tryz.underlying229
  a212 := Tryz.isAgg229
  z212 := Tryz.sizeOf229
  v212 := Tryz.zeroValue229
  t213 := Tryz.underlying230
  a213 := Tryz.isAgg230
  z213 := Tryz.sizeOf230
  t232 := Tryz.underlying241
  a232 := Tryz.isAgg241
  z232 := Tryz.sizeOf241
  v232 := Tryz.zeroValue241
  t233 := Tryz.underlying242
  a233 := Tryz.isAgg242
  z233 := Tryz.sizeOf242
  v233 := Tryz.zeroValue242
  g17 := by kernel_rfl
  g18 := by kernel_rfl
  g19 := by kernel_rfl
  i0 := by kernel_rfl
  i2 := by kernel_rfl
  i3 := by kernel_rfl
  i4 := by kernel_rfl
  i5 := by kernel_rfl
  i9 := by kernel_rfl
  i20 := by kernel_rfl
  i37 := by kernel_rfl
  i46 := by kernel_rfl
  i51 := by kernel_rfl
  i53 := by kernel_rfl
  i171 := by kernel_rfl
  i173 := by kernel_rfl
  i212 := by kernel_rfl
  i232 := by kernel_rfl
  i233 := by kernel_rfl
  m17 := by kernel_rfl
  m18 := by kernel_rfl
  m19 := by kernel_rfl }
theorem Sat.grown {E : Env} {q : HP} : ∀ (l : List Obj) {w : World}, Sat E w q → Sat E (Go.Sort.grow w l.toArray) q
  | [], w, h => by
    have : Go.Sort.grow w ([] : List Obj).toArray = w := by simp [Go.Sort.grow]
    rw [this]; exact h
  | o :: l, w, h => by
    have h1 : Sat E (w.alloc o) q := (h.alloc o).right
    have h2 := Sat.grown l h1
    rw [Go.Sort.alloc_eq_grow, Go.Sort.grow_grow] at h2
    have e : #[o] ++ l.toArray = (o :: l).toArray := by simp
    rw [e] at h2; exact h2
theorem itoa_ok (E : Env) (q : HP) (n : Int) (w : World) (hn : wf64 n) (ht : ∀ w, Sat E w q → Lib.TabIs Tryz.prog w "internal/strconv.uint64pow10" .u64 Lib.pow10Tab) (hw : Sat E w q) :
    Calls Tryz.prog 85 #[.int .i64 n] w fun e w' => e = .returned (.string ⟨(Lib.itoa n).toArray⟩) ∧ Sat E w' q := by
  refine (Any.strconv_Itoa laysItoa n hn.1 hn.2 w (ht w hw)).mono ?_
  rintro e w' ⟨rfl, k, os, rfl⟩
  refine ⟨rfl, ?_⟩
  have := Sat.grown os.toList (hw.drewN (n := k))
  simpa using this
end Go.Proofs.YtcjcccbjgooooaaGreatDoor
/- dryrotref17.Digits, Names; anchor.Names. -/
namespace Go.Proofs.YtcjcccbjgooooaaGreatDoor
open Go.RowKit HP
set_option linter.unusedSimpArgs false
set_option linter.unusedVariables false

def decB (m : Nat) : ByteArray := ⟨(Lib.decDigits m).toArray⟩
def digB (d : Nat) : ByteArray := ⟨#[UInt8.ofNat (48 + d)]⟩
theorem decB_small {m : Nat} (h : m < 10) : decB m = digB m := by
  unfold decB digB Lib.decDigits
  rw [dif_pos h]
theorem decB_more {m : Nat} (h : ¬ m < 10) : decB m = decB (m / 10) ++ digB (m % 10) := by
  unfold decB digB
  rw [Lib.decDigits, dif_neg h]
  apply ByteArray.ext
  simp
theorem dig_slice : ∀ d : Nat, d < 10 → ∀ w, (Instr.slice 9 (.string ⟨#[48, 49, 50, 51, 52, 53, 54, 55, 56, 57]⟩) (some (.int .i64 (d : Int))) (some (.int .i64 ((d : Int) + 1))) none).run Tryz.prog w = .ok (.string (digB d)) w
  | 0, _ => fun w => by kernel_rfl
  | 1, _ => fun w => by kernel_rfl
  | 2, _ => fun w => by kernel_rfl
  | 3, _ => fun w => by kernel_rfl
  | 4, _ => fun w => by kernel_rfl
  | 5, _ => fun w => by kernel_rfl
  | 6, _ => fun w => by kernel_rfl
  | 7, _ => fun w => by kernel_rfl
  | 8, _ => fun w => by kernel_rfl
  | 9, _ => fun w => by kernel_rfl
  | k + 10, h => by omega
theorem decB_size : ∀ (k u : Nat), u < 10 ^ (k + 1) → (decB u).size ≤ k + 1
  | 0, u, h => by rw [decB_small (by omega)]; exact Nat.le_refl _
  | k + 1, u, h => by
    by_cases h10 : u < 10
    · rw [decB_small h10]
      show 1 ≤ k + 1 + 1
      omega
    · rw [decB_more h10, ByteArray.size_append]
      have h2 : u / 10 < 10 ^ (k + 1) := by
        rw [Nat.pow_succ] at h
        omega
      have := decB_size k (u / 10) h2
      show _ + 1 ≤ k + 1 + 1
      omega
theorem app_assoc (a b c : ByteArray) : a ++ b ++ c = a ++ (b ++ c) := by
  apply ByteArray.ext
  simp [Array.append_assoc]
set_option maxHeartbeats 1000000 in
set_option maxRecDepth 100000 in
theorem digits_ok (n : Int) (w : World) (hn : wf64 n) :
    Calls Tryz.prog 91 #[.int .i64 n] w fun e w' => e = .returned (.string (decB n.toNat)) ∧ w' = w := by
  unfold wf64 at hn
  have hsz := decB_size 18 n.toNat (by omega)
  have HSZ := Aside.mk hsz
  clear hsz
  go_enter Tryz.func91, Tryz.ntmps91
  go_wp2
  go_loopw [0, 3] (fun v0 v3 wr => ∃ (m : Int) (s : ByteArray), v0 = .int .i64 m ∧ v3 = .string s ∧ m ≤ 9223372036854775807 ∧ Aside (decB m.toNat ++ s = decB n.toNat) ∧ wr = w) (fun i _ _ => (intOf i).toNat)
  case atStart => exact ⟨n, ⟨#[]⟩, rfl, rfl, hn.2, ⟨by apply ByteArray.ext; simp⟩, rfl⟩
  case round =>
    obtain ⟨m, s, rfl, rfl, hm, HS, hwr⟩ := hrel
    subst wr
    by_cases h10 : 10 ≤ m
    · obtain ⟨d, hd⟩ : ∃ d : Nat, m % 10 = (d : Int) := ⟨(m % 10).toNat, by omega⟩
      have sl := dig_slice d (by omega)
      have HS2 : Aside (decB (m / 10).toNat ++ (digB d ++ s) = decB n.toNat) := ⟨by
        rw [← HS.out, decB_more (m := m.toNat) (by omega), app_assoc, show (m / 10).toNat = m.toNat / 10 by omega, show d = m.toNat % 10 by omega]⟩
      have hmt : m.tmod 10 = (d : Int) := by rw [Int.tmod_eq_emod_of_nonneg (by omega)]; exact hd
      have hmd : m.tdiv 10 = m / 10 := Int.tdiv_eq_ediv_of_nonneg (by omega)
      have hd10 : (d : Int) < 10 := by omega
      have hss : (digB d).size + s.size ≤ 100 := by
        have e := congrArg ByteArray.size HS2.out
        simp only [ByteArray.size_append] at e
        have := HSZ.out
        omega
      obtain ⟨m2, hm2⟩ : ∃ m2, m2 = m / 10 := ⟨_, rfl⟩
      have HM : Aside (m2 ≤ 9223372036854775807 ∧ m2.toNat < m.toNat) := ⟨by omega, by omega⟩
      rw [← hm2] at HS2 hmd
      have hm3 : m / 10 = m2 := hm2.symm
      clear hm2
      go_wp2
      refine ⟨⟨m2, digB d ++ s, rfl, rfl, HM.out.1, HS2, by first | rfl | trivial⟩, ?_⟩
      simp only [intOf]
      exact HM.out.2
    · have HS2 : Aside (digB m.toNat ++ s = decB n.toNat) := ⟨by rw [← HS.out, decB_small (m := m.toNat) (by omega)]⟩
      obtain ⟨d, hd⟩ : ∃ d : Nat, d = m.toNat := ⟨_, rfl⟩
      rw [← hd] at HS2
      have hmx : max m 0 = (d : Int) := by omega
      have hmx2 : (if (0 : Int) > m then (0 : Int) else m) = (d : Int) := by split <;> omega
      have sl := dig_slice d (by omega)
      have hd10 : (d : Int) < 10 := by omega
      have hss : (digB d).size + s.size ≤ 100 := by
        have e := congrArg ByteArray.size HS2.out
        simp only [ByteArray.size_append] at e
        have := HSZ.out
        omega
      clear hd
      go_wp2
      go_ret
      rw [← HS2.out]
      exact ⟨rfl, rfl⟩
end Go.Proofs.YtcjcccbjgooooaaGreatDoor
/- wal, the plain part: what is appended, and what is read of it. -/
namespace Go.Proofs.YtcjcccbjgooooaaGreatDoor
open Go.RowKit HP
set_option linter.unusedSimpArgs false
set_option linter.unusedVariables false

def chunkW (n : Nat) : Nat := (n + 105) / 106
def pieceW (l : List Int) (k : Nat) : List Int := (l.drop (106 * k)).take 106
def piecesW (l : List Int) : List (List Int) := (List.range (chunkW l.length)).map (pieceW l)
def wneedI (s : Int) : Int := if s < 1 ∨ 1000000 < s then 0 else (s + 109) / 106
def textW (b : List Int) : List Int := putI b.length 4 ++ b
def wB : ByteArray := ⟨#[119]⟩
def nameW (seg : Int) : ByteArray := wB ++ decB seg.toNat
def AppOk (seg at_ lsn : Int) (n : Int) : Prop := n ≠ 0 ∧ 0 ≤ seg ∧ seg ≤ 4611686018427387904 ∧ 0 ≤ lsn ∧ lsn ≤ 4611686018427387904 ∧ 0 ≤ at_ ∧ at_ ≤ 2147483647 - n
instance (seg at_ lsn n : Int) : Decidable (AppOk seg at_ lsn n) := by unfold AppOk; infer_instance
def appendW (A : Dk) (seg at_ lsn : Int) (b : List Int) : (Int × Int) × Dk :=
  if AppOk seg at_ lsn (wneedI b.length) then
    (if (wrP A (nameW seg) at_.toNat lsn.toNat (piecesW (textW b))).1 = 0 then (wneedI b.length, 0) else (0, (wrP A (nameW seg) at_.toNat lsn.toNat (piecesW (textW b))).1), (wrP A (nameW seg) at_.toNat lsn.toNat (piecesW (textW b))).2)
  else ((0, 1), A)
def moreW (A : Dk) (name : ByteArray) (g : Int) (en : Nat) : Nat → Nat → List Int → List Int → Option (List Int × Nat)
  | 0, at_, _, text => some (text, at_)
  | c + 1, at_, last, text => if last.length = 106 ∧ at_ < en ∧ 0 ≤ (getP A name at_).1 ∧ (getP A name at_).1 = g then moreW A name g en c (at_ + 1) (getP A name at_).2 (text ++ (getP A name at_).2) else none
def sizeW (p : List Int) : Nat := getN (p.take 4)
def recW (A : Dk) (name : ByteArray) (en at_ : Nat) : Option (List Int × Nat) :=
  if at_ < en ∧ 0 ≤ (getP A name at_).1 ∧ 4 ≤ (getP A name at_).2.length then
    match moreW A name (getP A name at_).1 en (wneedI (sizeW (getP A name at_).2) - 1).toNat (at_ + 1) (getP A name at_).2 (getP A name at_).2 with
    | none => none
    | some (t, a) => if wneedI (sizeW (getP A name at_).2) ≠ 0 ∧ t.length = sizeW (getP A name at_).2 + 4 then some (t.drop 4, a) else none
  else none
def readG (A : Dk) (name : ByteArray) (en : Nat) : Nat → Nat → List (List Int) → Option (List (List Int))
  | 0, _, out => some out
  | c + 1, at_, out => if at_ < en then (match recW A name en at_ with | none => none | some (t, a) => readG A name en c a (out ++ [t])) else some out
theorem textW_length (b : List Int) : (textW b).length = b.length + 4 := by
  unfold textW
  rw [List.length_append, putI_length]
  omega
theorem textW_bytes {b : List Int} (hb : Bytes b) : Bytes (textW b) := (putI_bytes _ _).append hb
theorem wneed_chunk {n : Nat} (h1 : 1 ≤ n) (h2 : n ≤ 1000000) : wneedI n = (chunkW (n + 4) : Int) := by
  unfold wneedI chunkW
  rw [if_neg (by omega)]
  omega
theorem piecesW_length (l : List Int) : (piecesW l).length = chunkW l.length := by unfold piecesW; rw [List.length_map, List.length_range]
theorem piecesW_at {l : List Int} {k : Nat} (h : k < chunkW l.length) : (piecesW l)[k]? = some (pieceW l k) := by
  unfold piecesW
  rw [List.getElem?_map, List.getElem?_range h]
  rfl
theorem pieceW_length (l : List Int) (k : Nat) : (pieceW l k).length = min 106 (l.length - 106 * k) := by
  unfold pieceW
  rw [List.length_take, List.length_drop]
theorem piecesW_mem {l p : List Int} (h : p ∈ piecesW l) : p.length ≤ 106 ∧ ∀ x ∈ p, x ∈ l := by
  obtain ⟨k, -, rfl⟩ := List.mem_map.1 h
  exact ⟨by rw [pieceW_length]; omega, fun x hx => List.mem_of_mem_drop (List.mem_of_mem_take hx)⟩
/-- An extent stands at a place, whatever else the disk has. -/
def HasAt (B : Dk) (f : ByteArray) (i0 gen : Nat) (ps : List (List Int)) : Prop := ∀ k p, ps[k]? = some p → ∃ c, B.cel f ((i0 + k : Nat) : Int) = some c ∧ c.read = extI f (i0 + k) gen p
structure HasBoth (B : Dk) (x : ByteArray) (i0 gen : Nat) (ps : List (List Int)) : Prop where
  a : HasAt B (x ++ dotA) i0 gen ps
  b : HasAt B (x ++ dotB) i0 gen ps
theorem has_get {B : Dk} {x : ByteArray} {i0 gen k : Nat} {ps : List (List Int)} {p : List Int} (h : HasBoth B x i0 gen ps) (hg : gen ≤ 4611686018427387904) (hk : i0 + k ≤ 2147483647) (hp : ps[k]? = some p) (hl : p.length ≤ 106) : getP B x ((i0 + k : Nat) : Int) = ((gen : Int), p) := by
  obtain ⟨ca, ha, ra⟩ := h.a k p hp
  obtain ⟨cb, hb, rb⟩ := h.b k p hp
  have oa := openI_extI (f := x ++ dotA) (i := i0 + k) hk hg hl
  have ob := openI_extI (f := x ++ dotB) (i := i0 + k) hk hg hl
  rw [← ra] at oa
  rw [← rb] at ob
  unfold getP halvesL
  simp only [List.foldl_cons, List.foldl_nil]
  rw [show getF B ((i0 + k : Nat) : Int) (-1, []) (x ++ dotA) = ((gen : Int), p) by simp only [getF, ha, oa]; rw [if_neg (by show ¬ (gen : Int) ≤ -1; omega)]]
  simp only [getF, hb, ob]
  rw [if_pos (Int.le_refl _)]
theorem none_get {B : Dk} {x : ByteArray} {i : Int} (ha : B.cel (x ++ dotA) i = none) (hb : B.cel (x ++ dotB) i = none) : (getP B x i).1 = -1 := by
  unfold getP halvesL
  simp only [List.foldl_cons, List.foldl_nil, getF, ha, hb]
section
variable {B : Dk} {x : ByteArray} {i0 gen en : Nat} {l : List Int}
theorem more_has (h : HasBoth B x i0 gen (piecesW l)) (hg : gen ≤ 4611686018427387904) (hm : i0 + chunkW l.length ≤ 2147483647) (he : i0 + chunkW l.length ≤ en) :
    ∀ (c k : Nat), 1 ≤ k → k + c = chunkW l.length → moreW B x gen en c (i0 + k) (pieceW l (k - 1)) (l.take (106 * k)) = some (l, i0 + chunkW l.length)
  | 0, k, _, hk => by
    unfold moreW
    have : l.take (106 * k) = l := List.take_of_length_le (by unfold chunkW at hk; omega)
    rw [this, show i0 + k = i0 + chunkW l.length by omega]
  | c + 1, k, h1, hk => by
    have hlt : k < chunkW l.length := by omega
    have hg2 := has_get (k := k) h hg (by omega) (piecesW_at hlt) (by rw [pieceW_length]; omega)
    unfold moreW
    rw [hg2]
    rw [if_pos ⟨by rw [pieceW_length]; unfold chunkW at hlt; omega, by omega, by show (0 : Int) ≤ gen; omega, rfl⟩]
    have ih := more_has h hg hm he c (k + 1) (by omega) (by omega)
    rw [Nat.add_sub_cancel] at ih
    have e : l.take (106 * k) ++ pieceW l k = l.take (106 * (k + 1)) := by
      unfold pieceW
      rw [show 106 * (k + 1) = 106 * k + 106 by omega, List.take_add]
    dsimp only
    rw [e, show i0 + k + 1 = i0 + (k + 1) by omega]
    exact ih
theorem more_cut (h : HasBoth B x i0 gen (piecesW l)) (hg : gen ≤ 4611686018427387904) (hm : i0 + chunkW l.length ≤ 2147483647) (he : en < i0 + chunkW l.length) :
    ∀ (c k : Nat), 1 ≤ k → k + c = chunkW l.length → i0 + k ≤ en → ∀ last text, moreW B x gen en c (i0 + k) last text = none
  | 0, k, _, hk, hen, last, text => by omega
  | c + 1, k, h1, hk, hen, last, text => by
    unfold moreW
    by_cases hc : last.length = 106 ∧ i0 + k < en ∧ 0 ≤ (getP B x ((i0 + k : Nat) : Int)).1 ∧ (getP B x ((i0 + k : Nat) : Int)).1 = gen
    · rw [if_pos hc, show i0 + k + 1 = i0 + (k + 1) by omega]
      exact more_cut h hg hm he c (k + 1) (by omega) (by omega) (by omega) _ _
    · rw [if_neg hc]
end
theorem pieceW_zero {b : List Int} : (pieceW (textW b) 0).take 4 = putI b.length 4 := by
  unfold pieceW
  rw [Nat.mul_zero, List.drop_zero, List.take_take, show min 4 106 = 4 from rfl]
  unfold textW
  rw [List.take_left' (putI_length _ _)]
theorem sizeW_piece {b : List Int} (h : b.length < 4294967296) : sizeW (pieceW (textW b) 0) = b.length := by
  unfold sizeW
  rw [pieceW_zero, getN_putI 4 _ (by omega)]
theorem textW_drop (b : List Int) : (textW b).drop 4 = b := by
  unfold textW
  rw [List.drop_left' (putI_length _ _)]
/-- A record that is there is read; one that ends behind what is asked is not. -/
theorem rec_has {B : Dk} {x : ByteArray} {i0 gen en : Nat} {b : List Int} (h1 : 1 ≤ b.length) (h2 : b.length ≤ 1000000) (h : HasBoth B x i0 gen (piecesW (textW b))) (hg : gen ≤ 4611686018427387904) (hm : i0 + chunkW (b.length + 4) ≤ 2147483647) (hi : i0 < en) :
    recW B x en i0 = if i0 + chunkW (b.length + 4) ≤ en then some (b, i0 + chunkW (b.length + 4)) else none := by
  have hc : chunkW (textW b).length = chunkW (b.length + 4) := by rw [textW_length]
  have h0 : 0 < chunkW (b.length + 4) := by unfold chunkW; omega
  have hg0 := has_get (k := 0) h hg (by omega) (piecesW_at (by rw [hc]; exact h0)) (by rw [pieceW_length]; omega)
  rw [Nat.add_zero] at hg0
  unfold recW
  rw [hg0]
  dsimp only
  rw [if_pos ⟨hi, by omega, by rw [pieceW_length, textW_length]; omega⟩, sizeW_piece (by omega), wneed_chunk h1 h2]
  rw [show ((chunkW (b.length + 4) : Int) - 1).toNat = chunkW (b.length + 4) - 1 by omega]
  by_cases he : i0 + chunkW (b.length + 4) ≤ en
  · have hm2 := more_has (en := en) h hg (by rw [hc]; exact hm) (by rw [hc]; exact he) (chunkW (b.length + 4) - 1) 1 (Nat.le_refl _) (by rw [hc]; omega)
    rw [show (1 : Nat) - 1 = 0 from rfl, Nat.mul_one, show (textW b).take 106 = pieceW (textW b) 0 by unfold pieceW; rw [Nat.mul_zero, List.drop_zero]] at hm2
    rw [hm2]
    dsimp only
    rw [if_pos ⟨by omega, textW_length b⟩, if_pos he, hc, textW_drop]
  · have hm2 := more_cut (en := en) h hg (by rw [hc]; exact hm) (by rw [hc]; omega) (chunkW (b.length + 4) - 1) 1 (Nat.le_refl _) (by rw [hc]; omega) (by omega) (pieceW (textW b) 0) (pieceW (textW b) 0)
    rw [hm2, if_neg he]
end Go.Proofs.YtcjcccbjgooooaaGreatDoor
/- wal: Need, Name, files; the reference's. -/
namespace Go.Proofs.YtcjcccbjgooooaaGreatDoor
open Go.RowKit HP
set_option linter.unusedSimpArgs false
set_option linter.unusedVariables false

set_option maxHeartbeats 1000000 in
set_option maxRecDepth 100000 in
theorem wal_need (n : Int) (w : World) (h : wf64 n) : Calls Tryz.prog 28 #[.int .i64 n] w fun e w' => e = .returned (.int .i64 (wneedI n)) ∧ w' = w := by
  unfold wf64 at h
  by_cases h1 : n < 1
  · have HR : Aside (wneedI n = 0) := ⟨by unfold wneedI; rw [if_pos (by omega)]⟩
    go_enter Tryz.func28, Tryz.ntmps28
    go_wp2
    go_ret
    rw [HR.out]
    exact ⟨rfl, rfl⟩
  · by_cases h2 : 1000000 < n
    · have HR : Aside (wneedI n = 0) := ⟨by unfold wneedI; rw [if_pos (by omega)]⟩
      go_enter Tryz.func28, Tryz.ntmps28
      go_wp2
      go_ret
      rw [HR.out]
      exact ⟨rfl, rfl⟩
    · have HR : Aside (wneedI n = (4 + n + 106 - 1).tdiv 106) := ⟨by unfold wneedI; rw [if_neg (by omega), Int.tdiv_eq_ediv_of_nonneg (by omega)]; omega⟩
      have HR2 : Aside (wneedI n = (4 + n + 106 - 1) / 106) := ⟨by unfold wneedI; rw [if_neg (by omega)]; omega⟩
      go_enter Tryz.func28, Tryz.ntmps28
      go_wp2
      go_ret
      first
        | (rw [HR.out]; exact ⟨rfl, rfl⟩)
        | (rw [HR2.out]; exact ⟨rfl, rfl⟩)
set_option maxHeartbeats 1000000 in
set_option maxRecDepth 100000 in
theorem ref_wneed (n : Int) (w : World) (h : wf64 n) : Calls Tryz.prog 37 #[.int .i64 n] w fun e w' => e = .returned (.int .i64 (wneedI n)) ∧ w' = w := by
  unfold wf64 at h
  by_cases h1 : n < 1
  · have HR : Aside (wneedI n = 0) := ⟨by unfold wneedI; rw [if_pos (by omega)]⟩
    go_enter Tryz.func37, Tryz.ntmps37
    go_wp2
    go_ret
    rw [HR.out]
    exact ⟨rfl, rfl⟩
  · by_cases h2 : 1000000 < n
    · have HR : Aside (wneedI n = 0) := ⟨by unfold wneedI; rw [if_pos (by omega)]⟩
      go_enter Tryz.func37, Tryz.ntmps37
      go_wp2
      go_ret
      rw [HR.out]
      exact ⟨rfl, rfl⟩
    · have HR : Aside (wneedI n = (n + 3) / 106 + 1) := ⟨by unfold wneedI; rw [if_neg (by omega)]; omega⟩
      have ht : (n + 3).tdiv 106 = (n + 3) / 106 := Int.tdiv_eq_ediv_of_nonneg (by omega)
      go_enter Tryz.func37, Tryz.ntmps37
      go_wp2
      go_ret
      rw [HR.out]
      exact ⟨rfl, rfl⟩
theorem itoa_nat (d : Nat) : (⟨(Lib.itoa (d : Int)).toArray⟩ : ByteArray) = decB d := by
  unfold Lib.itoa decB
  rw [if_neg (by omega), Int.toNat_natCast]
theorem nameW_size {n : Int} (hn : wf64 n) : (nameW n).size ≤ 20 := by
  unfold nameW
  rw [ByteArray.size_append]
  have := decB_size 18 n.toNat (by unfold wf64 at hn; omega)
  show 1 + _ ≤ 20
  omega
set_option maxHeartbeats 1000000 in
set_option maxRecDepth 100000 in
theorem wal_name (E : Env) (q : HP) (n : Int) (w : World) (hn : wf64 n) (ht : ∀ w, Sat E w q → Lib.TabIs Tryz.prog w "internal/strconv.uint64pow10" .u64 Lib.pow10Tab) (hw : Sat E w q) :
    Calls Tryz.prog 33 #[.int .i64 n] w fun e w' => e = .returned (.string (nameW n)) ∧ Sat E w' q := by
  obtain ⟨d, hd⟩ : ∃ d : Nat, d = n.toNat := ⟨_, rfl⟩
  have hmx : max n 0 = (d : Int) := by omega
  have hmx2 : (if (0 : Int) > n then (0 : Int) else n) = (d : Int) := by split <;> omega
  unfold wf64 at hn
  have hsz := decB_size 18 d (by omega)
  have HI := Aside.mk (itoa_ok E q (d : Int) w ⟨by omega, by omega⟩ ht hw)
  have HN : Aside (nameW n = wB ++ decB d) := ⟨by unfold nameW; rw [hd]⟩
  have hs3 : 1 + (decB d).size ≤ 100 := by omega
  clear ht hw hd hn hsz
  go_enter Tryz.func33, Tryz.ntmps33
  go_wp2_with fail
  refine HI.out.mono ?_
  rintro e w1 ⟨rfl, h1⟩
  rw [itoa_nat]
  have H1 := Aside.mk h1
  clear h1 HI
  go_wp2
  go_ret
  rw [HN.out]
  exact ⟨rfl, H1.out⟩
set_option maxHeartbeats 1000000 in
set_option maxRecDepth 100000 in
theorem ref_wname (n : Int) (w : World) (hn : wf64 n) :
    Calls Tryz.prog 40 #[.int .i64 n] w fun e w' => e = .returned (.string (nameW n)) ∧ w' = w := by
  have HI := Aside.mk (digits_ok n w hn)
  unfold wf64 at hn
  obtain ⟨d, hd⟩ : ∃ d : Nat, d = n.toNat := ⟨_, rfl⟩
  have hsz := decB_size 18 d (by omega)
  have HN : Aside (nameW n = wB ++ decB d) := ⟨by unfold nameW; rw [hd]⟩
  rw [← hd] at HI
  have hs3 : 1 + (decB d).size ≤ 100 := by omega
  clear hd hn hsz
  go_enter Tryz.func40, Tryz.ntmps40
  go_wp2_with fail
  refine HI.out.mono ?_
  rintro e w1 ⟨rfl, hw1⟩
  subst w1
  go_wp2
  go_ret
  rw [HN.out]
  exact ⟨rfl, rfl⟩
set_option maxHeartbeats 1000000 in
set_option maxRecDepth 100000 in
theorem wal_files (E : Env) (q : HP) (name : ByteArray) (w : World) (hn : name.size + 2 ≤ maxLen) (hw : Sat E w q) :
    Calls Tryz.prog 32 #[.string name] w fun e w' => e = .returned (.agg #[.string (name ++ dotA), .string (name ++ dotB)]) ∧ Sat E w' q := by
  have hn2 : name.size + 2 ≤ 9223372036854775807 := by unfold maxLen at hn; omega
  unfold dotA dotB
  go_enter Tryz.func32, Tryz.ntmps32
  have h1 := hw.alloc (.cells [.string (name ++ ⟨#[46, 97]⟩), .string (name ++ ⟨#[46, 98]⟩)].toArray 73)
  have r1 := run_loadAgg (P := Tryz.prog) (n := 2) agTwo rfl (Sat.ptCells (off := 0) (l := [.string (name ++ ⟨#[46, 97]⟩), .string (name ++ ⟨#[46, 98]⟩)]) h1 rfl)
  go_wp2
  exact ⟨rfl, _, results_cell (t := 2) (by kernel_rfl) rfl r1, rfl, h1.right⟩
end Go.Proofs.YtcjcccbjgooooaaGreatDoor
