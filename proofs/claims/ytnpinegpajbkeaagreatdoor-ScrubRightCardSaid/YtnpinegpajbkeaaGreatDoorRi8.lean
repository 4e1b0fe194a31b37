/- Texts of one claim, one behind the other: Cop, Laid, Tied, RdZ, TabO. -/
import Derived.Test.YtnpinegpajbkeaaGreatDoorRi7
import Derived.LaidMore
import Derived.Stop.Joined
import Derived.Lib.LaidTab
set_option linter.unusedSimpArgs false
set_option linter.unusedVariables false
namespace Go.Proofs.YtnpinegpajbkeaaGreatDoor
open Go.RowKit HP
theorem wp_mapUpdate_run {P : Program} {o : Oper} {a : Act} {w w' : World} {K : Act → World → Prop} {Q : Exit → Act → World → Prop} {m x v : Operand} {t : TypeId} (hop : o.op = Op.mapUpdate t m x v)
    {M X V : Value} (hm : a.eval m = M) (hx : a.eval x = X) (hv : a.eval v = V) (hr : (Instr.mapUpdate t M X V).run P w = .ok () w')
    (h : K (a.put o.dst undef) w') : o.wp P a w K Q := by
  unfold Oper.wp
  simp [execOp, hop, hm, hx, hv, hr, Result.andThen]
  exact h
def valF (fs : List Fil) (s : ByteArray) : Value := match fs.find? (fun f => decide (f.name = s)) with | none => .slice none 0 0 | some f => f.val
theorem look_valF {w : World} {m : Nat} {es : Array MapEntry} {clock : Nat} {fs : List Fil} (hm : MapOf es clock fs) (hb : w.heap[m]? = some (.map es clock)) (name : ByteArray) (hn : name.size ≤ maxLen) : (Instr.lookup 141 (.map (some m)) (.string name) false).run Tryz.prog w = .ok (valF fs name) w := by
  unfold valF
  rcases lookup_str (P := Tryz.prog) (t := 141) Tryz.underlying9 Tryz.underlying141 (zero_cells w) hb hm.1 name hn with ⟨h1, h2, h3⟩ | ⟨j, x, h1, h2, h3, h4⟩
  · have : fs.find? (fun f => decide (f.name = name)) = none := by
      rw [List.find?_eq_none]
      intro f hf he
      simp only [decide_eq_true_eq] at he
      have hmem : (Value.string f.name, f.val) ∈ fs.map (fun f => (Value.string f.name, f.val)) := List.mem_map.2 ⟨f, hf, rfl⟩
      rw [← hm.2.1] at hmem
      obtain ⟨x, hx, hxe⟩ := List.mem_map.1 hmem
      simp only [Prod.mk.injEq] at hxe
      exact h3 x hx (by rw [hxe.1, he])
    rw [this]
    exact h1
  · have hj : (es.toList.map (fun x => (x.key, x.val)))[j]? = some (x.key, x.val) := by rw [List.getElem?_map, h1]; rfl
    rw [hm.2.1, List.getElem?_map] at hj
    obtain ⟨f, hf, hfe⟩ := Option.map_eq_some_iff.1 hj
    simp only [Prod.mk.injEq] at hfe
    have hname : f.name = name := by
      have := hfe.1.trans h2
      injection this
    have : fs.find? (fun f => decide (f.name = name)) = some f := by rw [← hname]; exact find_at hm.2.2.1 hf
    rw [this, h3, ← hfe.2]
theorem View.empty {A : Dk} (h : A.Fine) : View ⟨A.room, A.fuse, []⟩ #[] 0 [] :=
  ⟨⟨(fun x hx => by simp at hx), rfl, by simp, (fun x hx => by simp at hx), by simp⟩, fun s => rfl, ⟨List.Pairwise.nil, (fun x hx => by cases hx), (fun x hx => by cases hx), h.room, h.fuse, h.room.1⟩⟩
set_option maxHeartbeats 4000000 in
set_option maxRecDepth 100000 in
theorem disk_copy (E : Env) (q : HP) (d : Nat) (A : Dk) (w : World) (hw : Sat E w (HP.disk d A * q)) :
    Calls Tryz.prog 33 #[.pointer (some ⟨d, 0, none⟩)] w fun e w' => ∃ d', e = .returned (.pointer (some ⟨d', 0, none⟩)) ∧ Sat E w' (HP.disk d' A * (HP.disk d A * q)) := by
  obtain ⟨m, es, clock, fs, hv, hd⟩ := hw.disk_open
  clear hw
  go_enter Tryz.func33, Tryz.ntmps33
  go_wp2_with fail
  refine (disk_none E _ d _ _ m w (dk_parts hd)).mono ?_
  rintro e w1 ⟨rfl, rfl⟩
  have k0 := (dk_parts hd).drew.cell 0
  have k2 := (dk_parts hd).drew.cell 2
  have k0m := ((dk_parts hd).drew.alloc (.map #[] 0)).s2.cell 0
  have k2m := ((dk_parts hd).drew.alloc (.map #[] 0)).s2.cell 2
  simp only [List.getElem?_toArray, List.getElem?_cons_zero, List.getElem?_cons_succ] at k0 k2 k0m k2m
  have hS := ((dk_parts hd).drew.alloc (.map #[] 0)).alloc (.cells #[.int .i64 A.room, .map (some w1.heap.size), .int .i64 A.fuse] 143)
  rw [show (w1.drew.alloc (.map #[] 0)).heap.size = w1.heap.size + 1 by rw [World.size_alloc]; rfl] at hS
  rw [show w1.drew.heap.size = w1.heap.size from rfl] at hS
  have hS2 : Sat E ((w1.drew.alloc (.map #[] 0)).alloc (.cells #[.int .i64 A.room, .map (some w1.heap.size), .int .i64 A.fuse] 143)) (HP.disk (w1.heap.size + 1) ⟨A.room, A.fuse, []⟩ * (HP.dk d A.room A.fuse m es clock fs * q)) := Sat.disk_close (m := w1.heap.size) (View.empty hv.fine) (hS.perm (by
    unfold HP.dk HP.dsk
    simp only [List.map_nil, HP.all, HP.mul_emp]
    ac_rfl))
  clear hd hS
  go_wp2
  refine region_R [4, 10] [4] (fun w' => w'.cell? ⟨d, 0, none⟩ = some (.int .i64 A.room) ∧ w'.cell? ⟨d, 2, none⟩ = some (.int .i64 A.fuse)) #[false, false, false, false, false, false, false, false, false, false, false, false] (by kernel_rfl) rfl rfl ?_
  refine wpR_pu 0 #[true, false, false, false, false, false, false, false, false, false, false, false] rfl onlyN_noPanic (by kernel_rfl) (fun K hK => ?_); (go_simp; try go_bits); refine hK _ ?_; clear hK K
  refine wpR_pu 1 #[true, true, false, false, false, false, false, false, false, false, false, false] rfl onlyN_noPanic (by kernel_rfl) (fun K hK => ?_); (go_simp; try go_bits); refine hK _ ?_; clear hK K
  refine wpR_pu 2 #[true, true, true, false, false, false, false, false, false, false, false, false] rfl onlyN_noPanic (by kernel_rfl) (fun K hK => ?_); (go_simp; try go_bits); refine hK _ ?_; clear hK K
  refine wpR_held (i := 3) (v := .int .i64 A.room) #[true, true, true, true, false, false, false, false, false, false, false, false] rfl onlyN_noPanic (by kernel_rfl) ⟨k0, k2⟩ (.inl ⟨rfl, fun w' hT => ?_⟩) ?_
  · obtain ⟨t0, t2⟩ := hT; go_simp
  simp only [Act.put, List.setIfInBounds_toArray, List.set_cons_zero, List.set_cons_succ]
  refine wpR_pu 5 #[true, true, true, true, false, true, false, false, false, false, false, false] rfl onlyN_noPanic (by kernel_rfl) (fun K hK => ?_); (go_simp; try go_bits); refine hK _ ?_; clear hK K
  refine wpR_pu 6 #[true, true, true, true, false, true, true, false, false, false, false, false] rfl onlyN_noPanic (by kernel_rfl) (fun K hK => ?_); (go_simp; try go_bits); refine hK _ ?_; clear hK K
  refine wpR_pu 7 #[true, true, true, true, false, true, true, true, false, false, false, false] rfl onlyN_noPanic (by kernel_rfl) (fun K hK => ?_); (go_simp; try go_bits); refine hK _ ?_; clear hK K
  refine wpR_held (i := 8) (v := .int .i64 A.fuse) #[true, true, true, true, false, true, true, true, true, false, false, false] rfl onlyN_noPanic (by kernel_rfl) ⟨k0, k2⟩ (.inl ⟨rfl, fun w' hT => ?_⟩) ?_
  · obtain ⟨t0, t2⟩ := hT; go_simp
  simp only [Act.put, List.setIfInBounds_toArray, List.set_cons_zero, List.set_cons_succ]
  refine wpR_keep #[true, true, true, true, true, true, true, true, true, false, false, false] (i := 4) rfl (by kernel_rfl) (fun K hK => ?_)
  go_simp; refine hK _ _ ⟨k0m, k2m⟩ ?_; clear hK K
  refine wpR_rd 9 #[true, true, true, true, true, true, true, true, true, true, false, false] rfl onlyN_noPanic (by kernel_rfl) (fun K hK => ?_); (go_simp; try go_bits); refine hK _ ?_; clear hK K
  refine wpR_eff #[true, true, true, true, true, true, true, true, true, true, true, false] (i := 10) rfl (by kernel_rfl) (fun K hK => ?_)
  go_simp; refine hK _ _ ?_; clear hK K
  refine wpR_rd 11 #[true, true, true, true, true, true, true, true, true, true, true, true] rfl onlyN_noPanic (by kernel_rfl) (fun K hK => ?_); (go_simp; try go_bits); refine hK _ ?_; clear hK K
  refine wpR_done (by kernel_rfl) ?_ _
  simp only [OnlyN]
  show Exit.then _ _ Exit.normal _ ((w1.drew.alloc (.map #[] 0)).alloc (.cells #[.int .i64 A.room, .map (some w1.heap.size), .int .i64 A.fuse] 143))
  generalize (w1.drew.alloc (.map #[] 0)).alloc (.cells #[.int .i64 A.room, .map (some w1.heap.size), .int .i64 A.fuse] 143) = w2 at *
  clear k0 k2 k0m k2m
  generalize w1.heap.size = b0 at *
  have c1 := (dk_parts hS2.right).cell 1
  simp only [List.getElem?_toArray, List.getElem?_cons_zero, List.getElem?_cons_succ] at c1
  have hrg := run_range_map (P := Tryz.prog) (t := 141) Tryz.underlying141 (dk_parts hS2.right).s2.get
  have HS0 := Aside.mk (hS2.alloc (.mapIter (some m) clock #[] clock))
  have HM := Aside.mk hv.map
  have hlen : es.toList.length = fs.length := by simpa using congrArg List.length hv.map.2.1
  have HV := Aside.mk (And.intro hv hlen)
  have HC0 := Aside.mk (copied_start hv)
  clear hv hlen hS2
  go_wp2
  obtain ⟨g, hg⟩ : ∃ g, g = w2.heap.size := ⟨_, rfl⟩
  obtain ⟨w0, hw0⟩ : ∃ w0, w0 = w2.alloc (.mapIter (some m) clock #[] clock) := ⟨_, rfl⟩
  rw [← hg, ← hw0] at HS0
  rw [← hg, ← hw0]
  clear hrg c1 hg hw0
  obtain ⟨d', hd'⟩ : ∃ d', d' = b0 + 1 := ⟨_, rfl⟩
  rw [← hd'] at HS0
  rw [← hd']
  clear hd'
  go_loopw [8] (fun v8 wr => ∃ (seen : Array Nat) (c0 : Nat) (O : Dk), clock ≤ c0 ∧ Aside (Copied A O (leftZ es seen fs)) ∧ Aside (Sat E wr (HP.pt g (.mapIter (some m) clock seen c0) * (HP.dk d A.room A.fuse m es clock fs * (HP.disk d' O * q)))))
    (fun _ wr => match wr.heap[g]? with | some (.mapIter _ _ seen _) => (leftL es seen).length | _ => 0)
  case atStart => exact ⟨#[], clock, _, Nat.le_refl _, HC0, ⟨HS0.out.perm (by ac_rfl)⟩⟩
  case round =>
    clear HS0 HC0
    obtain ⟨seen, c0, O, hc0, HO, HS⟩ := hrel
    rcases next_file HM.out hc0 HS.out 0 with ⟨hend, hnext⟩ | ⟨j, f, e, w2, hj, hje, hel, hnext, hent, h2⟩
    · have hcp := HO.out
      rw [leftZ_end hend] at hcp
      have hOA := copied_end hcp HV.out.1.fine.sorted
      have H2 : Aside (Sat E wr (HP.disk d' A * (HP.disk d A * q))) := ⟨by
        have h3 := HS.out.right
        rw [hOA] at h3
        exact (Sat.disk_close (q := HP.disk d' A * q) HV.out.1 h3).s2⟩
      clear hcp hOA HO HS hend
      go_wp2
      go_ret
      exact ⟨d', rfl, H2.out⟩
    · obtain ⟨R0, h3, hback⟩ := dk_fileQ (h2.perm (by ac_rfl : _ = HP.dk d A.room A.fuse m es clock fs * (HP.pt g (.mapIter (some m) clock (seen.push e.born) clock) * (HP.disk d' O * q)))) hj
      obtain ⟨B, cc, hvB, -, -⟩ := h3.row_slice
      have hfm := HV.out.1.mem (List.mem_of_getElem? hj)
      have hfl : lk A.files f.name = some f.cs := lk_of_mem HV.out.1.fine.sorted hfm
      have hfs : f.cels.length ≤ 100000 := by
        have h7 := at_small HV.out.1.fine f.name
        rw [Dk.at, hfl] at h7
        simpa [Fil.cs] using h7
      have HFine : Aside (∀ x ∈ f.cels, x.2.Fine) := ⟨fun x hx => HV.out.1.cel_fine (List.mem_of_getElem? hj) hx⟩
      have hnm1 := HV.out.1.fine.named _ hfm
      have hnm : f.name.size ≤ maxLen := by
        have h7 := hnm1.1
        unfold namedB at h7
        simp only [Bool.and_eq_true, decide_eq_true_eq] at h7
        unfold maxLen
        omega
      have hset : fs.set j ⟨f.name, f.val, f.cels⟩ = fs := by
        obtain ⟨h1, h2⟩ := List.getElem?_eq_some_iff.1 hj
        rw [show (⟨f.name, f.val, f.cels⟩ : Fil) = fs[j] from h2.symm]
        exact List.set_getElem_self h1
      have he2 : seen.contains e.born = false := by
        have := (List.mem_filter.1 hel).2
        simpa using this
      have hst := leftZ_step HM.out.2.2.2.2 HV.out.2 hje hj he2
      have hstep := copied_step HO.out hst (leftZ_names HM.out.2.2.1 HV.out.2) hfl hnm1.2
      have hfr : (sizeF A.files : Int) ≤ A.room := HV.out.1.fine.fits
      have hca : ∀ k, k ≤ f.cs.length → CopyAt A O f.name f.cs k := fun k hk => copyAt hfr HO.out hst hk
      have HC := Aside.mk (And.intro hback (And.intro hset (And.intro hstep (And.intro hel (And.intro hca hnm1.1)))))
      have hce : f.cs.length = f.cels.length := by unfold Fil.cs; rw [List.length_map]
      rw [hvB] at hnext hent h3
      have H3 := Aside.mk h3
      have HG1 := Aside.mk HS.out.get
      clear HS h2 hback h3 hj hje hel hfm hset hst hstep hfr hca hnm1 he2 hfl HO
      obtain ⟨n, hnn⟩ : ∃ n, n = f.cels.length := ⟨_, rfl⟩
      rw [← hnn] at H3 hfs hnext hent hce
      have HN := Aside.mk (And.intro hnn hce)
      clear hnn hce
      go_wp2
      obtain ⟨wo, rfl⟩ : ∃ wo : World, wo = wr := ⟨_, rfl⟩
      go_loopw [34] (fun v34 wi => ∃ k : Nat, v34 = .int .i64 k ∧ k ≤ n ∧ Aside (Sat E wi (HP.disk d' (copyK O f.name f.cs k) * (HP.row 145 1 (.slice B n cc) n (celPtrs f.cels) * (HP.cels f.cels * (R0 * (HP.pt g (.mapIter (some m) clock (seen.push e.born) clock) * q))))))) (fun x _ => n - (intOf x).toNat)
      case atStart => exact ⟨0, rfl, Nat.zero_le _, ⟨H3.out.perm (by rw [show copyK O f.name f.cs 0 = O from rfl]; ac_rfl)⟩⟩
      case round =>
        clear H3 hnext hent
        obtain ⟨k, rfl, hk, HR⟩ := hrel
        by_cases hlt : k < n
        · have hkf : k < f.cels.length := by have := HN.out.1; omega
          have hrow := HR.out.right
          obtain ⟨pa, hpa, hcx⟩ := hrow.row_cells.at_ k (by simp [celPtrs, hkf])
          obtain ⟨pg, po, rfl⟩ : ∃ g o, pa = ⟨g, o, none⟩ := slice_addr hrow.row_cells hpa (k := k) (by simp [celPtrs, hkf])
          subst hpa
          rw [addr_add] at hcx
          simp only [celPtrs, List.getElem_map] at hcx
          obtain ⟨Rk, h5, -, -⟩ := cels_take (hrow.s2) (List.getElem?_eq_getElem hkf)
          have hxf : (f.cels[k]).2.Fine := HFine.out _ (List.getElem_mem hkf)
          have hcs : f.cs[k]? = some (f.cels[k]).2 := by unfold Fil.cs; rw [List.getElem?_map, List.getElem?_eq_getElem hkf]; rfl
          have CA := HC.out.2.2.2.2.1 k (by rw [HN.out.2]; exact hk)
          have hnx := CA.next _ hcs
          generalize f.cels[k] = x at *
          obtain ⟨bk, c⟩ := x
          dsimp only at *
          have hk0 : (0 : Int) ≤ (k : Int) := by omega
          have hk1 : (k : Int) < (n : Int) := by omega
          have rl := run_loadAgg (P := Tryz.prog) agCel (Cel.vals_length hxf) (cel_whole h5)
          obtain ⟨Ok, hOk⟩ : ∃ Ok, Ok = copyK O f.name f.cs k := ⟨_, rfl⟩
          have hfree := CA.free (by rw [HN.out.2]; exact hlt)
          have hatl : (Ok.at f.name).length = k := by rw [hOk, CA.at_, List.length_take, HN.out.2]; omega
          have hR := HR.out
          rw [← hOk] at hR hfree hnx
          have HOk := Aside.mk hOk
          obtain ⟨m2, es2, clock2, fs2, hv2, hd2⟩ := hR.disk_open
          obtain ⟨v, Bv, cv, hvv, hlook, -, hcase⟩ := find_file hv2 hd2 f.name hnm
          obtain ⟨ptrs, R, es', clock', hpl, hRq, hopen, hmu, hclose⟩ := new_cel hv2 hnm HC.out.2.2.2.2.2 hfree hcase
          have hval : v = valF fs2 f.name := by
            have h7 := look_valF (w := wr) hv2.map (dk_parts hd2).s2.get f.name hnm
            rw [hlook] at h7
            injection h7
          rw [hatl] at hpl hopen hclose
          have h6 := (hopen _ hd2).alloc (.cells Tryz.zeroCells149 149)
          have h6' : Sat E (wr.alloc (.cells Tryz.zeroCells149 149)) (HP.cel wr.heap.size Cel.zero * (HP.row 145 1 v k ptrs * (HP.dsk d' Ok.room Ok.fuse m2 * (HP.pt m2 (.map es2 clock2) * R)))) := by
            unfold HP.cel
            rw [zero_cel]
            exact h6
          obtain ⟨w7, hr7, h7⟩ := cel_store_all h6' Cel.zero_fine hxf
          have H8 : Aside (Sat E w7.drew (HP.cel wr.heap.size c * (HP.row 145 1 v k ptrs * (HP.dsk d' Ok.room Ok.fuse m2 * (HP.pt m2 (.map es2 clock2) * R))))) := ⟨h7.drew⟩
          have HLK : Aside (∀ w', w'.heap[m2]? = some (.map es2 clock2) → (Instr.lookup 141 (.map (some m2)) (.string f.name) false).run Tryz.prog w' = .ok v w') := ⟨fun w' hb => by rw [hval]; exact look_valF hv2.map hb f.name hnm⟩
          have HMU := Aside.mk hmu
          have HCL : Aside (∀ w v' b0, Sat E w (HP.cel b0 c * (HP.row 145 1 v' (k + 1) (ptrs ++ [.pointer (some ⟨b0, 0, none⟩)]) * (HP.dsk d' Ok.room Ok.fuse m2 * (HP.pt m2 (.map (es' v') clock') * R)))) → Sat E w (HP.disk d' (copyK O f.name f.cs (k + 1)) * (HP.row 145 1 (.slice (some ⟨pg, po, none⟩) n cc) n (celPtrs f.cels) * (HP.cels f.cels * (R0 * (HP.pt g (.mapIter (some m) clock (seen.push e.born) clock) * q)))))) := ⟨fun w v' b0 h => by
            rw [← hnx]
            exact hclose w v' b0 c hxf h⟩
          have hkm : k ≤ 100000 := by omega
          obtain ⟨C, hC⟩ : ∃ C, C = c.vals.toArray := ⟨_, rfl⟩
          rw [← hC] at rl hr7
          clear h5 h6 h6' h7 hC hR hd2 hv2 hopen hmu hclose hcase hlook hval hvv hRq hrow HR hnx CA hcs hOk hatl hfree hxf
          go_wp2_with (first | (refine wpList_load_run rfl rfl rfl rl ?_) | (refine wpList_store_run rfl rfl rfl rfl rfl hr7 ?_))
          obtain ⟨bn, hbn⟩ : ∃ bn, bn = wr.heap.size := ⟨_, rfl⟩
          rw [← hbn] at H8 ⊢
          clear hbn hr7 rl hcx
          refine region_R [11, 12, 13] [11, 12] (fun w' => w'.cell? ⟨d', 1, none⟩ = some (.map (some m2)) ∧ w'.heap[m2]? = some (.map es2 clock2)) #[false, false, false, false, false, false, false, false, false, false, false, false, false, false] (by kernel_rfl) rfl rfl ?_
          generalize w7.drew = w8 at *
          have t1 := H8.out.s3.cell 1
          have t2 := H8.out.s4.get
          have s1 := (H8.out.alloc (.cells #[.pointer (some ⟨bn, 0, none⟩)] 145)).right.s3.cell 1
          have s2 := (H8.out.alloc (.cells #[.pointer (some ⟨bn, 0, none⟩)] 145)).right.s4.get
          simp only [List.getElem?_toArray, List.getElem?_cons_zero, List.getElem?_cons_succ] at t1 s1
          refine wpR_pu 0 #[true, false, false, false, false, false, false, false, false, false, false, false, false, false] rfl onlyN_noPanic (by kernel_rfl) (fun K hK => ?_); (go_simp; try go_bits); refine hK _ ?_; clear hK K
          refine wpR_pu 1 #[true, true, false, false, false, false, false, false, false, false, false, false, false, false] rfl onlyN_noPanic (by kernel_rfl) (fun K hK => ?_); (go_simp; try go_bits); refine hK _ ?_; clear hK K
          refine wpR_pu 2 #[true, true, true, false, false, false, false, false, false, false, false, false, false, false] rfl onlyN_noPanic (by kernel_rfl) (fun K hK => ?_); (go_simp; try go_bits); refine hK _ ?_; clear hK K
          refine wpR_held (i := 3) (v := .map (some m2)) #[true, true, true, true, false, false, false, false, false, false, false, false, false, false] rfl onlyN_noPanic (by kernel_rfl) ⟨t1, t2⟩ (.inl ⟨rfl, fun w' hT => ?_⟩) ?_
          · have c1 := hT.1; go_simp
          simp only [Act.put, List.setIfInBounds_toArray, List.set_cons_zero, List.set_cons_succ]
          refine wpR_pu 4 #[true, true, true, true, true, false, false, false, false, false, false, false, false, false] rfl onlyN_noPanic (by kernel_rfl) (fun K hK => ?_); (go_simp; try go_bits); refine hK _ ?_; clear hK K
          refine wpR_pu 5 #[true, true, true, true, true, true, false, false, false, false, false, false, false, false] rfl onlyN_noPanic (by kernel_rfl) (fun K hK => ?_); (go_simp; try go_bits); refine hK _ ?_; clear hK K
          refine wpR_pu 6 #[true, true, true, true, true, true, true, false, false, false, false, false, false, false] rfl onlyN_noPanic (by kernel_rfl) (fun K hK => ?_); (go_simp; try go_bits); refine hK _ ?_; clear hK K
          refine wpR_pu 7 #[true, true, true, true, true, true, true, true, false, false, false, false, false, false] rfl onlyN_noPanic (by kernel_rfl) (fun K hK => ?_); (go_simp; try go_bits); refine hK _ ?_; clear hK K
          refine wpR_held (i := 8) (v := .map (some m2)) #[true, true, true, true, true, true, true, true, true, false, false, false, false, false] rfl onlyN_noPanic (by kernel_rfl) ⟨t1, t2⟩ (.inl ⟨rfl, fun w' hT => ?_⟩) ?_
          · have c1 := hT.1; go_simp
          simp only [Act.put, List.setIfInBounds_toArray, List.set_cons_zero, List.set_cons_succ]
          refine wpR_pu 9 #[true, true, true, true, true, true, true, true, true, true, false, false, false, false] rfl onlyN_noPanic (by kernel_rfl) (fun K hK => ?_); (go_simp; try go_bits); refine hK _ ?_; clear hK K
          refine wpR_held (i := 10) (v := v) #[true, true, true, true, true, true, true, true, true, true, true, false, false, false] rfl onlyN_noPanic (by kernel_rfl) ⟨t1, t2⟩ (.inl ⟨rfl, fun w' hT => ?_⟩) ?_
          · have hl := HLK.out w' hT.2; go_simp
          simp only [Act.put, List.setIfInBounds_toArray, List.set_cons_zero, List.set_cons_succ]
          refine wpR_keep #[true, true, true, true, true, true, true, true, true, true, true, true, false, false] (i := 11) rfl (by kernel_rfl) (fun K hK => ?_)
          go_simp; refine hK _ _ ⟨s1, s2⟩ ?_; clear hK K
          refine wpR_keep #[true, true, true, true, true, true, true, true, true, true, true, true, true, false] (i := 12) rfl (by kernel_rfl) (fun K hK => ?_)
          refine Eq.mpr (if_pos (by rfl)) ?_; refine wp_append_row (n := k) (m := 1) (c := 1) slPC rfl rfl (by rfl) (H8.out.alloc _).right.s2 (Cells.fresh w8 [.pointer (some ⟨bn, 0, none⟩)] 145 (0, 0)) rfl rfl (by unfold maxLen; omega) (by omega) (fun v' w9 hw9 => ?_); have y1 := hw9.s3.cell 1; simp only [List.getElem?_toArray, List.getElem?_cons_zero, List.getElem?_cons_succ] at y1; refine hK _ _ ⟨y1, hw9.s4.get⟩ ?_; clear hK K
          refine wpR_eff #[true, true, true, true, true, true, true, true, true, true, true, true, true, true] (i := 13) rfl (by kernel_rfl) (fun K hK => ?_)
          refine Eq.mpr (if_pos (by rfl)) ?_; refine wp_mapUpdate_run rfl rfl rfl rfl (HMU.out w9 v' hw9.s4.get) ?_; refine hK _ _ ?_; clear hK K
          simp only [Act.put, List.setIfInBounds_toArray, List.set_cons_zero, List.set_cons_succ]
          refine wpR_done (by kernel_rfl) ?_ _
          simp only [OnlyN]
          have h9 := (HCL.out _ v' bn ((hw9.s4.setBlk (.map (es' v') clock')).perm (by ac_rfl)))
          have H9 := Aside.mk h9
          clear h9 hw9 y1 t1 t2 s1 s2 H8 HLK HMU HCL HOk hpl
          go_wp2
          go_roundw
          case rel => exact ⟨k + 1, by go_num, by omega, H9⟩
          case measure => simp [intOf]; omega
        · have hkn : k = n := by omega
          subst hkn
          have HT : Aside (Sat E wr (HP.pt g (.mapIter (some m) clock (seen.push e.born) clock) * (HP.dk d A.room A.fuse m es clock fs * (HP.disk d' (copyK O f.name f.cs f.cs.length) * q)))) := ⟨by
            obtain ⟨hback, hset, -⟩ := HC.out
            rw [HN.out.2]
            have h8 := hback (HP.pt g (.mapIter (some m) clock (seen.push e.born) clock) * (HP.disk d' (copyK O f.name f.cs k) * q)) wr f.cels rfl (by rw [hvB, ← HN.out.1]; exact HR.out.perm (by ac_rfl))
            rw [hset] at h8
            exact h8.perm (by ac_rfl)⟩
          have HO2 := Aside.mk HC.out.2.2.1
          have HLS : Aside ((leftL es (seen.push e.born)).length < (leftL es seen).length) := ⟨left_less HM.out.2.2.2.2 HC.out.2.2.2.1⟩
          clear HR HC HFine HN
          go_wp2
          go_roundw
          case rel => exact ⟨seen.push e.born, clock, _, Nat.le_refl _, HO2, HT⟩
          case measure =>
            have h8 := HT.out.get
            rw [h8, HG1.out]
            exact HLS.out
end Go.Proofs.YtnpinegpajbkeaaGreatDoor
namespace Go.Proofs.YtnpinegpajbkeaaGreatDoor
open Go.ChangeShapes Go.WideShapes Go.ChangeAt Go.WideMaps Go.WideElems Go.RowKit HP
def laidAll : List (String × DataW Unit) := [("dryrot/crc.quarter", Rows.laid_dryrot_crc_quarter)]
theorem gQuarter : Tryz.prog.globalNamed "dryrot/crc.quarter" = some 1 := by kernel_rfl
theorem tQuarter : (Tryz.prog.globals[1]?).map (·.type) = some 247 := by kernel_rfl
end Go.Proofs.YtnpinegpajbkeaaGreatDoor
namespace Go.Proofs.YtnpinegpajbkeaaGreatDoor
open Go.ChangeShapes Go.WideShapes Go.ChangeAt Go.RowKit HP
theorem old_carry {E : Env} {W w : World} (h : Sat E w (HP.old W)) : ∀ k, k < W.heap.size → w.heap[k]? = W.heap[k]? := fun k hk => Sat.old_block (p := HP.emp) (by rw [HP.mul_emp]; exact h) k hk
theorem quarter_old {E : Env} {W w : World} (hQ : Quarter W) (h : Sat E w (HP.old W)) : Quarter w := fun i hi => by
  rw [World.cell?_of_block (w := W) (old_carry h _ (World.block_lt_of_cell? W _ (hQ i hi)))]
  exact hQ i hi
end Go.Proofs.YtnpinegpajbkeaaGreatDoor
namespace Go.Proofs.YtnpinegpajbkeaaGreatDoor
open Go.ChangeShapes Go.WideShapes Go.ChangeAt Go.RowKit
def Rd.AtZ {α : Type} (r : Rd α) (z : α → List Nat) (P : Program) (t : TypeId) : Prop :=
  ∀ {H : Type} {enc : TypeId × Value → H} {W : World} {fuel : Nat} {cs : List Value} {x : DataW H × List MemPlace}, DataW.trod enc P W 0 (fun _ => true) true fuel t cs = some x → (∀ n ∈ x.1.weights P t, n ≤ reachBytes) → ∃ a, cs = r.cells a ∧ r.ok W a ∧ ∀ n ∈ z a, n ≤ reachBytes
section
variable {P : Program} {t : TypeId}
theorem Rd.At.toZ {α : Type} {r : Rd α} (h : r.At P t) : r.AtZ (fun _ => []) P t := by
  intro H enc W fuel cs x hx _
  obtain ⟨a, h1, h2⟩ := h hx
  exact ⟨a, h1, h2, fun n hn => by cases hn⟩
theorem rdStr_atZ (ht : P.underlying t = some .string) : rdStr.AtZ (fun s => [s.size]) P t := by
  intro H enc W fuel cs x h hz
  obtain ⟨n, rfl, rfl, hw⟩ := DataW.trod_string ht h
  refine ⟨n, rfl, hw, fun k hk => ?_⟩
  obtain rfl := List.mem_singleton.1 hk
  refine hz _ ?_
  simp [DataW.weights]
theorem weightsAll_mem {H : Type} {e : TypeId} {n : Nat} : ∀ {l : List (DataW H)} {d : DataW H}, d ∈ l → n ∈ d.weights P e → n ∈ DataW.weightsAll P e l
  | [], d, h, _ => by cases h
  | x :: l, d, h, hn => by
    simp only [DataW.weightsAll, List.mem_append]
    rcases List.mem_cons.1 h with rfl | h
    · exact .inl hn
    · exact .inr (weightsAll_mem h hn)
theorem weightsEach_mem {H : Type} {n : Nat} : ∀ {ts : List TypeId} {l : List (DataW H)} {i : Nat} {u : TypeId} {d : DataW H}, ts[i]? = some u → l[i]? = some d → n ∈ d.weights P u → n ∈ DataW.weightsEach P ts l
  | [], _, i, _, _, h, _, _ => by simp at h
  | _ :: _, [], i, _, _, _, h, _ => by simp at h
  | v :: ts, x :: l, 0, u, d, h1, h2, hn => by
    simp only [List.getElem?_cons_zero, Option.some.injEq] at h1 h2
    subst h1
    subst h2
    simp only [DataW.weightsEach, List.mem_append]
    exact .inl hn
  | v :: ts, x :: l, i + 1, u, d, h1, h2, hn => by
    simp only [DataW.weightsEach, List.mem_append]
    exact .inr (weightsEach_mem (by simpa using h1) (by simpa using h2) hn)
def Rd.FsZ {α : Type} (r : Rd α) (z : α → List Nat) (P : Program) (fs : List Field) (off total : Nat) : Prop :=
  ∀ {H : Type} {enc : TypeId × Value → H} {W : World} {n : Nat} {cs : List Value}, (∀ f ∈ fs, ∃ y, DataW.trod enc P W 0 (fun _ => true) true n f.type ((cs.drop f.offset).take (P.cellsOf f.type)) = some y ∧ ∀ k ∈ y.1.weights P f.type, k ≤ reachBytes) → off + total = cs.length →
    ∃ a, cs.drop off = r.cells a ∧ r.ok W a ∧ ∀ n ∈ z a, n ≤ reachBytes
theorem rdEnd_fsZ (off : Nat) : rdEnd.FsZ (fun _ => []) P [] off 0 := by
  intro H enc W n cs _ h
  exact ⟨(), by simp [rdEnd]; omega, trivial, fun n hn => by cases hn⟩
theorem rdPair_fsZ {α β : Type} {r : Rd α} {s : Rd β} {zr : α → List Nat} {zs : β → List Nat} {f : Field} {fs : List Field} {off size total : Nat} (hoff : f.offset = off) (hsz : P.cellsOf f.type = size) (hr : r.AtZ zr P f.type) (hs : s.FsZ zs P fs (off + size) total) : (rdPair r s).FsZ (fun x => zr x.1 ++ zs x.2) P (f :: fs) off (size + total) := by
  intro H enc W n cs h hl
  obtain ⟨y, hy, hyz⟩ := h f (by simp)
  obtain ⟨a, ha, hoa, hza⟩ := hr hy hyz
  obtain ⟨b, hb, hob, hzb⟩ := hs (fun g hg => h g (by simp [hg])) (by omega)
  refine ⟨(a, b), ?_, ⟨hoa, hob⟩, fun k hk => ?_⟩
  · show cs.drop off = r.cells a ++ s.cells b
    rw [← ha, ← hb, hoff, hsz, ← List.drop_drop, List.take_append_drop]
  · rcases List.mem_append.1 hk with hk | hk
    · exact hza k hk
    · exact hzb k hk
theorem rdStruct_atZ {α β : Type} {r : Rd α} {z : α → List Nat} {fs : Array Field} {total : Nat} (ht : P.underlying t = some (.struct fs)) (hc : P.cellsOf t = total) (hr : r.FsZ z P fs.toList 0 total) (f : α → β) (g : β → α) (hg : ∀ a, g (f a) = a) : (rdMap r f g hg).AtZ (fun b => z (g b)) P t := by
  intro H enc W fuel cs x h hz
  obtain ⟨xs, n, -, rfl, hl, hxl, hf⟩ := DataW.trod_struct ht h
  obtain ⟨a, ha, hoa, hza⟩ := hr (W := W) (n := n) (cs := cs) (fun fd hfd => by
    obtain ⟨i, hi⟩ := List.getElem?_of_mem hfd
    have hi' : fs[i]? = some fd := by simpa using hi
    have h1 := hf i fd hi'
    have hlt : i < xs.length := by rw [hxl]; exact (Array.getElem?_eq_some_iff.1 hi').1
    rw [List.getElem?_eq_getElem hlt] at h1
    refine ⟨_, h1, fun k hk => hz k ?_⟩
    simp only [DataW.weights, ht]
    exact weightsEach_mem (i := i) (u := fd.type) (d := xs[i].1) (by rw [List.getElem?_map, hi]; rfl) (by rw [List.getElem?_map, List.getElem?_eq_getElem hlt]; rfl) hk) (by omega)
  refine ⟨f a, ?_, ?_, ?_⟩
  · show cs = r.cells (g (f a))
    rw [hg, ← ha, List.drop_zero]
  · show r.ok W (g (f a))
    rw [hg]; exact hoa
  · show ∀ n ∈ z (g (f a)), n ≤ reachBytes
    rw [hg]; exact hza
end
end Go.Proofs.YtnpinegpajbkeaaGreatDoor
namespace Go.Proofs.YtnpinegpajbkeaaGreatDoor
open Go.ChangeShapes Go.WideShapes Go.ChangeAt Go.RowKit HP
theorem tab_old {E : Env} {W w : World} {name : String} {k : IntKind} {zs : List Int} (h : Lib.TabIs Tryz.prog W name k zs) (ho : Sat E w (HP.old W)) : Lib.TabIs Tryz.prog w name k zs := by
  unfold Lib.TabIs World.var? at *
  cases hg : Tryz.prog.globalNamed name with
  | none => simp [hg] at h
  | some g =>
    simp only [hg, Option.bind_some] at h ⊢
    have hlt : g < W.heap.size := by
      rcases Nat.lt_or_ge g W.heap.size with h' | h'
      · exact h'
      · rw [Array.getElem?_eq_none h'] at h; simp at h
    rw [old_carry ho g hlt]
    exact h
end Go.Proofs.YtnpinegpajbkeaaGreatDoor
