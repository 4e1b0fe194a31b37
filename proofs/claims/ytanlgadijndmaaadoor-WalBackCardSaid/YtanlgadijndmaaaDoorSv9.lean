/- Texts of one claim, one behind the other: Cop, SavW, Laid, Tied, AnchX, IsArg. -/
import Derived.Test.YtanlgadijndmaaaDoorSv8
import Derived.LaidMore
import Derived.Stop.Joined
/- (*Disk).Copy: the walk. -/
namespace Go.Proofs.YtanlgadijndmaaaDoor
open Go.RowKit HP
set_option linter.unusedSimpArgs false
set_option linter.unusedVariables false

theorem wp_mapUpdate_run {P : Program} {o : Oper} {a : Act} {w w' : World} {K : Act → World → Prop} {Q : Exit → Act → World → Prop} {m x v : Operand} {t : TypeId} (hop : o.op = Op.mapUpdate t m x v)
    {M X V : Value} (hm : a.eval m = M) (hx : a.eval x = X) (hv : a.eval v = V) (hr : (Instr.mapUpdate t M X V).run P w = .ok () w')
    (h : K (a.put o.dst undef) w') : o.wp P a w K Q := by
  unfold Oper.wp
  simp [execOp, hop, hm, hx, hv, hr, Result.andThen]
  exact h
/-- What a lookup of a file finds, of the map alone. -/
def valF (fs : List Fil) (s : ByteArray) : Value := match fs.find? (fun f => decide (f.name = s)) with | none => .slice none 0 0 | some f => f.val
theorem look_valF {w : World} {m : Nat} {es : Array MapEntry} {clock : Nat} {fs : List Fil} (hm : MapOf es clock fs) (hb : w.heap[m]? = some (.map es clock)) (name : ByteArray) (hn : name.size ≤ maxLen) : (Instr.lookup 36 (.map (some m)) (.string name) false).run Tryd.prog w = .ok (valF fs name) w := by
  unfold valF
  rcases lookup_str (P := Tryd.prog) (t := 36) Tryd.underlying9 Tryd.underlying36 (zero_cells w) hb hm.1 name hn with ⟨h1, h2, h3⟩ | ⟨j, x, h1, h2, h3, h4⟩
  · have : fs.find? (fun f => decide (f.name = name)) = none := by
      rw [List.find?_eq_none]
      intro f hf he
      simp only [decide_eq_true_eq] at he
      have hmem : (Value.string f.name, f.val) ∈ fs.map (fun f => (Value.string f.name, f.val)) := List.mem_map.2 ⟨f, hf, rfl⟩
      rw [← hm.2.1] at hmem
      obtain ⟨x, hx, hxe⟩ := List.mem_map.1 hmem
      simp only [Prod.mk.injEq] at hxe
      exact h3 x hx (by rw [hxe.1, he])
    rw [this]
    exact h1
  · have hj : (es.toList.map (fun x => (x.key, x.val)))[j]? = some (x.key, x.val) := by rw [List.getElem?_map, h1]; rfl
    rw [hm.2.1, List.getElem?_map] at hj
    obtain ⟨f, hf, hfe⟩ := Option.map_eq_some_iff.1 hj
    simp only [Prod.mk.injEq] at hfe
    have hname : f.name = name := by
      have := hfe.1.trans h2
      injection this
    have : fs.find? (fun f => decide (f.name = name)) = some f := by rw [← hname]; exact find_at hm.2.2.1 hf
    rw [this, h3, ← hfe.2]
theorem View.empty {A : Dk} (h : A.Fine) : View ⟨A.room, A.fuse, []⟩ #[] 0 [] :=
  ⟨⟨(fun x hx => by simp at hx), rfl, by simp, (fun x hx => by simp at hx), by simp⟩, fun s => rfl, ⟨List.Pairwise.nil, (fun x hx => by cases hx), (fun x hx => by cases hx), h.room, h.fuse, h.room.1⟩⟩
set_option maxHeartbeats 4000000 in
set_option maxRecDepth 100000 in
theorem disk_copy (E : Env) (q : HP) (d : Nat) (A : Dk) (w : World) (hw : Sat E w (HP.disk d A * q)) :
    Calls Tryd.prog 23 #[.pointer (some ⟨d, 0, none⟩)] w fun e w' => ∃ d', e = .returned (.pointer (some ⟨d', 0, none⟩)) ∧ Sat E w' (HP.disk d' A * (HP.disk d A * q)) := by
  obtain ⟨m, es, clock, fs, hv, hd⟩ := hw.disk_open
  clear hw
  go_enter Tryd.func23, Tryd.ntmps23
  go_wp2_with fail
  refine (disk_none E _ d _ _ m w (dk_parts hd)).mono ?_
  rintro e w1 ⟨rfl, rfl⟩
  have k0 := (dk_parts hd).drew.cell 0
  have k2 := (dk_parts hd).drew.cell 2
  have k0m := ((dk_parts hd).drew.alloc (.map #[] 0)).s2.cell 0
  have k2m := ((dk_parts hd).drew.alloc (.map #[] 0)).s2.cell 2
  simp only [List.getElem?_toArray, List.getElem?_cons_zero, List.getElem?_cons_succ] at k0 k2 k0m k2m
  have hS := ((dk_parts hd).drew.alloc (.map #[] 0)).alloc (.cells #[.int .i64 A.room, .map (some w1.heap.size), .int .i64 A.fuse] 38)
  rw [show (w1.drew.alloc (.map #[] 0)).heap.size = w1.heap.size + 1 by rw [World.size_alloc]; rfl] at hS
  rw [show w1.drew.heap.size = w1.heap.size from rfl] at hS
  have hS2 : Sat E ((w1.drew.alloc (.map #[] 0)).alloc (.cells #[.int .i64 A.room, .map (some w1.heap.size), .int .i64 A.fuse] 38)) (HP.disk (w1.heap.size + 1) ⟨A.room, A.fuse, []⟩ * (HP.dk d A.room A.fuse m es clock fs * q)) := Sat.disk_close (m := w1.heap.size) (View.empty hv.fine) (hS.perm (by
    unfold HP.dk HP.dsk
    simp only [List.map_nil, HP.all, HP.mul_emp]
    ac_rfl))
  clear hd hS
  go_wp2
  refine region_R [4, 10] [4] (fun w' => w'.cell? ⟨d, 0, none⟩ = some (.int .i64 A.room) ∧ w'.cell? ⟨d, 2, none⟩ = some (.int .i64 A.fuse)) #[false, false, false, false, false, false, false, false, false, false, false, false] (by kernel_rfl) rfl rfl ?_
  refine wpR_pu 0 #[true, false, false, false, false, false, false, false, false, false, false, false] rfl onlyN_noPanic (by kernel_rfl) (fun K hK => ?_); (go_simp; try go_bits); refine hK _ ?_; clear hK K
  refine wpR_pu 1 #[true, true, false, false, false, false, false, false, false, false, false, false] rfl onlyN_noPanic (by kernel_rfl) (fun K hK => ?_); (go_simp; try go_bits); refine hK _ ?_; clear hK K
  refine wpR_pu 2 #[true, true, true, false, false, false, false, false, false, false, false, false] rfl onlyN_noPanic (by kernel_rfl) (fun K hK => ?_); (go_simp; try go_bits); refine hK _ ?_; clear hK K
  refine wpR_held (i := 3) (v := .int .i64 A.room) #[true, true, true, true, false, false, false, false, false, false, false, false] rfl onlyN_noPanic (by kernel_rfl) ⟨k0, k2⟩ (.inl ⟨rfl, fun w' hT => ?_⟩) ?_
  · obtain ⟨t0, t2⟩ := hT; go_simp
  simp only [Act.put, List.setIfInBounds_toArray, List.set_cons_zero, List.set_cons_succ]
  refine wpR_pu 5 #[true, true, true, true, false, true, false, false, false, false, false, false] rfl onlyN_noPanic (by kernel_rfl) (fun K hK => ?_); (go_simp; try go_bits); refine hK _ ?_; clear hK K
  refine wpR_pu 6 #[true, true, true, true, false, true, true, false, false, false, false, false] rfl onlyN_noPanic (by kernel_rfl) (fun K hK => ?_); (go_simp; try go_bits); refine hK _ ?_; clear hK K
  refine wpR_pu 7 #[true, true, true, true, false, true, true, true, false, false, false, false] rfl onlyN_noPanic (by kernel_rfl) (fun K hK => ?_); (go_simp; try go_bits); refine hK _ ?_; clear hK K
  refine wpR_held (i := 8) (v := .int .i64 A.fuse) #[true, true, true, true, false, true, true, true, true, false, false, false] rfl onlyN_noPanic (by kernel_rfl) ⟨k0, k2⟩ (.inl ⟨rfl, fun w' hT => ?_⟩) ?_
  · obtain ⟨t0, t2⟩ := hT; go_simp
  simp only [Act.put, List.setIfInBounds_toArray, List.set_cons_zero, List.set_cons_succ]
  refine wpR_keep #[true, true, true, true, true, true, true, true, true, false, false, false] (i := 4) rfl (by kernel_rfl) (fun K hK => ?_)
  go_simp; refine hK _ _ ⟨k0m, k2m⟩ ?_; clear hK K
  refine wpR_rd 9 #[true, true, true, true, true, true, true, true, true, true, false, false] rfl onlyN_noPanic (by kernel_rfl) (fun K hK => ?_); (go_simp; try go_bits); refine hK _ ?_; clear hK K
  refine wpR_eff #[true, true, true, true, true, true, true, true, true, true, true, false] (i := 10) rfl (by kernel_rfl) (fun K hK => ?_)
  go_simp; refine hK _ _ ?_; clear hK K
  refine wpR_rd 11 #[true, true, true, true, true, true, true, true, true, true, true, true] rfl onlyN_noPanic (by kernel_rfl) (fun K hK => ?_); (go_simp; try go_bits); refine hK _ ?_; clear hK K
  refine wpR_done (by kernel_rfl) ?_ _
  simp only [OnlyN]
  show Exit.then _ _ Exit.normal _ ((w1.drew.alloc (.map #[] 0)).alloc (.cells #[.int .i64 A.room, .map (some w1.heap.size), .int .i64 A.fuse] 38))
  generalize (w1.drew.alloc (.map #[] 0)).alloc (.cells #[.int .i64 A.room, .map (some w1.heap.size), .int .i64 A.fuse] 38) = w2 at *
  clear k0 k2 k0m k2m
  generalize w1.heap.size = b0 at *
  have c1 := (dk_parts hS2.right).cell 1
  simp only [List.getElem?_toArray, List.getElem?_cons_zero, List.getElem?_cons_succ] at c1
  have hrg := run_range_map (P := Tryd.prog) (t := 36) Tryd.underlying36 (dk_parts hS2.right).s2.get
  have HS0 := Aside.mk (hS2.alloc (.mapIter (some m) clock #[] clock))
  have HM := Aside.mk hv.map
  have hlen : es.toList.length = fs.length := by simpa using congrArg List.length hv.map.2.1
  have HV := Aside.mk (And.intro hv hlen)
  have HC0 := Aside.mk (copied_start hv)
  clear hv hlen hS2
  go_wp2
  obtain ⟨g, hg⟩ : ∃ g, g = w2.heap.size := ⟨_, rfl⟩
  obtain ⟨w0, hw0⟩ : ∃ w0, w0 = w2.alloc (.mapIter (some m) clock #[] clock) := ⟨_, rfl⟩
  rw [← hg, ← hw0] at HS0
  rw [← hg, ← hw0]
  clear hrg c1 hg hw0
  obtain ⟨d', hd'⟩ : ∃ d', d' = b0 + 1 := ⟨_, rfl⟩
  rw [← hd'] at HS0
  rw [← hd']
  clear hd'
  go_loopw [8] (fun v8 wr => ∃ (seen : Array Nat) (c0 : Nat) (O : Dk), clock ≤ c0 ∧ Aside (Copied A O (leftZ es seen fs)) ∧ Aside (Sat E wr (HP.pt g (.mapIter (some m) clock seen c0) * (HP.dk d A.room A.fuse m es clock fs * (HP.disk d' O * q)))))
    (fun _ wr => match wr.heap[g]? with | some (.mapIter _ _ seen _) => (leftL es seen).length | _ => 0)
  case atStart => exact ⟨#[], clock, _, Nat.le_refl _, HC0, ⟨HS0.out.perm (by ac_rfl)⟩⟩
  case round =>
    clear HS0 HC0
    obtain ⟨seen, c0, O, hc0, HO, HS⟩ := hrel
    rcases next_file HM.out hc0 HS.out 0 with ⟨hend, hnext⟩ | ⟨j, f, e, w2, hj, hje, hel, hnext, hent, h2⟩
    · have hcp := HO.out
      rw [leftZ_end hend] at hcp
      have hOA := copied_end hcp HV.out.1.fine.sorted
      have H2 : Aside (Sat E wr (HP.disk d' A * (HP.disk d A * q))) := ⟨by
        have h3 := HS.out.right
        rw [hOA] at h3
        exact (Sat.disk_close (q := HP.disk d' A * q) HV.out.1 h3).s2⟩
      clear hcp hOA HO HS hend
      go_wp2
      go_ret
      exact ⟨d', rfl, H2.out⟩
    · obtain ⟨R0, h3, hback⟩ := dk_fileQ (h2.perm (by ac_rfl : _ = HP.dk d A.room A.fuse m es clock fs * (HP.pt g (.mapIter (some m) clock (seen.push e.born) clock) * (HP.disk d' O * q)))) hj
      obtain ⟨B, cc, hvB, -, -⟩ := h3.row_slice
      have hfm := HV.out.1.mem (List.mem_of_getElem? hj)
      have hfl : lk A.files f.name = some f.cs := lk_of_mem HV.out.1.fine.sorted hfm
      have hfs : f.cels.length ≤ 100000 := by
        have h7 := at_small HV.out.1.fine f.name
        rw [Dk.at, hfl] at h7
        simpa [Fil.cs] using h7
      have HFine : Aside (∀ x ∈ f.cels, x.2.Fine) := ⟨fun x hx => HV.out.1.cel_fine (List.mem_of_getElem? hj) hx⟩
      have hnm1 := HV.out.1.fine.named _ hfm
      have hnm : f.name.size ≤ maxLen := by
        have h7 := hnm1.1
        unfold namedB at h7
        simp only [Bool.and_eq_true, decide_eq_true_eq] at h7
        unfold maxLen
        omega
      have hset : fs.set j ⟨f.name, f.val, f.cels⟩ = fs := by
        obtain ⟨h1, h2⟩ := List.getElem?_eq_some_iff.1 hj
        rw [show (⟨f.name, f.val, f.cels⟩ : Fil) = fs[j] from h2.symm]
        exact List.set_getElem_self h1
      have he2 : seen.contains e.born = false := by
        have := (List.mem_filter.1 hel).2
        simpa using this
      have hst := leftZ_step HM.out.2.2.2.2 HV.out.2 hje hj he2
      have hstep := copied_step HO.out hst (leftZ_names HM.out.2.2.1 HV.out.2) hfl hnm1.2
      have hfr : (sizeF A.files : Int) ≤ A.room := HV.out.1.fine.fits
      have hca : ∀ k, k ≤ f.cs.length → CopyAt A O f.name f.cs k := fun k hk => copyAt hfr HO.out hst hk
      have HC := Aside.mk (And.intro hback (And.intro hset (And.intro hstep (And.intro hel (And.intro hca hnm1.1)))))
      have hce : f.cs.length = f.cels.length := by unfold Fil.cs; rw [List.length_map]
      rw [hvB] at hnext hent h3
      have H3 := Aside.mk h3
      have HG1 := Aside.mk HS.out.get
      clear HS h2 hback h3 hj hje hel hfm hset hst hstep hfr hca hnm1 he2 hfl HO
      obtain ⟨n, hnn⟩ : ∃ n, n = f.cels.length := ⟨_, rfl⟩
      rw [← hnn] at H3 hfs hnext hent hce
      have HN := Aside.mk (And.intro hnn hce)
      clear hnn hce
      go_wp2
      obtain ⟨wo, rfl⟩ : ∃ wo : World, wo = wr := ⟨_, rfl⟩
      go_loopw [34] (fun v34 wi => ∃ k : Nat, v34 = .int .i64 k ∧ k ≤ n ∧ Aside (Sat E wi (HP.disk d' (copyK O f.name f.cs k) * (HP.row 121 1 (.slice B n cc) n (celPtrs f.cels) * (HP.cels f.cels * (R0 * (HP.pt g (.mapIter (some m) clock (seen.push e.born) clock) * q))))))) (fun x _ => n - (intOf x).toNat)
      case atStart => exact ⟨0, rfl, Nat.zero_le _, ⟨H3.out.perm (by rw [show copyK O f.name f.cs 0 = O from rfl]; ac_rfl)⟩⟩
      case round =>
        clear H3 hnext hent
        obtain ⟨k, rfl, hk, HR⟩ := hrel
        by_cases hlt : k < n
        · have hkf : k < f.cels.length := by have := HN.out.1; omega
          have hrow := HR.out.right
          obtain ⟨pa, hpa, hcx⟩ := hrow.row_cells.at_ k (by simp [celPtrs, hkf])
          obtain ⟨pg, po, rfl⟩ : ∃ g o, pa = ⟨g, o, none⟩ := slice_addr hrow.row_cells hpa (k := k) (by simp [celPtrs, hkf])
          subst hpa
          rw [addr_add] at hcx
          simp only [celPtrs, List.getElem_map] at hcx
          obtain ⟨Rk, h5, -, -⟩ := cels_take (hrow.s2) (List.getElem?_eq_getElem hkf)
          have hxf : (f.cels[k]).2.Fine := HFine.out _ (List.getElem_mem hkf)
          have hcs : f.cs[k]? = some (f.cels[k]).2 := by unfold Fil.cs; rw [List.getElem?_map, List.getElem?_eq_getElem hkf]; rfl
          have CA := HC.out.2.2.2.2.1 k (by rw [HN.out.2]; exact hk)
          have hnx := CA.next _ hcs
          generalize f.cels[k] = x at *
          obtain ⟨bk, c⟩ := x
          dsimp only at *
          have hk0 : (0 : Int) ≤ (k : Int) := by omega
          have hk1 : (k : Int) < (n : Int) := by omega
          have rl := run_loadAgg (P := Tryd.prog) agCel (Cel.vals_length hxf) (cel_whole h5)
          obtain ⟨Ok, hOk⟩ : ∃ Ok, Ok = copyK O f.name f.cs k := ⟨_, rfl⟩
          have hfree := CA.free (by rw [HN.out.2]; exact hlt)
          have hatl : (Ok.at f.name).length = k := by rw [hOk, CA.at_, List.length_take, HN.out.2]; omega
          have hR := HR.out
          rw [← hOk] at hR hfree hnx
          have HOk := Aside.mk hOk
          obtain ⟨m2, es2, clock2, fs2, hv2, hd2⟩ := hR.disk_open
          obtain ⟨v, Bv, cv, hvv, hlook, -, hcase⟩ := find_file hv2 hd2 f.name hnm
          obtain ⟨ptrs, R, es', clock', hpl, hRq, hopen, hmu, hclose⟩ := new_cel hv2 hnm HC.out.2.2.2.2.2 hfree hcase
          have hval : v = valF fs2 f.name := by
            have h7 := look_valF (w := wr) hv2.map (dk_parts hd2).s2.get f.name hnm
            rw [hlook] at h7
            injection h7
          rw [hatl] at hpl hopen hclose
          have h6 := (hopen _ hd2).alloc (.cells Tryd.zeroCells125 125)
          have h6' : Sat E (wr.alloc (.cells Tryd.zeroCells125 125)) (HP.cel wr.heap.size Cel.zero * (HP.row 121 1 v k ptrs * (HP.dsk d' Ok.room Ok.fuse m2 * (HP.pt m2 (.map es2 clock2) * R)))) := by
            unfold HP.cel
            rw [zero_cel]
            exact h6
          obtain ⟨w7, hr7, h7⟩ := cel_store_all h6' Cel.zero_fine hxf
          have H8 : Aside (Sat E w7.drew (HP.cel wr.heap.size c * (HP.row 121 1 v k ptrs * (HP.dsk d' Ok.room Ok.fuse m2 * (HP.pt m2 (.map es2 clock2) * R))))) := ⟨h7.drew⟩
          have HLK : Aside (∀ w', w'.heap[m2]? = some (.map es2 clock2) → (Instr.lookup 36 (.map (some m2)) (.string f.name) false).run Tryd.prog w' = .ok v w') := ⟨fun w' hb => by rw [hval]; exact look_valF hv2.map hb f.name hnm⟩
          have HMU := Aside.mk hmu
          have HCL : Aside (∀ w v' b0, Sat E w (HP.cel b0 c * (HP.row 121 1 v' (k + 1) (ptrs ++ [.pointer (some ⟨b0, 0, none⟩)]) * (HP.dsk d' Ok.room Ok.fuse m2 * (HP.pt m2 (.map (es' v') clock') * R)))) → Sat E w (HP.disk d' (copyK O f.name f.cs (k + 1)) * (HP.row 121 1 (.slice (some ⟨pg, po, none⟩) n cc) n (celPtrs f.cels) * (HP.cels f.cels * (R0 * (HP.pt g (.mapIter (some m) clock (seen.push e.born) clock) * q)))))) := ⟨fun w v' b0 h => by
            rw [← hnx]
            exact hclose w v' b0 c hxf h⟩
          have hkm : k ≤ 100000 := by omega
          obtain ⟨C, hC⟩ : ∃ C, C = c.vals.toArray := ⟨_, rfl⟩
          rw [← hC] at rl hr7
          clear h5 h6 h6' h7 hC hR hd2 hv2 hopen hmu hclose hcase hlook hval hvv hRq hrow HR hnx CA hcs hOk hatl hfree hxf
          go_wp2_with (first | (refine wpList_load_run rfl rfl rfl rl ?_) | (refine wpList_store_run rfl rfl rfl rfl rfl hr7 ?_))
          obtain ⟨bn, hbn⟩ : ∃ bn, bn = wr.heap.size := ⟨_, rfl⟩
          rw [← hbn] at H8 ⊢
          clear hbn hr7 rl hcx
          refine region_R [11, 12, 13] [11, 12] (fun w' => w'.cell? ⟨d', 1, none⟩ = some (.map (some m2)) ∧ w'.heap[m2]? = some (.map es2 clock2)) #[false, false, false, false, false, false, false, false, false, false, false, false, false, false] (by kernel_rfl) rfl rfl ?_
          generalize w7.drew = w8 at *
          have t1 := H8.out.s3.cell 1
          have t2 := H8.out.s4.get
          have s1 := (H8.out.alloc (.cells #[.pointer (some ⟨bn, 0, none⟩)] 121)).right.s3.cell 1
          have s2 := (H8.out.alloc (.cells #[.pointer (some ⟨bn, 0, none⟩)] 121)).right.s4.get
          simp only [List.getElem?_toArray, List.getElem?_cons_zero, List.getElem?_cons_succ] at t1 s1
          refine wpR_pu 0 #[true, false, false, false, false, false, false, false, false, false, false, false, false, false] rfl onlyN_noPanic (by kernel_rfl) (fun K hK => ?_); (go_simp; try go_bits); refine hK _ ?_; clear hK K
          refine wpR_pu 1 #[true, true, false, false, false, false, false, false, false, false, false, false, false, false] rfl onlyN_noPanic (by kernel_rfl) (fun K hK => ?_); (go_simp; try go_bits); refine hK _ ?_; clear hK K
          refine wpR_pu 2 #[true, true, true, false, false, false, false, false, false, false, false, false, false, false] rfl onlyN_noPanic (by kernel_rfl) (fun K hK => ?_); (go_simp; try go_bits); refine hK _ ?_; clear hK K
          refine wpR_held (i := 3) (v := .map (some m2)) #[true, true, true, true, false, false, false, false, false, false, false, false, false, false] rfl onlyN_noPanic (by kernel_rfl) ⟨t1, t2⟩ (.inl ⟨rfl, fun w' hT => ?_⟩) ?_
          · have c1 := hT.1; go_simp
          simp only [Act.put, List.setIfInBounds_toArray, List.set_cons_zero, List.set_cons_succ]
          refine wpR_pu 4 #[true, true, true, true, true, false, false, false, false, false, false, false, false, false] rfl onlyN_noPanic (by kernel_rfl) (fun K hK => ?_); (go_simp; try go_bits); refine hK _ ?_; clear hK K
          refine wpR_pu 5 #[true, true, true, true, true, true, false, false, false, false, false, false, false, false] rfl onlyN_noPanic (by kernel_rfl) (fun K hK => ?_); (go_simp; try go_bits); refine hK _ ?_; clear hK K
          refine wpR_pu 6 #[true, true, true, true, true, true, true, false, false, false, false, false, false, false] rfl onlyN_noPanic (by kernel_rfl) (fun K hK => ?_); (go_simp; try go_bits); refine hK _ ?_; clear hK K
          refine wpR_pu 7 #[true, true, true, true, true, true, true, true, false, false, false, false, false, false] rfl onlyN_noPanic (by kernel_rfl) (fun K hK => ?_); (go_simp; try go_bits); refine hK _ ?_; clear hK K
          refine wpR_held (i := 8) (v := .map (some m2)) #[true, true, true, true, true, true, true, true, true, false, false, false, false, false] rfl onlyN_noPanic (by kernel_rfl) ⟨t1, t2⟩ (.inl ⟨rfl, fun w' hT => ?_⟩) ?_
          · have c1 := hT.1; go_simp
          simp only [Act.put, List.setIfInBounds_toArray, List.set_cons_zero, List.set_cons_succ]
          refine wpR_pu 9 #[true, true, true, true, true, true, true, true, true, true, false, false, false, false] rfl onlyN_noPanic (by kernel_rfl) (fun K hK => ?_); (go_simp; try go_bits); refine hK _ ?_; clear hK K
          refine wpR_held (i := 10) (v := v) #[true, true, true, true, true, true, true, true, true, true, true, false, false, false] rfl onlyN_noPanic (by kernel_rfl) ⟨t1, t2⟩ (.inl ⟨rfl, fun w' hT => ?_⟩) ?_
          · have hl := HLK.out w' hT.2; go_simp
          simp only [Act.put, List.setIfInBounds_toArray, List.set_cons_zero, List.set_cons_succ]
          refine wpR_keep #[true, true, true, true, true, true, true, true, true, true, true, true, false, false] (i := 11) rfl (by kernel_rfl) (fun K hK => ?_)
          go_simp; refine hK _ _ ⟨s1, s2⟩ ?_; clear hK K
          refine wpR_keep #[true, true, true, true, true, true, true, true, true, true, true, true, true, false] (i := 12) rfl (by kernel_rfl) (fun K hK => ?_)
          refine Eq.mpr (if_pos (by rfl)) ?_; refine wp_append_row (n := k) (m := 1) (c := 1) slPC rfl rfl (by rfl) (H8.out.alloc _).right.s2 (Cells.fresh w8 [.pointer (some ⟨bn, 0, none⟩)] 121 (0, 0)) rfl rfl (by unfold maxLen; omega) (by omega) (fun v' w9 hw9 => ?_); have y1 := hw9.s3.cell 1; simp only [List.getElem?_toArray, List.getElem?_cons_zero, List.getElem?_cons_succ] at y1; refine hK _ _ ⟨y1, hw9.s4.get⟩ ?_; clear hK K
          refine wpR_eff #[true, true, true, true, true, true, true, true, true, true, true, true, true, true] (i := 13) rfl (by kernel_rfl) (fun K hK => ?_)
          refine Eq.mpr (if_pos (by rfl)) ?_; refine wp_mapUpdate_run rfl rfl rfl rfl (HMU.out w9 v' hw9.s4.get) ?_; refine hK _ _ ?_; clear hK K
          simp only [Act.put, List.setIfInBounds_toArray, List.set_cons_zero, List.set_cons_succ]
          refine wpR_done (by kernel_rfl) ?_ _
          simp only [OnlyN]
          have h9 := (HCL.out _ v' bn ((hw9.s4.setBlk (.map (es' v') clock')).perm (by ac_rfl)))
          have H9 := Aside.mk h9
          clear h9 hw9 y1 t1 t2 s1 s2 H8 HLK HMU HCL HOk hpl
          go_wp2
          go_roundw
          case rel => exact ⟨k + 1, by go_num, by omega, H9⟩
          case measure => simp [intOf]; omega
        · have hkn : k = n := by omega
          subst hkn
          have HT : Aside (Sat E wr (HP.pt g (.mapIter (some m) clock (seen.push e.born) clock) * (HP.dk d A.room A.fuse m es clock fs * (HP.disk d' (copyK O f.name f.cs f.cs.length) * q)))) := ⟨by
            obtain ⟨hback, hset, -⟩ := HC.out
            rw [HN.out.2]
            have h8 := hback (HP.pt g (.mapIter (some m) clock (seen.push e.born) clock) * (HP.disk d' (copyK O f.name f.cs k) * q)) wr f.cels rfl (by rw [hvB, ← HN.out.1]; exact HR.out.perm (by ac_rfl))
            rw [hset] at h8
            exact h8.perm (by ac_rfl)⟩
          have HO2 := Aside.mk HC.out.2.2.1
          have HLS : Aside ((leftL es (seen.push e.born)).length < (leftL es seen).length) := ⟨left_less HM.out.2.2.2.2 HC.out.2.2.2.1⟩
          clear HR HC HFine HN
          go_wp2
          go_roundw
          case rel => exact ⟨seen.push e.born, clock, _, Nat.le_refl _, HO2, HT⟩
          case measure =>
            have h8 := HT.out.get
            rw [h8, HG1.out]
            exact HLS.out
end Go.Proofs.YtanlgadijndmaaaDoor
/- AnchorSaves: the walk. -/
namespace Go.Proofs.YtanlgadijndmaaaDoor
open Go.RowKit HP
set_option linter.unusedSimpArgs false
set_option linter.unusedVariables false

theorem refenc_code {E : Env} {q : HP} {a : Anch} {e : Ending} {w' : World} (h : encEnd E q a e w') : ∃ v, e = .returned (.tuple #[v, .int .i64 (if canA a = true then 0 else 1)]) ∧ Sat E w' q := by
  unfold encEnd at h
  by_cases hc : canA a = true
  · rw [if_pos hc] at h ⊢
    obtain ⟨v, h1, h2⟩ := h
    exact ⟨v, h1, h2.right⟩
  · rw [if_neg hc] at h ⊢
    exact ⟨_, h.1, h.2⟩
set_option maxHeartbeats 4000000 in
set_option maxRecDepth 100000 in
theorem anchorSaves_ok (E : Env) (q : HP) (a : Anch) (b : Bool) (s : Sl Int) (z : Int) (w : World) (ha : a.Ok) (hz : wf64 z) (hs : s.l.length ≤ s.cap ∧ s.cap ≤ maxLen)
    (hq : ∀ E w, Sat E w q → Quarter w ∧ Cells w s.A (s.l.map (Value.int .i64))) (hw : Sat E w q) :
    Calls Tryd.prog 6 #[.agg #[.int .i64 a.seq, .int .i64 a.gen, .int .i64 a.lsn, .int .i64 a.seg, .int .i64 a.ext, .int .i64 a.flo, .int .i64 a.new, .int .i64 a.keep, .int .i64 a.next, .int .i64 a.cur], .bool b, s.val, .int .i64 z] w fun e w' => e = .returned (.bool true) ∧ Sat E w' q := by
  unfold Sl.val
  have HQ := Aside.mk hq
  have HO := Aside.mk ha
  have HS := Aside.mk hs
  have HZ := Aside.mk hz
  have HS1 : Aside (wf64 a.seq) := ⟨ha.seq⟩
  have H0 := Aside.mk (hw.alloc (.cells #[.int .i64 a.seq, .int .i64 a.gen, .int .i64 a.lsn, .int .i64 a.seg, .int .i64 a.ext, .int .i64 a.flo, .int .i64 a.new, .int .i64 a.keep, .int .i64 a.next, .int .i64 a.cur] 34))
  clear hw hq ha hs hz
  go_enter Tryd.func6, Tryd.ntmps6
  go_wp2_with fail
  refine (disk_new_ok E _ 2 _ ⟨by omega, by omega⟩ H0.out).mono ?_
  rintro e w1 ⟨d, rfl, h1⟩
  have H1 := Aside.mk h1
  have r1 : (loadVar 34 ⟨w.heap.size, 0, none⟩).run Tryd.prog w1 = .ok (.agg #[.int .i64 a.seq, .int .i64 a.gen, .int .i64 a.lsn, .int .i64 a.seg, .int .i64 a.ext, .int .i64 a.flo, .int .i64 a.new, .int .i64 a.keep, .int .i64 a.next, .int .i64 a.cur]) w1 := run_loadAgg agAnch (cs := i8s a.l) rfl (Sat.ptCells (off := 0) h1.right rfl)
  clear h1 H0
  go_wp2_with (refine wpList_load_run rfl rfl rfl r1 ?_)
  refine (anchor_save E _ d (Dk.new 2) a _ HS1.out (fun w h => (HQ.out _ w h.right).1) H1.out).mono ?_
  rintro e w2 ⟨rfl, h2⟩
  clear r1
  by_cases hok : btw 0 [a.seq] = true ∧ canA a.up = true
  · have HSV := Aside.mk (save_new hok.1 hok.2)
    have HOK := Aside.mk hok
    rw [HSV.out] at h2 ⊢
    obtain ⟨x, hx⟩ : ∃ x, x = a.up := ⟨_, rfl⟩
    have HXO : Aside (x.Ok) := ⟨by rw [hx]; exact up_ok HO.out hok.2⟩
    have HXC : Aside (canA x = true) := ⟨by rw [hx]; exact hok.2⟩
    rw [← hx] at h2 ⊢
    dsimp only at h2 ⊢
    obtain ⟨hx1, hx2⟩ := can_seq HXC.out
    obtain ⟨A, hA⟩ : ∃ A, A = twoOf x.seq.toNat (encI x.l) := ⟨_, rfl⟩
    rw [← hA] at h2
    have HA := Aside.mk hA
    have hl106 : (encI x.l).length ≤ 106 := by rw [encI_length]; show 8 * 10 ≤ 106; omega
    have HL := Aside.mk hl106
    rw [show x.val = .agg #[.int .i64 x.seq, .int .i64 x.gen, .int .i64 x.lsn, .int .i64 x.seg, .int .i64 x.ext, .int .i64 x.flo, .int .i64 x.new, .int .i64 x.keep, .int .i64 x.next, .int .i64 x.cur] from rfl]
    have H2 : Aside (Sat E (w2.alloc (.cells #[.int .i64 x.seq, .int .i64 x.gen, .int .i64 x.lsn, .int .i64 x.seg, .int .i64 x.ext, .int .i64 x.flo, .int .i64 x.new, .int .i64 x.keep, .int .i64 x.next, .int .i64 x.cur] 34)) (HP.disk d A * (HP.pt w2.heap.size (.cells #[.int .i64 x.seq, .int .i64 x.gen, .int .i64 x.lsn, .int .i64 x.seg, .int .i64 x.ext, .int .i64 x.flo, .int .i64 x.new, .int .i64 x.keep, .int .i64 x.next, .int .i64 x.cur] 34) * (HP.pt w.heap.size (.cells #[.int .i64 a.seq, .int .i64 a.gen, .int .i64 a.lsn, .int .i64 a.seg, .int .i64 a.ext, .int .i64 a.flo, .int .i64 a.new, .int .i64 a.keep, .int .i64 a.next, .int .i64 a.cur] 34) * q)))) := ⟨(h2.alloc _).s2⟩
    clear h2 H1 hok HSV hx hA hl106 HOK HS1
    have HN : Aside (∃ n : Nat, n < 5 ∧ wrap64 ((IntKind.u64.wrap z).tmod 5) = (n : Int)) := ⟨by
      rw [IntKind.wrap_u64, tmod_of_emod]
      refine ⟨(z % 18446744073709551616 % 5).toNat, by omega, ?_⟩
      rw [Int.toNat_of_nonneg (by omega)]
      unfold wrap64
      omega⟩
    cases b
    all_goals
      go_wp2_with fail
      refine (disk_copy E _ d A _ H2.out).mono ?_
      rintro e w3 ⟨c, rfl, h3⟩
      have H3 := Aside.mk h3.s2
      clear h3 H2
      go_wp2_with fail
      refine (half_ok E _ d A _ s.A s.l s.l.length s.cap _ (by show (8 : Nat) ≤ maxLen; unfold maxLen; omega) rfl (Nat.le_trans HS.out.1 HS.out.2) (fun E w h => (HQ.out _ w h.right.right.right).2) H3.out).mono ?_
      rintro e w4 ⟨rfl, B, hr, h4⟩
      have hf : ∀ f : ByteArray, RotS f A B → f = nameA ++ dotA ∨ f = nameA ++ dotB → (∀ g ∈ halvesL nameA, ∀ c, B.cel g 0 = some c → Bytes c.read) ∧ (toldB B A = true → getP B nameA 0 = (((x.seq.toNat : Nat) : Int), encI x.l)) ∧ B.RByt ∧ A.RByt := fun f h hf => by
        rw [HA.out] at h ⊢
        have hs := half_told (s := x.seq.toNat) (by omega) HL.out (encI_bytes _) hf h
        exact ⟨hs.1, hs.2, turned_rbyt HL.out (encI_bytes _) hf h, twoOf_rbyt _ HL.out (encI_bytes _)⟩
      have hf2 := hf _ hr (by first | exact .inl rfl | exact .inr rfl)
      have HB := Aside.mk hf2
      have H4 := Aside.mk h4
      clear hr hf hf2 h4 H3
      go_wp2_with fail
      refine (told_ok E _ d c B A _ HB.out.2.2.1 HB.out.2.2.2 H4.out).mono ?_
      rintro e w5 ⟨rfl, h5⟩
      have H5 := Aside.mk h5
      clear h5 H4
      obtain ⟨t, ht⟩ : ∃ t, t = toldB B A := ⟨_, rfl⟩
      rw [← ht]
      have HT := Aside.mk ht.symm
      clear ht
      cases t with
      | false =>
        go_wp2_with fail
        refine (awake17_ok E q _ (fun w h => (HQ.out _ w h).1) H5.out.right.right.right.right).mono ?_
        rintro e w6 ⟨rfl, h6⟩
        go_wp2
        go_ret
        exact ⟨rfl, h6⟩
      | true =>
        have HLD : Aside (loadA B = (x, 0)) := ⟨load_of HXO.out HXC.out (by rw [HB.out.2.1 HT.out, Int.toNat_of_nonneg (by omega)])⟩
        go_wp2_with fail
        refine (anchor_load E _ d B _ HB.out.1 (fun w h => (HQ.out _ w h.right.right.right).1) H5.out).mono ?_
        rintro e w6 ⟨rfl, h6⟩
        rw [HLD.out]
        dsimp only
        rw [show x.val = .agg #[.int .i64 x.seq, .int .i64 x.gen, .int .i64 x.lsn, .int .i64 x.seg, .int .i64 x.ext, .int .i64 x.flo, .int .i64 x.new, .int .i64 x.keep, .int .i64 x.next, .int .i64 x.cur] from rfl]
        have h7 := h6.alloc (.cells #[.int .i64 x.seq, .int .i64 x.gen, .int .i64 x.lsn, .int .i64 x.seg, .int .i64 x.ext, .int .i64 x.flo, .int .i64 x.new, .int .i64 x.keep, .int .i64 x.next, .int .i64 x.cur] 34)
        have H7 := Aside.mk (h7.s3)
        have k0 := h7.cell 0
        have k1 := h7.cell 1
        have k2 := h7.cell 2
        have k3 := h7.cell 3
        have k4 := h7.cell 4
        have k5 := h7.cell 5
        have k6 := h7.cell 6
        have k7 := h7.cell 7
        have k8 := h7.cell 8
        have k9 := h7.cell 9
        simp only [List.getElem?_toArray, List.getElem?_cons_zero, List.getElem?_cons_succ] at k0 k1 k2 k3 k4 k5 k6 k7 k8 k9
        have m0 := h7.right.right.right.cell 0
        have m1 := h7.right.right.right.cell 1
        have m2 := h7.right.right.right.cell 2
        have m3 := h7.right.right.right.cell 3
        have m4 := h7.right.right.right.cell 4
        have m5 := h7.right.right.right.cell 5
        have m6 := h7.right.right.right.cell 6
        have m7 := h7.right.right.right.cell 7
        have m8 := h7.right.right.right.cell 8
        have m9 := h7.right.right.right.cell 9
        simp only [List.getElem?_toArray, List.getElem?_cons_zero, List.getElem?_cons_succ] at m0 m1 m2 m3 m4 m5 m6 m7 m8 m9
        clear h6 H5 HLD HB HT
        obtain ⟨n, hn5, hzn⟩ := HN.out
        clear h7
        go_wp2_with fail
        refine (disk_fuse_ok E _ c A n _ (by omega) H7.out).mono ?_
        rintro e w8 (⟨h0, _, _⟩ | ⟨_, rfl, h8⟩)
        · omega
        have h9 := h8.s4
        have r9 : (loadVar 34 ⟨w2.heap.size, 0, none⟩).run Tryd.prog w8 = .ok (.agg #[.int .i64 x.seq, .int .i64 x.gen, .int .i64 x.lsn, .int .i64 x.seg, .int .i64 x.ext, .int .i64 x.flo, .int .i64 x.new, .int .i64 x.keep, .int .i64 x.next, .int .i64 x.cur]) w8 := run_loadAgg agAnch (cs := i8s x.l) rfl (Sat.ptCells (off := 0) h9 rfl)
        obtain ⟨c2, B2, hse⟩ := second_end (x := x) (z := { x with cur := 1 }) HXO.out HXC.out ⟨⟨by show _ ≤ x.seq + 1; omega, by show x.seq + 1 ≤ _; omega⟩, HXO.out.gen, HXO.out.lsn, HXO.out.seg, HXO.out.ext, HXO.out.flo, HXO.out.new, HXO.out.keep, HXO.out.next, ⟨by show _ ≤ (1 : Int); omega, by show (1 : Int) ≤ _; omega⟩⟩ rfl hn5
        have H9 := Aside.mk h9
        have HSE := Aside.mk hse
        clear h8 h9 H7 hse
        go_wp2_with (refine wpList_load_run rfl rfl rfl r9 ?_)
        have HSV2 : Aside (saveP { A with fuse := (n : Int) } { x with cur := 1 } = ((if c2 = 0 then ({ x with cur := 1 } : Anch).up else zeroA, c2), B2)) := ⟨by rw [HA.out]; exact HSE.out.save⟩
        have H10 := Aside.mk ((H9.out.alloc (.cells #[.int .i64 x.seq, .int .i64 x.gen, .int .i64 x.lsn, .int .i64 x.seg, .int .i64 x.ext, .int .i64 x.flo, .int .i64 x.new, .int .i64 x.keep, .int .i64 x.next, .int .i64 1] 34)).s3)
        refine (anchor_save E _ c { A with fuse := (n : Int) } { x with cur := 1 } _ ⟨by show _ ≤ x.seq; omega, by show x.seq ≤ _; omega⟩ (fun w h => (HQ.out _ w h.right.right.right.right.right).1) H10.out).mono ?_
        rintro e w10 ⟨rfl, h10⟩
        rw [HSV2.out] at h10 ⊢
        obtain ⟨g, hg⟩ : ∃ g, g = if c2 = 0 then ({ x with cur := 1 } : Anch).up else zeroA := ⟨_, rfl⟩
        rw [← hg]
        dsimp only at h10 ⊢
        rw [show g.val = .agg #[.int .i64 g.seq, .int .i64 g.gen, .int .i64 g.lsn, .int .i64 g.seg, .int .i64 g.ext, .int .i64 g.flo, .int .i64 g.new, .int .i64 g.keep, .int .i64 g.next, .int .i64 g.cur] from rfl]
        have HG := Aside.mk hg
        obtain ⟨bz, hbz⟩ : ∃ bz, bz = w8.heap.size := ⟨_, rfl⟩
        rw [← hbz] at h10 ⊢
        have r2 : (storeVar 34 ⟨bz, 0, none⟩ (.agg (i8s g.l).toArray)).run Tryd.prog w10 = .ok () (w10.setRow bz (i8s g.l).toArray) := run_storeAgg agAnch (g := bz) (off := 0) (cs := i8s g.l) h10.s2.get rfl (by show 0 + 10 ≤ 10; omega) rfl
        have h11 := h10.s2.splice (i8s g.l)
        have H11 := Aside.mk h11.s2
        clear hg hbz h10 h11 H10 H9 r9 HSV2 HA HN
        generalize World.setRow w10 _ _ = w11 at *
        go_wp2_with (refine wpList_store_run rfl rfl rfl rfl rfl r2 ?_)
        clear r2
        refine (disk_crash E _ c B2 none [] 0 _ (by simp) (fun k hk => by cases hk) (fun E w h => Cells.nil _ _) H11.out).mono ?_
        rintro e w12 ⟨rfl, h12⟩
        have H12 := Aside.mk h12
        clear h12 H11
        go_wp2_with fail
        refine (anchor_load E _ c (B2.crash []) _ HSE.out.bytes (fun w h => (HQ.out _ w h.right.right.right.right.right).1) H12.out).mono ?_
        rintro e w13 ⟨rfl, h13⟩
        have hld : ∃ nw : Anch, loadA (B2.crash []) = (nw, 0) ∧ (nw = x ∨ nw = ({ x with cur := 1 } : Anch).up) ∧ (c2 = 0 → nw = ({ x with cur := 1 } : Anch).up) ∧ (x.seq = 4611686018427387904 → c2 = 1 ∧ nw = x) := by
          rcases HSE.out.load with h | h
          · refine ⟨x, h, .inl rfl, fun h0 => ?_, fun ht => ⟨(HSE.out.top ht).1, rfl⟩⟩
            have := HSE.out.new h0
            rw [h] at this
            exact congrArg Prod.fst this
          · refine ⟨_, h, .inr rfl, fun _ => rfl, fun ht => ⟨(HSE.out.top ht).1, ?_⟩⟩
            have := (HSE.out.top ht).2
            rw [h] at this
            exact congrArg Prod.fst this
        obtain ⟨nw, hnw, hor, hn0, htop⟩ := hld
        rw [hnw]
        dsimp only
        have HNW := Aside.mk (And.intro hor (And.intro hn0 htop))
        clear hor hn0 htop hnw HSE
        by_cases htop : x.seq = 4611686018427387904
        · obtain ⟨hc, hn⟩ := HNW.out.2.2 htop
          subst hc
          rw [hn]
          have hb : (x.seq == 4611686018427387904) = true := by rw [htop]; rfl
          clear HNW htop
          rw [show x.val = .agg #[.int .i64 x.seq, .int .i64 x.gen, .int .i64 x.lsn, .int .i64 x.seg, .int .i64 x.ext, .int .i64 x.flo, .int .i64 x.new, .int .i64 x.keep, .int .i64 x.next, .int .i64 x.cur] from rfl]
          have h14 := (h13.alloc (.cells #[.int .i64 x.seq, .int .i64 x.gen, .int .i64 x.lsn, .int .i64 x.seg, .int .i64 x.ext, .int .i64 x.flo, .int .i64 x.new, .int .i64 x.keep, .int .i64 x.next, .int .i64 x.cur] 34))
          have H14 := Aside.mk h14.right.right.right.right.right.right.right
          have p0 : (w13.alloc (.cells #[.int .i64 x.seq, .int .i64 x.gen, .int .i64 x.lsn, .int .i64 x.seg, .int .i64 x.ext, .int .i64 x.flo, .int .i64 x.new, .int .i64 x.keep, .int .i64 x.next, .int .i64 x.cur] 34)).cell? ⟨w13.heap.size, 0, none⟩ = some (.int .i64 x.seq) := h14.cell 0
          have p1 : (w13.alloc (.cells #[.int .i64 x.seq, .int .i64 x.gen, .int .i64 x.lsn, .int .i64 x.seg, .int .i64 x.ext, .int .i64 x.flo, .int .i64 x.new, .int .i64 x.keep, .int .i64 x.next, .int .i64 x.cur] 34)).cell? ⟨w13.heap.size, 1, none⟩ = some (.int .i64 x.gen) := h14.cell 1
          have p2 : (w13.alloc (.cells #[.int .i64 x.seq, .int .i64 x.gen, .int .i64 x.lsn, .int .i64 x.seg, .int .i64 x.ext, .int .i64 x.flo, .int .i64 x.new, .int .i64 x.keep, .int .i64 x.next, .int .i64 x.cur] 34)).cell? ⟨w13.heap.size, 2, none⟩ = some (.int .i64 x.lsn) := h14.cell 2
          have p3 : (w13.alloc (.cells #[.int .i64 x.seq, .int .i64 x.gen, .int .i64 x.lsn, .int .i64 x.seg, .int .i64 x.ext, .int .i64 x.flo, .int .i64 x.new, .int .i64 x.keep, .int .i64 x.next, .int .i64 x.cur] 34)).cell? ⟨w13.heap.size, 3, none⟩ = some (.int .i64 x.seg) := h14.cell 3
          have p4 : (w13.alloc (.cells #[.int .i64 x.seq, .int .i64 x.gen, .int .i64 x.lsn, .int .i64 x.seg, .int .i64 x.ext, .int .i64 x.flo, .int .i64 x.new, .int .i64 x.keep, .int .i64 x.next, .int .i64 x.cur] 34)).cell? ⟨w13.heap.size, 4, none⟩ = some (.int .i64 x.ext) := h14.cell 4
          have p5 : (w13.alloc (.cells #[.int .i64 x.seq, .int .i64 x.gen, .int .i64 x.lsn, .int .i64 x.seg, .int .i64 x.ext, .int .i64 x.flo, .int .i64 x.new, .int .i64 x.keep, .int .i64 x.next, .int .i64 x.cur] 34)).cell? ⟨w13.heap.size, 5, none⟩ = some (.int .i64 x.flo) := h14.cell 5
          have p6 : (w13.alloc (.cells #[.int .i64 x.seq, .int .i64 x.gen, .int .i64 x.lsn, .int .i64 x.seg, .int .i64 x.ext, .int .i64 x.flo, .int .i64 x.new, .int .i64 x.keep, .int .i64 x.next, .int .i64 x.cur] 34)).cell? ⟨w13.heap.size, 6, none⟩ = some (.int .i64 x.new) := h14.cell 6
          have p7 : (w13.alloc (.cells #[.int .i64 x.seq, .int .i64 x.gen, .int .i64 x.lsn, .int .i64 x.seg, .int .i64 x.ext, .int .i64 x.flo, .int .i64 x.new, .int .i64 x.keep, .int .i64 x.next, .int .i64 x.cur] 34)).cell? ⟨w13.heap.size, 7, none⟩ = some (.int .i64 x.keep) := h14.cell 7
          have p8 : (w13.alloc (.cells #[.int .i64 x.seq, .int .i64 x.gen, .int .i64 x.lsn, .int .i64 x.seg, .int .i64 x.ext, .int .i64 x.flo, .int .i64 x.new, .int .i64 x.keep, .int .i64 x.next, .int .i64 x.cur] 34)).cell? ⟨w13.heap.size, 8, none⟩ = some (.int .i64 x.next) := h14.cell 8
          have p9 : (w13.alloc (.cells #[.int .i64 x.seq, .int .i64 x.gen, .int .i64 x.lsn, .int .i64 x.seg, .int .i64 x.ext, .int .i64 x.flo, .int .i64 x.new, .int .i64 x.keep, .int .i64 x.next, .int .i64 x.cur] 34)).cell? ⟨w13.heap.size, 9, none⟩ = some (.int .i64 x.cur) := h14.cell 9
          have o0 : (w13.alloc (.cells #[.int .i64 x.seq, .int .i64 x.gen, .int .i64 x.lsn, .int .i64 x.seg, .int .i64 x.ext, .int .i64 x.flo, .int .i64 x.new, .int .i64 x.keep, .int .i64 x.next, .int .i64 x.cur] 34)).cell? ⟨w2.heap.size, 0, none⟩ = some (.int .i64 x.seq) := h14.right.right.right.cell 0
          have o1 : (w13.alloc (.cells #[.int .i64 x.seq, .int .i64 x.gen, .int .i64 x.lsn, .int .i64 x.seg, .int .i64 x.ext, .int .i64 x.flo, .int .i64 x.new, .int .i64 x.keep, .int .i64 x.next, .int .i64 x.cur] 34)).cell? ⟨w2.heap.size, 1, none⟩ = some (.int .i64 x.gen) := h14.right.right.right.cell 1
          have o2 : (w13.alloc (.cells #[.int .i64 x.seq, .int .i64 x.gen, .int .i64 x.lsn, .int .i64 x.seg, .int .i64 x.ext, .int .i64 x.flo, .int .i64 x.new, .int .i64 x.keep, .int .i64 x.next, .int .i64 x.cur] 34)).cell? ⟨w2.heap.size, 2, none⟩ = some (.int .i64 x.lsn) := h14.right.right.right.cell 2
          have o3 : (w13.alloc (.cells #[.int .i64 x.seq, .int .i64 x.gen, .int .i64 x.lsn, .int .i64 x.seg, .int .i64 x.ext, .int .i64 x.flo, .int .i64 x.new, .int .i64 x.keep, .int .i64 x.next, .int .i64 x.cur] 34)).cell? ⟨w2.heap.size, 3, none⟩ = some (.int .i64 x.seg) := h14.right.right.right.cell 3
          have o4 : (w13.alloc (.cells #[.int .i64 x.seq, .int .i64 x.gen, .int .i64 x.lsn, .int .i64 x.seg, .int .i64 x.ext, .int .i64 x.flo, .int .i64 x.new, .int .i64 x.keep, .int .i64 x.next, .int .i64 x.cur] 34)).cell? ⟨w2.heap.size, 4, none⟩ = some (.int .i64 x.ext) := h14.right.right.right.cell 4
          have o5 : (w13.alloc (.cells #[.int .i64 x.seq, .int .i64 x.gen, .int .i64 x.lsn, .int .i64 x.seg, .int .i64 x.ext, .int .i64 x.flo, .int .i64 x.new, .int .i64 x.keep, .int .i64 x.next, .int .i64 x.cur] 34)).cell? ⟨w2.heap.size, 5, none⟩ = some (.int .i64 x.flo) := h14.right.right.right.cell 5
          have o6 : (w13.alloc (.cells #[.int .i64 x.seq, .int .i64 x.gen, .int .i64 x.lsn, .int .i64 x.seg, .int .i64 x.ext, .int .i64 x.flo, .int .i64 x.new, .int .i64 x.keep, .int .i64 x.next, .int .i64 x.cur] 34)).cell? ⟨w2.heap.size, 6, none⟩ = some (.int .i64 x.new) := h14.right.right.right.cell 6
          have o7 : (w13.alloc (.cells #[.int .i64 x.seq, .int .i64 x.gen, .int .i64 x.lsn, .int .i64 x.seg, .int .i64 x.ext, .int .i64 x.flo, .int .i64 x.new, .int .i64 x.keep, .int .i64 x.next, .int .i64 x.cur] 34)).cell? ⟨w2.heap.size, 7, none⟩ = some (.int .i64 x.keep) := h14.right.right.right.cell 7
          have o8 : (w13.alloc (.cells #[.int .i64 x.seq, .int .i64 x.gen, .int .i64 x.lsn, .int .i64 x.seg, .int .i64 x.ext, .int .i64 x.flo, .int .i64 x.new, .int .i64 x.keep, .int .i64 x.next, .int .i64 x.cur] 34)).cell? ⟨w2.heap.size, 8, none⟩ = some (.int .i64 x.next) := h14.right.right.right.cell 8
          have o9 : (w13.alloc (.cells #[.int .i64 x.seq, .int .i64 x.gen, .int .i64 x.lsn, .int .i64 x.seg, .int .i64 x.ext, .int .i64 x.flo, .int .i64 x.new, .int .i64 x.keep, .int .i64 x.next, .int .i64 x.cur] 34)).cell? ⟨w2.heap.size, 9, none⟩ = some (.int .i64 x.cur) := h14.right.right.right.cell 9
          have r0 : (w13.alloc (.cells #[.int .i64 x.seq, .int .i64 x.gen, .int .i64 x.lsn, .int .i64 x.seg, .int .i64 x.ext, .int .i64 x.flo, .int .i64 x.new, .int .i64 x.keep, .int .i64 x.next, .int .i64 x.cur] 34)).cell? ⟨bz, 0, none⟩ = some (.int .i64 g.seq) := h14.right.right.cell 0
          have r1 : (w13.alloc (.cells #[.int .i64 x.seq, .int .i64 x.gen, .int .i64 x.lsn, .int .i64 x.seg, .int .i64 x.ext, .int .i64 x.flo, .int .i64 x.new, .int .i64 x.keep, .int .i64 x.next, .int .i64 x.cur] 34)).cell? ⟨bz, 1, none⟩ = some (.int .i64 g.gen) := h14.right.right.cell 1
          have r2 : (w13.alloc (.cells #[.int .i64 x.seq, .int .i64 x.gen, .int .i64 x.lsn, .int .i64 x.seg, .int .i64 x.ext, .int .i64 x.flo, .int .i64 x.new, .int .i64 x.keep, .int .i64 x.next, .int .i64 x.cur] 34)).cell? ⟨bz, 2, none⟩ = some (.int .i64 g.lsn) := h14.right.right.cell 2
          have r3 : (w13.alloc (.cells #[.int .i64 x.seq, .int .i64 x.gen, .int .i64 x.lsn, .int .i64 x.seg, .int .i64 x.ext, .int .i64 x.flo, .int .i64 x.new, .int .i64 x.keep, .int .i64 x.next, .int .i64 x.cur] 34)).cell? ⟨bz, 3, none⟩ = some (.int .i64 g.seg) := h14.right.right.cell 3
          have r4 : (w13.alloc (.cells #[.int .i64 x.seq, .int .i64 x.gen, .int .i64 x.lsn, .int .i64 x.seg, .int .i64 x.ext, .int .i64 x.flo, .int .i64 x.new, .int .i64 x.keep, .int .i64 x.next, .int .i64 x.cur] 34)).cell? ⟨bz, 4, none⟩ = some (.int .i64 g.ext) := h14.right.right.cell 4
          have r5 : (w13.alloc (.cells #[.int .i64 x.seq, .int .i64 x.gen, .int .i64 x.lsn, .int .i64 x.seg, .int .i64 x.ext, .int .i64 x.flo, .int .i64 x.new, .int .i64 x.keep, .int .i64 x.next, .int .i64 x.cur] 34)).cell? ⟨bz, 5, none⟩ = some (.int .i64 g.flo) := h14.right.right.cell 5
          have r6 : (w13.alloc (.cells #[.int .i64 x.seq, .int .i64 x.gen, .int .i64 x.lsn, .int .i64 x.seg, .int .i64 x.ext, .int .i64 x.flo, .int .i64 x.new, .int .i64 x.keep, .int .i64 x.next, .int .i64 x.cur] 34)).cell? ⟨bz, 6, none⟩ = some (.int .i64 g.new) := h14.right.right.cell 6
          have r7 : (w13.alloc (.cells #[.int .i64 x.seq, .int .i64 x.gen, .int .i64 x.lsn, .int .i64 x.seg, .int .i64 x.ext, .int .i64 x.flo, .int .i64 x.new, .int .i64 x.keep, .int .i64 x.next, .int .i64 x.cur] 34)).cell? ⟨bz, 7, none⟩ = some (.int .i64 g.keep) := h14.right.right.cell 7
          have r8 : (w13.alloc (.cells #[.int .i64 x.seq, .int .i64 x.gen, .int .i64 x.lsn, .int .i64 x.seg, .int .i64 x.ext, .int .i64 x.flo, .int .i64 x.new, .int .i64 x.keep, .int .i64 x.next, .int .i64 x.cur] 34)).cell? ⟨bz, 8, none⟩ = some (.int .i64 g.next) := h14.right.right.cell 8
          have r9 : (w13.alloc (.cells #[.int .i64 x.seq, .int .i64 x.gen, .int .i64 x.lsn, .int .i64 x.seg, .int .i64 x.ext, .int .i64 x.flo, .int .i64 x.new, .int .i64 x.keep, .int .i64 x.next, .int .i64 x.cur] 34)).cell? ⟨bz, 9, none⟩ = some (.int .i64 g.cur) := h14.right.right.cell 9
          clear h13 h14 H12
          go_wp2
          go_ret
          exact ⟨rfl, H14.out⟩
        · have hb : (x.seq == 4611686018427387904) = false := by rw [beq_eq_false_iff_ne]; exact htop
          clear htop
          rcases HNW.out.1 with hn | hn
          · rw [hn]
            have hc : ¬ c2 = 0 := fun h0 => by
              have h1 := HNW.out.2.1 h0
              rw [hn] at h1
              have h2 : x.seq = x.seq + 1 := congrArg Anch.seq h1
              omega
            have hcb : (c2 == 0) = false := by rw [beq_eq_false_iff_ne]; exact hc
            have hcm : (c2 != 0) = true := by simp [hc]
            clear HNW hn
            rw [show x.val = .agg #[.int .i64 x.seq, .int .i64 x.gen, .int .i64 x.lsn, .int .i64 x.seg, .int .i64 x.ext, .int .i64 x.flo, .int .i64 x.new, .int .i64 x.keep, .int .i64 x.next, .int .i64 x.cur] from rfl]
            have h14 := (h13.alloc (.cells #[.int .i64 x.seq, .int .i64 x.gen, .int .i64 x.lsn, .int .i64 x.seg, .int .i64 x.ext, .int .i64 x.flo, .int .i64 x.new, .int .i64 x.keep, .int .i64 x.next, .int .i64 x.cur] 34))
            have H14 := Aside.mk h14.right.right.right.right.right.right.right
            have p0 : (w13.alloc (.cells #[.int .i64 x.seq, .int .i64 x.gen, .int .i64 x.lsn, .int .i64 x.seg, .int .i64 x.ext, .int .i64 x.flo, .int .i64 x.new, .int .i64 x.keep, .int .i64 x.next, .int .i64 x.cur] 34)).cell? ⟨w13.heap.size, 0, none⟩ = some (.int .i64 x.seq) := h14.cell 0
            have p1 : (w13.alloc (.cells #[.int .i64 x.seq, .int .i64 x.gen, .int .i64 x.lsn, .int .i64 x.seg, .int .i64 x.ext, .int .i64 x.flo, .int .i64 x.new, .int .i64 x.keep, .int .i64 x.next, .int .i64 x.cur] 34)).cell? ⟨w13.heap.size, 1, none⟩ = some (.int .i64 x.gen) := h14.cell 1
            have p2 : (w13.alloc (.cells #[.int .i64 x.seq, .int .i64 x.gen, .int .i64 x.lsn, .int .i64 x.seg, .int .i64 x.ext, .int .i64 x.flo, .int .i64 x.new, .int .i64 x.keep, .int .i64 x.next, .int .i64 x.cur] 34)).cell? ⟨w13.heap.size, 2, none⟩ = some (.int .i64 x.lsn) := h14.cell 2
            have p3 : (w13.alloc (.cells #[.int .i64 x.seq, .int .i64 x.gen, .int .i64 x.lsn, .int .i64 x.seg, .int .i64 x.ext, .int .i64 x.flo, .int .i64 x.new, .int .i64 x.keep, .int .i64 x.next, .int .i64 x.cur] 34)).cell? ⟨w13.heap.size, 3, none⟩ = some (.int .i64 x.seg) := h14.cell 3
            have p4 : (w13.alloc (.cells #[.int .i64 x.seq, .int .i64 x.gen, .int .i64 x.lsn, .int .i64 x.seg, .int .i64 x.ext, .int .i64 x.flo, .int .i64 x.new, .int .i64 x.keep, .int .i64 x.next, .int .i64 x.cur] 34)).cell? ⟨w13.heap.size, 4, none⟩ = some (.int .i64 x.ext) := h14.cell 4
            have p5 : (w13.alloc (.cells #[.int .i64 x.seq, .int .i64 x.gen, .int .i64 x.lsn, .int .i64 x.seg, .int .i64 x.ext, .int .i64 x.flo, .int .i64 x.new, .int .i64 x.keep, .int .i64 x.next, .int .i64 x.cur] 34)).cell? ⟨w13.heap.size, 5, none⟩ = some (.int .i64 x.flo) := h14.cell 5
            have p6 : (w13.alloc (.cells #[.int .i64 x.seq, .int .i64 x.gen, .int .i64 x.lsn, .int .i64 x.seg, .int .i64 x.ext, .int .i64 x.flo, .int .i64 x.new, .int .i64 x.keep, .int .i64 x.next, .int .i64 x.cur] 34)).cell? ⟨w13.heap.size, 6, none⟩ = some (.int .i64 x.new) := h14.cell 6
            have p7 : (w13.alloc (.cells #[.int .i64 x.seq, .int .i64 x.gen, .int .i64 x.lsn, .int .i64 x.seg, .int .i64 x.ext, .int .i64 x.flo, .int .i64 x.new, .int .i64 x.keep, .int .i64 x.next, .int .i64 x.cur] 34)).cell? ⟨w13.heap.size, 7, none⟩ = some (.int .i64 x.keep) := h14.cell 7
            have p8 : (w13.alloc (.cells #[.int .i64 x.seq, .int .i64 x.gen, .int .i64 x.lsn, .int .i64 x.seg, .int .i64 x.ext, .int .i64 x.flo, .int .i64 x.new, .int .i64 x.keep, .int .i64 x.next, .int .i64 x.cur] 34)).cell? ⟨w13.heap.size, 8, none⟩ = some (.int .i64 x.next) := h14.cell 8
            have p9 : (w13.alloc (.cells #[.int .i64 x.seq, .int .i64 x.gen, .int .i64 x.lsn, .int .i64 x.seg, .int .i64 x.ext, .int .i64 x.flo, .int .i64 x.new, .int .i64 x.keep, .int .i64 x.next, .int .i64 x.cur] 34)).cell? ⟨w13.heap.size, 9, none⟩ = some (.int .i64 x.cur) := h14.cell 9
            have o0 : (w13.alloc (.cells #[.int .i64 x.seq, .int .i64 x.gen, .int .i64 x.lsn, .int .i64 x.seg, .int .i64 x.ext, .int .i64 x.flo, .int .i64 x.new, .int .i64 x.keep, .int .i64 x.next, .int .i64 x.cur] 34)).cell? ⟨w2.heap.size, 0, none⟩ = some (.int .i64 x.seq) := h14.right.right.right.cell 0
            have o1 : (w13.alloc (.cells #[.int .i64 x.seq, .int .i64 x.gen, .int .i64 x.lsn, .int .i64 x.seg, .int .i64 x.ext, .int .i64 x.flo, .int .i64 x.new, .int .i64 x.keep, .int .i64 x.next, .int .i64 x.cur] 34)).cell? ⟨w2.heap.size, 1, none⟩ = some (.int .i64 x.gen) := h14.right.right.right.cell 1
            have o2 : (w13.alloc (.cells #[.int .i64 x.seq, .int .i64 x.gen, .int .i64 x.lsn, .int .i64 x.seg, .int .i64 x.ext, .int .i64 x.flo, .int .i64 x.new, .int .i64 x.keep, .int .i64 x.next, .int .i64 x.cur] 34)).cell? ⟨w2.heap.size, 2, none⟩ = some (.int .i64 x.lsn) := h14.right.right.right.cell 2
            have o3 : (w13.alloc (.cells #[.int .i64 x.seq, .int .i64 x.gen, .int .i64 x.lsn, .int .i64 x.seg, .int .i64 x.ext, .int .i64 x.flo, .int .i64 x.new, .int .i64 x.keep, .int .i64 x.next, .int .i64 x.cur] 34)).cell? ⟨w2.heap.size, 3, none⟩ = some (.int .i64 x.seg) := h14.right.right.right.cell 3
            have o4 : (w13.alloc (.cells #[.int .i64 x.seq, .int .i64 x.gen, .int .i64 x.lsn, .int .i64 x.seg, .int .i64 x.ext, .int .i64 x.flo, .int .i64 x.new, .int .i64 x.keep, .int .i64 x.next, .int .i64 x.cur] 34)).cell? ⟨w2.heap.size, 4, none⟩ = some (.int .i64 x.ext) := h14.right.right.right.cell 4
            have o5 : (w13.alloc (.cells #[.int .i64 x.seq, .int .i64 x.gen, .int .i64 x.lsn, .int .i64 x.seg, .int .i64 x.ext, .int .i64 x.flo, .int .i64 x.new, .int .i64 x.keep, .int .i64 x.next, .int .i64 x.cur] 34)).cell? ⟨w2.heap.size, 5, none⟩ = some (.int .i64 x.flo) := h14.right.right.right.cell 5
            have o6 : (w13.alloc (.cells #[.int .i64 x.seq, .int .i64 x.gen, .int .i64 x.lsn, .int .i64 x.seg, .int .i64 x.ext, .int .i64 x.flo, .int .i64 x.new, .int .i64 x.keep, .int .i64 x.next, .int .i64 x.cur] 34)).cell? ⟨w2.heap.size, 6, none⟩ = some (.int .i64 x.new) := h14.right.right.right.cell 6
            have o7 : (w13.alloc (.cells #[.int .i64 x.seq, .int .i64 x.gen, .int .i64 x.lsn, .int .i64 x.seg, .int .i64 x.ext, .int .i64 x.flo, .int .i64 x.new, .int .i64 x.keep, .int .i64 x.next, .int .i64 x.cur] 34)).cell? ⟨w2.heap.size, 7, none⟩ = some (.int .i64 x.keep) := h14.right.right.right.cell 7
            have o8 : (w13.alloc (.cells #[.int .i64 x.seq, .int .i64 x.gen, .int .i64 x.lsn, .int .i64 x.seg, .int .i64 x.ext, .int .i64 x.flo, .int .i64 x.new, .int .i64 x.keep, .int .i64 x.next, .int .i64 x.cur] 34)).cell? ⟨w2.heap.size, 8, none⟩ = some (.int .i64 x.next) := h14.right.right.right.cell 8
            have o9 : (w13.alloc (.cells #[.int .i64 x.seq, .int .i64 x.gen, .int .i64 x.lsn, .int .i64 x.seg, .int .i64 x.ext, .int .i64 x.flo, .int .i64 x.new, .int .i64 x.keep, .int .i64 x.next, .int .i64 x.cur] 34)).cell? ⟨w2.heap.size, 9, none⟩ = some (.int .i64 x.cur) := h14.right.right.right.cell 9
            have r0 : (w13.alloc (.cells #[.int .i64 x.seq, .int .i64 x.gen, .int .i64 x.lsn, .int .i64 x.seg, .int .i64 x.ext, .int .i64 x.flo, .int .i64 x.new, .int .i64 x.keep, .int .i64 x.next, .int .i64 x.cur] 34)).cell? ⟨bz, 0, none⟩ = some (.int .i64 g.seq) := h14.right.right.cell 0
            have r1 : (w13.alloc (.cells #[.int .i64 x.seq, .int .i64 x.gen, .int .i64 x.lsn, .int .i64 x.seg, .int .i64 x.ext, .int .i64 x.flo, .int .i64 x.new, .int .i64 x.keep, .int .i64 x.next, .int .i64 x.cur] 34)).cell? ⟨bz, 1, none⟩ = some (.int .i64 g.gen) := h14.right.right.cell 1
            have r2 : (w13.alloc (.cells #[.int .i64 x.seq, .int .i64 x.gen, .int .i64 x.lsn, .int .i64 x.seg, .int .i64 x.ext, .int .i64 x.flo, .int .i64 x.new, .int .i64 x.keep, .int .i64 x.next, .int .i64 x.cur] 34)).cell? ⟨bz, 2, none⟩ = some (.int .i64 g.lsn) := h14.right.right.cell 2
            have r3 : (w13.alloc (.cells #[.int .i64 x.seq, .int .i64 x.gen, .int .i64 x.lsn, .int .i64 x.seg, .int .i64 x.ext, .int .i64 x.flo, .int .i64 x.new, .int .i64 x.keep, .int .i64 x.next, .int .i64 x.cur] 34)).cell? ⟨bz, 3, none⟩ = some (.int .i64 g.seg) := h14.right.right.cell 3
            have r4 : (w13.alloc (.cells #[.int .i64 x.seq, .int .i64 x.gen, .int .i64 x.lsn, .int .i64 x.seg, .int .i64 x.ext, .int .i64 x.flo, .int .i64 x.new, .int .i64 x.keep, .int .i64 x.next, .int .i64 x.cur] 34)).cell? ⟨bz, 4, none⟩ = some (.int .i64 g.ext) := h14.right.right.cell 4
            have r5 : (w13.alloc (.cells #[.int .i64 x.seq, .int .i64 x.gen, .int .i64 x.lsn, .int .i64 x.seg, .int .i64 x.ext, .int .i64 x.flo, .int .i64 x.new, .int .i64 x.keep, .int .i64 x.next, .int .i64 x.cur] 34)).cell? ⟨bz, 5, none⟩ = some (.int .i64 g.flo) := h14.right.right.cell 5
            have r6 : (w13.alloc (.cells #[.int .i64 x.seq, .int .i64 x.gen, .int .i64 x.lsn, .int .i64 x.seg, .int .i64 x.ext, .int .i64 x.flo, .int .i64 x.new, .int .i64 x.keep, .int .i64 x.next, .int .i64 x.cur] 34)).cell? ⟨bz, 6, none⟩ = some (.int .i64 g.new) := h14.right.right.cell 6
            have r7 : (w13.alloc (.cells #[.int .i64 x.seq, .int .i64 x.gen, .int .i64 x.lsn, .int .i64 x.seg, .int .i64 x.ext, .int .i64 x.flo, .int .i64 x.new, .int .i64 x.keep, .int .i64 x.next, .int .i64 x.cur] 34)).cell? ⟨bz, 7, none⟩ = some (.int .i64 g.keep) := h14.right.right.cell 7
            have r8 : (w13.alloc (.cells #[.int .i64 x.seq, .int .i64 x.gen, .int .i64 x.lsn, .int .i64 x.seg, .int .i64 x.ext, .int .i64 x.flo, .int .i64 x.new, .int .i64 x.keep, .int .i64 x.next, .int .i64 x.cur] 34)).cell? ⟨bz, 8, none⟩ = some (.int .i64 g.next) := h14.right.right.cell 8
            have r9 : (w13.alloc (.cells #[.int .i64 x.seq, .int .i64 x.gen, .int .i64 x.lsn, .int .i64 x.seg, .int .i64 x.ext, .int .i64 x.flo, .int .i64 x.new, .int .i64 x.keep, .int .i64 x.next, .int .i64 x.cur] 34)).cell? ⟨bz, 9, none⟩ = some (.int .i64 g.cur) := h14.right.right.cell 9
            clear h13 h14 H12
            go_wp2_with fail
            refine (awake17_ok E q _ (fun w h => (HQ.out _ w h).1) H14.out).mono ?_
            rintro e w15 ⟨rfl, h15⟩
            go_wp2
            go_ret
            exact ⟨rfl, h15⟩
          · rw [hn, show (({ x with cur := 1 } : Anch).up).val = .agg #[.int .i64 (x.seq + 1), .int .i64 x.gen, .int .i64 x.lsn, .int .i64 x.seg, .int .i64 x.ext, .int .i64 x.flo, .int .i64 x.new, .int .i64 x.keep, .int .i64 x.next, .int .i64 1] from rfl]
            have hs1 : ((x.seq + 1) == x.seq) = false := by rw [beq_eq_false_iff_ne]; omega
            by_cases h0 : c2 = 0
            · subst h0
              clear HNW hn
              have h14 := (h13.alloc (.cells #[.int .i64 (x.seq + 1), .int .i64 x.gen, .int .i64 x.lsn, .int .i64 x.seg, .int .i64 x.ext, .int .i64 x.flo, .int .i64 x.new, .int .i64 x.keep, .int .i64 x.next, .int .i64 1] 34))
              have H14 := Aside.mk h14.right.right.right.right.right.right.right
              have p0 : (w13.alloc (.cells #[.int .i64 (x.seq + 1), .int .i64 x.gen, .int .i64 x.lsn, .int .i64 x.seg, .int .i64 x.ext, .int .i64 x.flo, .int .i64 x.new, .int .i64 x.keep, .int .i64 x.next, .int .i64 1] 34)).cell? ⟨w13.heap.size, 0, none⟩ = some (.int .i64 (x.seq + 1)) := h14.cell 0
              have p1 : (w13.alloc (.cells #[.int .i64 (x.seq + 1), .int .i64 x.gen, .int .i64 x.lsn, .int .i64 x.seg, .int .i64 x.ext, .int .i64 x.flo, .int .i64 x.new, .int .i64 x.keep, .int .i64 x.next, .int .i64 1] 34)).cell? ⟨w13.heap.size, 1, none⟩ = some (.int .i64 x.gen) := h14.cell 1
              have p2 : (w13.alloc (.cells #[.int .i64 (x.seq + 1), .int .i64 x.gen, .int .i64 x.lsn, .int .i64 x.seg, .int .i64 x.ext, .int .i64 x.flo, .int .i64 x.new, .int .i64 x.keep, .int .i64 x.next, .int .i64 1] 34)).cell? ⟨w13.heap.size, 2, none⟩ = some (.int .i64 x.lsn) := h14.cell 2
              have p3 : (w13.alloc (.cells #[.int .i64 (x.seq + 1), .int .i64 x.gen, .int .i64 x.lsn, .int .i64 x.seg, .int .i64 x.ext, .int .i64 x.flo, .int .i64 x.new, .int .i64 x.keep, .int .i64 x.next, .int .i64 1] 34)).cell? ⟨w13.heap.size, 3, none⟩ = some (.int .i64 x.seg) := h14.cell 3
              have p4 : (w13.alloc (.cells #[.int .i64 (x.seq + 1), .int .i64 x.gen, .int .i64 x.lsn, .int .i64 x.seg, .int .i64 x.ext, .int .i64 x.flo, .int .i64 x.new, .int .i64 x.keep, .int .i64 x.next, .int .i64 1] 34)).cell? ⟨w13.heap.size, 4, none⟩ = some (.int .i64 x.ext) := h14.cell 4
              have p5 : (w13.alloc (.cells #[.int .i64 (x.seq + 1), .int .i64 x.gen, .int .i64 x.lsn, .int .i64 x.seg, .int .i64 x.ext, .int .i64 x.flo, .int .i64 x.new, .int .i64 x.keep, .int .i64 x.next, .int .i64 1] 34)).cell? ⟨w13.heap.size, 5, none⟩ = some (.int .i64 x.flo) := h14.cell 5
              have p6 : (w13.alloc (.cells #[.int .i64 (x.seq + 1), .int .i64 x.gen, .int .i64 x.lsn, .int .i64 x.seg, .int .i64 x.ext, .int .i64 x.flo, .int .i64 x.new, .int .i64 x.keep, .int .i64 x.next, .int .i64 1] 34)).cell? ⟨w13.heap.size, 6, none⟩ = some (.int .i64 x.new) := h14.cell 6
              have p7 : (w13.alloc (.cells #[.int .i64 (x.seq + 1), .int .i64 x.gen, .int .i64 x.lsn, .int .i64 x.seg, .int .i64 x.ext, .int .i64 x.flo, .int .i64 x.new, .int .i64 x.keep, .int .i64 x.next, .int .i64 1] 34)).cell? ⟨w13.heap.size, 7, none⟩ = some (.int .i64 x.keep) := h14.cell 7
              have p8 : (w13.alloc (.cells #[.int .i64 (x.seq + 1), .int .i64 x.gen, .int .i64 x.lsn, .int .i64 x.seg, .int .i64 x.ext, .int .i64 x.flo, .int .i64 x.new, .int .i64 x.keep, .int .i64 x.next, .int .i64 1] 34)).cell? ⟨w13.heap.size, 8, none⟩ = some (.int .i64 x.next) := h14.cell 8
              have p9 : (w13.alloc (.cells #[.int .i64 (x.seq + 1), .int .i64 x.gen, .int .i64 x.lsn, .int .i64 x.seg, .int .i64 x.ext, .int .i64 x.flo, .int .i64 x.new, .int .i64 x.keep, .int .i64 x.next, .int .i64 1] 34)).cell? ⟨w13.heap.size, 9, none⟩ = some (.int .i64 1) := h14.cell 9
              have o0 : (w13.alloc (.cells #[.int .i64 (x.seq + 1), .int .i64 x.gen, .int .i64 x.lsn, .int .i64 x.seg, .int .i64 x.ext, .int .i64 x.flo, .int .i64 x.new, .int .i64 x.keep, .int .i64 x.next, .int .i64 1] 34)).cell? ⟨w2.heap.size, 0, none⟩ = some (.int .i64 x.seq) := h14.right.right.right.cell 0
              have o1 : (w13.alloc (.cells #[.int .i64 (x.seq + 1), .int .i64 x.gen, .int .i64 x.lsn, .int .i64 x.seg, .int .i64 x.ext, .int .i64 x.flo, .int .i64 x.new, .int .i64 x.keep, .int .i64 x.next, .int .i64 1] 34)).cell? ⟨w2.heap.size, 1, none⟩ = some (.int .i64 x.gen) := h14.right.right.right.cell 1
              have o2 : (w13.alloc (.cells #[.int .i64 (x.seq + 1), .int .i64 x.gen, .int .i64 x.lsn, .int .i64 x.seg, .int .i64 x.ext, .int .i64 x.flo, .int .i64 x.new, .int .i64 x.keep, .int .i64 x.next, .int .i64 1] 34)).cell? ⟨w2.heap.size, 2, none⟩ = some (.int .i64 x.lsn) := h14.right.right.right.cell 2
              have o3 : (w13.alloc (.cells #[.int .i64 (x.seq + 1), .int .i64 x.gen, .int .i64 x.lsn, .int .i64 x.seg, .int .i64 x.ext, .int .i64 x.flo, .int .i64 x.new, .int .i64 x.keep, .int .i64 x.next, .int .i64 1] 34)).cell? ⟨w2.heap.size, 3, none⟩ = some (.int .i64 x.seg) := h14.right.right.right.cell 3
              have o4 : (w13.alloc (.cells #[.int .i64 (x.seq + 1), .int .i64 x.gen, .int .i64 x.lsn, .int .i64 x.seg, .int .i64 x.ext, .int .i64 x.flo, .int .i64 x.new, .int .i64 x.keep, .int .i64 x.next, .int .i64 1] 34)).cell? ⟨w2.heap.size, 4, none⟩ = some (.int .i64 x.ext) := h14.right.right.right.cell 4
              have o5 : (w13.alloc (.cells #[.int .i64 (x.seq + 1), .int .i64 x.gen, .int .i64 x.lsn, .int .i64 x.seg, .int .i64 x.ext, .int .i64 x.flo, .int .i64 x.new, .int .i64 x.keep, .int .i64 x.next, .int .i64 1] 34)).cell? ⟨w2.heap.size, 5, none⟩ = some (.int .i64 x.flo) := h14.right.right.right.cell 5
              have o6 : (w13.alloc (.cells #[.int .i64 (x.seq + 1), .int .i64 x.gen, .int .i64 x.lsn, .int .i64 x.seg, .int .i64 x.ext, .int .i64 x.flo, .int .i64 x.new, .int .i64 x.keep, .int .i64 x.next, .int .i64 1] 34)).cell? ⟨w2.heap.size, 6, none⟩ = some (.int .i64 x.new) := h14.right.right.right.cell 6
              have o7 : (w13.alloc (.cells #[.int .i64 (x.seq + 1), .int .i64 x.gen, .int .i64 x.lsn, .int .i64 x.seg, .int .i64 x.ext, .int .i64 x.flo, .int .i64 x.new, .int .i64 x.keep, .int .i64 x.next, .int .i64 1] 34)).cell? ⟨w2.heap.size, 7, none⟩ = some (.int .i64 x.keep) := h14.right.right.right.cell 7
              have o8 : (w13.alloc (.cells #[.int .i64 (x.seq + 1), .int .i64 x.gen, .int .i64 x.lsn, .int .i64 x.seg, .int .i64 x.ext, .int .i64 x.flo, .int .i64 x.new, .int .i64 x.keep, .int .i64 x.next, .int .i64 1] 34)).cell? ⟨w2.heap.size, 8, none⟩ = some (.int .i64 x.next) := h14.right.right.right.cell 8
              have o9 : (w13.alloc (.cells #[.int .i64 (x.seq + 1), .int .i64 x.gen, .int .i64 x.lsn, .int .i64 x.seg, .int .i64 x.ext, .int .i64 x.flo, .int .i64 x.new, .int .i64 x.keep, .int .i64 x.next, .int .i64 1] 34)).cell? ⟨w2.heap.size, 9, none⟩ = some (.int .i64 x.cur) := h14.right.right.right.cell 9
              have r0 : (w13.alloc (.cells #[.int .i64 (x.seq + 1), .int .i64 x.gen, .int .i64 x.lsn, .int .i64 x.seg, .int .i64 x.ext, .int .i64 x.flo, .int .i64 x.new, .int .i64 x.keep, .int .i64 x.next, .int .i64 1] 34)).cell? ⟨bz, 0, none⟩ = some (.int .i64 g.seq) := h14.right.right.cell 0
              have r1 : (w13.alloc (.cells #[.int .i64 (x.seq + 1), .int .i64 x.gen, .int .i64 x.lsn, .int .i64 x.seg, .int .i64 x.ext, .int .i64 x.flo, .int .i64 x.new, .int .i64 x.keep, .int .i64 x.next, .int .i64 1] 34)).cell? ⟨bz, 1, none⟩ = some (.int .i64 g.gen) := h14.right.right.cell 1
              have r2 : (w13.alloc (.cells #[.int .i64 (x.seq + 1), .int .i64 x.gen, .int .i64 x.lsn, .int .i64 x.seg, .int .i64 x.ext, .int .i64 x.flo, .int .i64 x.new, .int .i64 x.keep, .int .i64 x.next, .int .i64 1] 34)).cell? ⟨bz, 2, none⟩ = some (.int .i64 g.lsn) := h14.right.right.cell 2
              have r3 : (w13.alloc (.cells #[.int .i64 (x.seq + 1), .int .i64 x.gen, .int .i64 x.lsn, .int .i64 x.seg, .int .i64 x.ext, .int .i64 x.flo, .int .i64 x.new, .int .i64 x.keep, .int .i64 x.next, .int .i64 1] 34)).cell? ⟨bz, 3, none⟩ = some (.int .i64 g.seg) := h14.right.right.cell 3
              have r4 : (w13.alloc (.cells #[.int .i64 (x.seq + 1), .int .i64 x.gen, .int .i64 x.lsn, .int .i64 x.seg, .int .i64 x.ext, .int .i64 x.flo, .int .i64 x.new, .int .i64 x.keep, .int .i64 x.next, .int .i64 1] 34)).cell? ⟨bz, 4, none⟩ = some (.int .i64 g.ext) := h14.right.right.cell 4
              have r5 : (w13.alloc (.cells #[.int .i64 (x.seq + 1), .int .i64 x.gen, .int .i64 x.lsn, .int .i64 x.seg, .int .i64 x.ext, .int .i64 x.flo, .int .i64 x.new, .int .i64 x.keep, .int .i64 x.next, .int .i64 1] 34)).cell? ⟨bz, 5, none⟩ = some (.int .i64 g.flo) := h14.right.right.cell 5
              have r6 : (w13.alloc (.cells #[.int .i64 (x.seq + 1), .int .i64 x.gen, .int .i64 x.lsn, .int .i64 x.seg, .int .i64 x.ext, .int .i64 x.flo, .int .i64 x.new, .int .i64 x.keep, .int .i64 x.next, .int .i64 1] 34)).cell? ⟨bz, 6, none⟩ = some (.int .i64 g.new) := h14.right.right.cell 6
              have r7 : (w13.alloc (.cells #[.int .i64 (x.seq + 1), .int .i64 x.gen, .int .i64 x.lsn, .int .i64 x.seg, .int .i64 x.ext, .int .i64 x.flo, .int .i64 x.new, .int .i64 x.keep, .int .i64 x.next, .int .i64 1] 34)).cell? ⟨bz, 7, none⟩ = some (.int .i64 g.keep) := h14.right.right.cell 7
              have r8 : (w13.alloc (.cells #[.int .i64 (x.seq + 1), .int .i64 x.gen, .int .i64 x.lsn, .int .i64 x.seg, .int .i64 x.ext, .int .i64 x.flo, .int .i64 x.new, .int .i64 x.keep, .int .i64 x.next, .int .i64 1] 34)).cell? ⟨bz, 8, none⟩ = some (.int .i64 g.next) := h14.right.right.cell 8
              have r9 : (w13.alloc (.cells #[.int .i64 (x.seq + 1), .int .i64 x.gen, .int .i64 x.lsn, .int .i64 x.seg, .int .i64 x.ext, .int .i64 x.flo, .int .i64 x.new, .int .i64 x.keep, .int .i64 x.next, .int .i64 1] 34)).cell? ⟨bz, 9, none⟩ = some (.int .i64 g.cur) := h14.right.right.cell 9
              clear h13 h14 H12
              rw [show g.seq = x.seq + 1 by rw [HG.out, if_pos rfl]; rfl] at r0
              rw [show g.gen = x.gen by rw [HG.out, if_pos rfl]; rfl] at r1
              rw [show g.lsn = x.lsn by rw [HG.out, if_pos rfl]; rfl] at r2
              rw [show g.seg = x.seg by rw [HG.out, if_pos rfl]; rfl] at r3
              rw [show g.ext = x.ext by rw [HG.out, if_pos rfl]; rfl] at r4
              rw [show g.flo = x.flo by rw [HG.out, if_pos rfl]; rfl] at r5
              rw [show g.new = x.new by rw [HG.out, if_pos rfl]; rfl] at r6
              rw [show g.keep = x.keep by rw [HG.out, if_pos rfl]; rfl] at r7
              rw [show g.next = x.next by rw [HG.out, if_pos rfl]; rfl] at r8
              rw [show g.cur = 1 by rw [HG.out, if_pos rfl]; rfl] at r9
              go_wp2_with fail
              refine (awake17_ok E q _ (fun w h => (HQ.out _ w h).1) H14.out).mono ?_
              rintro e w15 ⟨rfl, h15⟩
              go_wp2
              go_ret
              exact ⟨rfl, h15⟩
            · have hcb : (c2 == 0) = false := by rw [beq_eq_false_iff_ne]; exact h0
              have hcm : (c2 != 0) = true := by simp [h0]
              clear HNW hn
              have h14 := (h13.alloc (.cells #[.int .i64 (x.seq + 1), .int .i64 x.gen, .int .i64 x.lsn, .int .i64 x.seg, .int .i64 x.ext, .int .i64 x.flo, .int .i64 x.new, .int .i64 x.keep, .int .i64 x.next, .int .i64 1] 34))
              have H14 := Aside.mk h14.right.right.right.right.right.right.right
              have p0 : (w13.alloc (.cells #[.int .i64 (x.seq + 1), .int .i64 x.gen, .int .i64 x.lsn, .int .i64 x.seg, .int .i64 x.ext, .int .i64 x.flo, .int .i64 x.new, .int .i64 x.keep, .int .i64 x.next, .int .i64 1] 34)).cell? ⟨w13.heap.size, 0, none⟩ = some (.int .i64 (x.seq + 1)) := h14.cell 0
              have p1 : (w13.alloc (.cells #[.int .i64 (x.seq + 1), .int .i64 x.gen, .int .i64 x.lsn, .int .i64 x.seg, .int .i64 x.ext, .int .i64 x.flo, .int .i64 x.new, .int .i64 x.keep, .int .i64 x.next, .int .i64 1] 34)).cell? ⟨w13.heap.size, 1, none⟩ = some (.int .i64 x.gen) := h14.cell 1
              have p2 : (w13.alloc (.cells #[.int .i64 (x.seq + 1), .int .i64 x.gen, .int .i64 x.lsn, .int .i64 x.seg, .int .i64 x.ext, .int .i64 x.flo, .int .i64 x.new, .int .i64 x.keep, .int .i64 x.next, .int .i64 1] 34)).cell? ⟨w13.heap.size, 2, none⟩ = some (.int .i64 x.lsn) := h14.cell 2
              have p3 : (w13.alloc (.cells #[.int .i64 (x.seq + 1), .int .i64 x.gen, .int .i64 x.lsn, .int .i64 x.seg, .int .i64 x.ext, .int .i64 x.flo, .int .i64 x.new, .int .i64 x.keep, .int .i64 x.next, .int .i64 1] 34)).cell? ⟨w13.heap.size, 3, none⟩ = some (.int .i64 x.seg) := h14.cell 3
              have p4 : (w13.alloc (.cells #[.int .i64 (x.seq + 1), .int .i64 x.gen, .int .i64 x.lsn, .int .i64 x.seg, .int .i64 x.ext, .int .i64 x.flo, .int .i64 x.new, .int .i64 x.keep, .int .i64 x.next, .int .i64 1] 34)).cell? ⟨w13.heap.size, 4, none⟩ = some (.int .i64 x.ext) := h14.cell 4
              have p5 : (w13.alloc (.cells #[.int .i64 (x.seq + 1), .int .i64 x.gen, .int .i64 x.lsn, .int .i64 x.seg, .int .i64 x.ext, .int .i64 x.flo, .int .i64 x.new, .int .i64 x.keep, .int .i64 x.next, .int .i64 1] 34)).cell? ⟨w13.heap.size, 5, none⟩ = some (.int .i64 x.flo) := h14.cell 5
              have p6 : (w13.alloc (.cells #[.int .i64 (x.seq + 1), .int .i64 x.gen, .int .i64 x.lsn, .int .i64 x.seg, .int .i64 x.ext, .int .i64 x.flo, .int .i64 x.new, .int .i64 x.keep, .int .i64 x.next, .int .i64 1] 34)).cell? ⟨w13.heap.size, 6, none⟩ = some (.int .i64 x.new) := h14.cell 6
              have p7 : (w13.alloc (.cells #[.int .i64 (x.seq + 1), .int .i64 x.gen, .int .i64 x.lsn, .int .i64 x.seg, .int .i64 x.ext, .int .i64 x.flo, .int .i64 x.new, .int .i64 x.keep, .int .i64 x.next, .int .i64 1] 34)).cell? ⟨w13.heap.size, 7, none⟩ = some (.int .i64 x.keep) := h14.cell 7
              have p8 : (w13.alloc (.cells #[.int .i64 (x.seq + 1), .int .i64 x.gen, .int .i64 x.lsn, .int .i64 x.seg, .int .i64 x.ext, .int .i64 x.flo, .int .i64 x.new, .int .i64 x.keep, .int .i64 x.next, .int .i64 1] 34)).cell? ⟨w13.heap.size, 8, none⟩ = some (.int .i64 x.next) := h14.cell 8
              have p9 : (w13.alloc (.cells #[.int .i64 (x.seq + 1), .int .i64 x.gen, .int .i64 x.lsn, .int .i64 x.seg, .int .i64 x.ext, .int .i64 x.flo, .int .i64 x.new, .int .i64 x.keep, .int .i64 x.next, .int .i64 1] 34)).cell? ⟨w13.heap.size, 9, none⟩ = some (.int .i64 1) := h14.cell 9
              have o0 : (w13.alloc (.cells #[.int .i64 (x.seq + 1), .int .i64 x.gen, .int .i64 x.lsn, .int .i64 x.seg, .int .i64 x.ext, .int .i64 x.flo, .int .i64 x.new, .int .i64 x.keep, .int .i64 x.next, .int .i64 1] 34)).cell? ⟨w2.heap.size, 0, none⟩ = some (.int .i64 x.seq) := h14.right.right.right.cell 0
              have o1 : (w13.alloc (.cells #[.int .i64 (x.seq + 1), .int .i64 x.gen, .int .i64 x.lsn, .int .i64 x.seg, .int .i64 x.ext, .int .i64 x.flo, .int .i64 x.new, .int .i64 x.keep, .int .i64 x.next, .int .i64 1] 34)).cell? ⟨w2.heap.size, 1, none⟩ = some (.int .i64 x.gen) := h14.right.right.right.cell 1
              have o2 : (w13.alloc (.cells #[.int .i64 (x.seq + 1), .int .i64 x.gen, .int .i64 x.lsn, .int .i64 x.seg, .int .i64 x.ext, .int .i64 x.flo, .int .i64 x.new, .int .i64 x.keep, .int .i64 x.next, .int .i64 1] 34)).cell? ⟨w2.heap.size, 2, none⟩ = some (.int .i64 x.lsn) := h14.right.right.right.cell 2
              have o3 : (w13.alloc (.cells #[.int .i64 (x.seq + 1), .int .i64 x.gen, .int .i64 x.lsn, .int .i64 x.seg, .int .i64 x.ext, .int .i64 x.flo, .int .i64 x.new, .int .i64 x.keep, .int .i64 x.next, .int .i64 1] 34)).cell? ⟨w2.heap.size, 3, none⟩ = some (.int .i64 x.seg) := h14.right.right.right.cell 3
              have o4 : (w13.alloc (.cells #[.int .i64 (x.seq + 1), .int .i64 x.gen, .int .i64 x.lsn, .int .i64 x.seg, .int .i64 x.ext, .int .i64 x.flo, .int .i64 x.new, .int .i64 x.keep, .int .i64 x.next, .int .i64 1] 34)).cell? ⟨w2.heap.size, 4, none⟩ = some (.int .i64 x.ext) := h14.right.right.right.cell 4
              have o5 : (w13.alloc (.cells #[.int .i64 (x.seq + 1), .int .i64 x.gen, .int .i64 x.lsn, .int .i64 x.seg, .int .i64 x.ext, .int .i64 x.flo, .int .i64 x.new, .int .i64 x.keep, .int .i64 x.next, .int .i64 1] 34)).cell? ⟨w2.heap.size, 5, none⟩ = some (.int .i64 x.flo) := h14.right.right.right.cell 5
              have o6 : (w13.alloc (.cells #[.int .i64 (x.seq + 1), .int .i64 x.gen, .int .i64 x.lsn, .int .i64 x.seg, .int .i64 x.ext, .int .i64 x.flo, .int .i64 x.new, .int .i64 x.keep, .int .i64 x.next, .int .i64 1] 34)).cell? ⟨w2.heap.size, 6, none⟩ = some (.int .i64 x.new) := h14.right.right.right.cell 6
              have o7 : (w13.alloc (.cells #[.int .i64 (x.seq + 1), .int .i64 x.gen, .int .i64 x.lsn, .int .i64 x.seg, .int .i64 x.ext, .int .i64 x.flo, .int .i64 x.new, .int .i64 x.keep, .int .i64 x.next, .int .i64 1] 34)).cell? ⟨w2.heap.size, 7, none⟩ = some (.int .i64 x.keep) := h14.right.right.right.cell 7
              have o8 : (w13.alloc (.cells #[.int .i64 (x.seq + 1), .int .i64 x.gen, .int .i64 x.lsn, .int .i64 x.seg, .int .i64 x.ext, .int .i64 x.flo, .int .i64 x.new, .int .i64 x.keep, .int .i64 x.next, .int .i64 1] 34)).cell? ⟨w2.heap.size, 8, none⟩ = some (.int .i64 x.next) := h14.right.right.right.cell 8
              have o9 : (w13.alloc (.cells #[.int .i64 (x.seq + 1), .int .i64 x.gen, .int .i64 x.lsn, .int .i64 x.seg, .int .i64 x.ext, .int .i64 x.flo, .int .i64 x.new, .int .i64 x.keep, .int .i64 x.next, .int .i64 1] 34)).cell? ⟨w2.heap.size, 9, none⟩ = some (.int .i64 x.cur) := h14.right.right.right.cell 9
              have r0 : (w13.alloc (.cells #[.int .i64 (x.seq + 1), .int .i64 x.gen, .int .i64 x.lsn, .int .i64 x.seg, .int .i64 x.ext, .int .i64 x.flo, .int .i64 x.new, .int .i64 x.keep, .int .i64 x.next, .int .i64 1] 34)).cell? ⟨bz, 0, none⟩ = some (.int .i64 g.seq) := h14.right.right.cell 0
              have r1 : (w13.alloc (.cells #[.int .i64 (x.seq + 1), .int .i64 x.gen, .int .i64 x.lsn, .int .i64 x.seg, .int .i64 x.ext, .int .i64 x.flo, .int .i64 x.new, .int .i64 x.keep, .int .i64 x.next, .int .i64 1] 34)).cell? ⟨bz, 1, none⟩ = some (.int .i64 g.gen) := h14.right.right.cell 1
              have r2 : (w13.alloc (.cells #[.int .i64 (x.seq + 1), .int .i64 x.gen, .int .i64 x.lsn, .int .i64 x.seg, .int .i64 x.ext, .int .i64 x.flo, .int .i64 x.new, .int .i64 x.keep, .int .i64 x.next, .int .i64 1] 34)).cell? ⟨bz, 2, none⟩ = some (.int .i64 g.lsn) := h14.right.right.cell 2
              have r3 : (w13.alloc (.cells #[.int .i64 (x.seq + 1), .int .i64 x.gen, .int .i64 x.lsn, .int .i64 x.seg, .int .i64 x.ext, .int .i64 x.flo, .int .i64 x.new, .int .i64 x.keep, .int .i64 x.next, .int .i64 1] 34)).cell? ⟨bz, 3, none⟩ = some (.int .i64 g.seg) := h14.right.right.cell 3
              have r4 : (w13.alloc (.cells #[.int .i64 (x.seq + 1), .int .i64 x.gen, .int .i64 x.lsn, .int .i64 x.seg, .int .i64 x.ext, .int .i64 x.flo, .int .i64 x.new, .int .i64 x.keep, .int .i64 x.next, .int .i64 1] 34)).cell? ⟨bz, 4, none⟩ = some (.int .i64 g.ext) := h14.right.right.cell 4
              have r5 : (w13.alloc (.cells #[.int .i64 (x.seq + 1), .int .i64 x.gen, .int .i64 x.lsn, .int .i64 x.seg, .int .i64 x.ext, .int .i64 x.flo, .int .i64 x.new, .int .i64 x.keep, .int .i64 x.next, .int .i64 1] 34)).cell? ⟨bz, 5, none⟩ = some (.int .i64 g.flo) := h14.right.right.cell 5
              have r6 : (w13.alloc (.cells #[.int .i64 (x.seq + 1), .int .i64 x.gen, .int .i64 x.lsn, .int .i64 x.seg, .int .i64 x.ext, .int .i64 x.flo, .int .i64 x.new, .int .i64 x.keep, .int .i64 x.next, .int .i64 1] 34)).cell? ⟨bz, 6, none⟩ = some (.int .i64 g.new) := h14.right.right.cell 6
              have r7 : (w13.alloc (.cells #[.int .i64 (x.seq + 1), .int .i64 x.gen, .int .i64 x.lsn, .int .i64 x.seg, .int .i64 x.ext, .int .i64 x.flo, .int .i64 x.new, .int .i64 x.keep, .int .i64 x.next, .int .i64 1] 34)).cell? ⟨bz, 7, none⟩ = some (.int .i64 g.keep) := h14.right.right.cell 7
              have r8 : (w13.alloc (.cells #[.int .i64 (x.seq + 1), .int .i64 x.gen, .int .i64 x.lsn, .int .i64 x.seg, .int .i64 x.ext, .int .i64 x.flo, .int .i64 x.new, .int .i64 x.keep, .int .i64 x.next, .int .i64 1] 34)).cell? ⟨bz, 8, none⟩ = some (.int .i64 g.next) := h14.right.right.cell 8
              have r9 : (w13.alloc (.cells #[.int .i64 (x.seq + 1), .int .i64 x.gen, .int .i64 x.lsn, .int .i64 x.seg, .int .i64 x.ext, .int .i64 x.flo, .int .i64 x.new, .int .i64 x.keep, .int .i64 x.next, .int .i64 1] 34)).cell? ⟨bz, 9, none⟩ = some (.int .i64 g.cur) := h14.right.right.cell 9
              clear h13 h14 H12
              go_wp2_with fail
              refine (awake17_ok E q _ (fun w h => (HQ.out _ w h).1) H14.out).mono ?_
              rintro e w15 ⟨rfl, h15⟩
              go_wp2
              go_ret
              exact ⟨rfl, h15⟩
  · have HREF := Aside.mk (first_refused hok)
    have HSV : Aside (saveP (Dk.new 2) a = ((zeroA, 1), Dk.new 2)) := ⟨by unfold saveP; rw [if_neg hok]⟩
    rw [HSV.out] at h2 ⊢
    dsimp only at h2 ⊢
    rw [show zeroA.val = .agg #[.int .i64 0, .int .i64 0, .int .i64 0, .int .i64 0, .int .i64 0, .int .i64 0, .int .i64 0, .int .i64 0, .int .i64 0, .int .i64 0] from rfl]
    have H2 : Aside (Sat E (w2.alloc (.cells #[.int .i64 0, .int .i64 0, .int .i64 0, .int .i64 0, .int .i64 0, .int .i64 0, .int .i64 0, .int .i64 0, .int .i64 0, .int .i64 0] 34)) (HP.pt w.heap.size (.cells #[.int .i64 a.seq, .int .i64 a.gen, .int .i64 a.lsn, .int .i64 a.seg, .int .i64 a.ext, .int .i64 a.flo, .int .i64 a.new, .int .i64 a.keep, .int .i64 a.next, .int .i64 a.cur] 34) * q)) := ⟨(h2.right.alloc _).right⟩
    have r1 : (loadVar 34 ⟨w.heap.size, 0, none⟩).run Tryd.prog (w2.alloc (.cells #[.int .i64 0, .int .i64 0, .int .i64 0, .int .i64 0, .int .i64 0, .int .i64 0, .int .i64 0, .int .i64 0, .int .i64 0, .int .i64 0] 34)) = .ok (.agg #[.int .i64 a.seq, .int .i64 a.gen, .int .i64 a.lsn, .int .i64 a.seg, .int .i64 a.ext, .int .i64 a.flo, .int .i64 a.new, .int .i64 a.keep, .int .i64 a.next, .int .i64 a.cur]) (w2.alloc (.cells #[.int .i64 0, .int .i64 0, .int .i64 0, .int .i64 0, .int .i64 0, .int .i64 0, .int .i64 0, .int .i64 0, .int .i64 0, .int .i64 0] 34)) := run_loadAgg agAnch (cs := i8s a.l) rfl (Sat.ptCells (off := 0) H2.out rfl)
    clear h2 H1 hok HSV
    go_wp2_with (refine wpList_load_run rfl rfl rfl r1 ?_)
    refine (refenc_ok E _ a _ H2.out).mono ?_
    intro e w3 h3
    obtain ⟨v, he, h5⟩ := refenc_code h3
    subst he
    clear h3
    have h3 := h5
    clear h5
    have k0 := h3.cell 0
    simp only [List.getElem?_toArray, List.getElem?_cons_zero, List.getElem?_cons_succ] at k0
    have H3 := Aside.mk h3
    clear h3 H2 r1
    obtain ⟨cb, hcb⟩ : ∃ cb, cb = canA a := ⟨_, rfl⟩
    rw [← hcb] at HREF ⊢
    clear hcb
    cases cb with
    | false =>
      rw [show (if false = true then (0 : Int) else 1) = 1 from rfl]
      go_wp2_with fail
      refine (awake17_ok E q _ (fun w h => (HQ.out _ w h).1) H3.out.right).mono ?_
      rintro e w4 ⟨rfl, h4⟩
      go_wp2
      go_ret
      exact ⟨rfl, h4⟩
    | true =>
      rw [show (if true = true then (0 : Int) else 1) = 0 from rfl]
      by_cases h0 : a.seq = 0
      · rw [h0] at k0
        go_wp2_with fail
        refine (awake17_ok E q _ (fun w h => (HQ.out _ w h).1) H3.out.right).mono ?_
        rintro e w4 ⟨rfl, h4⟩
        go_wp2
        go_ret
        exact ⟨rfl, h4⟩
      · have hge : 4611686018427387904 ≤ a.seq := by
          rcases HREF.out with h | h | h
          · cases h
          · exact absurd h h0
          · exact h
        go_wp2_with fail
        refine (awake17_ok E q _ (fun w h => (HQ.out _ w h).1) H3.out.right).mono ?_
        rintro e w4 ⟨rfl, h4⟩
        go_wp2
        go_ret
        exact ⟨rfl, h4⟩
end Go.Proofs.YtanlgadijndmaaaDoor
/- The listed table: what the condition gives a walk; the door's own heap meets it. -/
namespace Go.Proofs.YtanlgadijndmaaaDoor
open Go.ChangeShapes Go.WideShapes Go.ChangeAt Go.WideMaps Go.WideElems Go.RowKit HP
set_option linter.unusedVariables false

def laidAll : List (String × DataW Unit) := [("dryrot/crc.quarter", Rows.laid_dryrot_crc_quarter)]
theorem gQuarter : Tryd.prog.globalNamed "dryrot/crc.quarter" = some 0 := by kernel_rfl
theorem tQuarter : (Tryd.prog.globals[0]?).map (·.type) = some 248 := by kernel_rfl
theorem door_met (os : Os) (args : Array Value) : laidMetH Tryd.prog laidAll ((World.doorLaid Tryd.prog 400 os).forCall (fun _ _ => 0) ⟨#[], args, []⟩).memory :=
  laidMetH_of_parts3 (fuel := 8) (laidMet_of_run' 8 (by kernel_rfl) (by kernel_rfl)) (by kernel_rfl) (by kernel_rfl)
theorem quarter_of_laid {W : World} (h : laidMetH Tryd.prog laidAll W) : Quarter W := by
  rw [MakeChecks.laidMetH_plain _ _ _ (by kernel_rfl)] at h
  obtain ⟨ps, ⟨g0, t0, cs0, f0, p0, q0, hg0, ht0, hv0, hd0, _, _⟩, _, _⟩ := h
  obtain rfl := Option.some.inj (gQuarter.symm.trans hg0)
  obtain rfl := Option.some.inj (tQuarter.symm.trans ht0)
  obtain ⟨xs, m1, rfl, hx1, hlen, hn3, hel⟩ := DataW.trod_array Tryd.underlying248 hd0
  have c3 : Tryd.prog.cellsOf 210 = 1 := by kernel_rfl
  simp only [Prod.mk.injEq, DataW.agg.injEq, Rows.laid_dryrot_crc_quarter] at hx1
  intro i hi
  have hi' := hel i hi
  rw [c3, Nat.mul_one] at hi'
  have hxl : i < xs.length := by omega
  rw [List.getElem?_eq_getElem hxl] at hi'
  obtain ⟨k, e1, e2, _⟩ := DataW.trod_int Tryd.underlying210 hi'
  have e3 : (xs.map (·.1))[i]? = some (DataW.lit (.int .u32 k)) := by
    rw [List.getElem?_map, List.getElem?_eq_getElem hxl]
    simp [e2]
  rw [← hx1.1] at e3
  have hk : k = quarterN i := by
    match i, hi with
    | 0, _ => simpa [quarterN] using e3.symm
    | 1, _ => simpa [quarterN] using e3.symm
    | 2, _ => simpa [quarterN] using e3.symm
    | 3, _ => simpa [quarterN] using e3.symm
  have e4 := World.var?_cell hg0 hv0 i
  have e5 : cs0.toList[i]? = some (.int .u32 k) := by
    have := congrArg (fun l => l[0]?) e1
    simpa [List.getElem?_take] using this
  rw [Array.getElem?_toList, hk] at e5
  rw [← e5, ← e4]
end Go.Proofs.YtanlgadijndmaaaDoor
/- What the laws' cards share. -/
namespace Go.Proofs.YtanlgadijndmaaaDoor
open Go.ChangeShapes Go.WideShapes Go.ChangeAt Go.RowKit HP
set_option linter.unusedVariables false

theorem old_carry {E : Env} {W w : World} (h : Sat E w (HP.old W)) : ∀ k, k < W.heap.size → w.heap[k]? = W.heap[k]? := fun k hk => Sat.old_block (p := HP.emp) (by rw [HP.mul_emp]; exact h) k hk
theorem quarter_old {E : Env} {W w : World} (hQ : Quarter W) (h : Sat E w (HP.old W)) : Quarter w := fun i hi => by
  rw [World.cell?_of_block (w := W) (old_carry h _ (World.block_lt_of_cell? W _ (hQ i hi)))]
  exact hQ i hi
theorem trodAll_five {H : Type} {enc : TypeId × Value → H} {P : Program} {w : World} {base : Nat} {spare : Nat → Bool} {held : Bool} {t t' t'' t3 t4 : TypeId} {args : Array Value} {ds : List (DataW H)} {ps : List MemPlace} (h : DataW.TrodAll enc P w base spare held [t, t', t'', t3, t4] args.toList ds ps) :
    ∃ v v' v'' v3 v4 d d' d'' d3 d4 p p' p'' p3 p4, args = #[v, v', v'', v3, v4] ∧ ds = [d, d', d'', d3, d4] ∧ ps = p ++ p' ++ p'' ++ p3 ++ p4 ∧ DataW.Trod enc P w base spare held t v d p ∧ DataW.Trod enc P w base spare held t' v' d' p' ∧ DataW.Trod enc P w base spare held t'' v'' d'' p'' ∧ DataW.Trod enc P w base spare held t3 v3 d3 p3 ∧ DataW.Trod enc P w base spare held t4 v4 d4 p4 := by
  obtain ⟨v, vs, d, ds', p, q, hargs, rfl, rfl, hd, hrest⟩ := trodAll_cons h
  obtain ⟨v', vs', d', ds'', p', q', rfl, rfl, rfl, hd', hrest'⟩ := trodAll_cons hrest
  obtain ⟨v'', vs'', d'', ds''', p'', q'', rfl, rfl, rfl, hd'', hrest''⟩ := trodAll_cons hrest'
  obtain ⟨v3, vs3, d3, ds3, p3, q3, rfl, rfl, rfl, hd3, hrest3⟩ := trodAll_cons hrest''
  obtain ⟨v4, vs4, d4, ds4, p4, q4, rfl, rfl, rfl, hd4, hrest4⟩ := trodAll_cons hrest3
  obtain ⟨rfl, rfl, rfl⟩ := trodAll_nil hrest4
  exact ⟨v, v', v'', v3, v4, d, d', d'', d3, d4, p, p', p'', p3, p4, by cases args; simp_all, rfl, by simp, hd, hd', hd'', hd3, hd4⟩
theorem rdB_at : (rdSl (rdInt .u8)).At Tryd.prog 52 := rdSl_at (n := 1) Tryd.underlying52 (by kernel_rfl) (rdInt_at Tryd.underlying5)
end Go.Proofs.YtanlgadijndmaaaDoor
/- An anchor as an argument. -/
namespace Go.Proofs.YtanlgadijndmaaaDoor
open Go.ChangeShapes Go.WideShapes Go.ChangeAt Go.RowKit HP
set_option linter.unusedVariables false

def rdAnch : Rd Anch := rdMap (rdPair (rdInt .i64) (rdPair (rdInt .i64) (rdPair (rdInt .i64) (rdPair (rdInt .i64) (rdPair (rdInt .i64) (rdPair (rdInt .i64) (rdPair (rdInt .i64) (rdPair (rdInt .i64) (rdPair (rdInt .i64) (rdPair (rdInt .i64) rdEnd)))))))))) (fun x => (⟨x.1, x.2.1, x.2.2.1, x.2.2.2.1, x.2.2.2.2.1, x.2.2.2.2.2.1, x.2.2.2.2.2.2.1, x.2.2.2.2.2.2.2.1, x.2.2.2.2.2.2.2.2.1, x.2.2.2.2.2.2.2.2.2.1⟩ : Anch)) (fun s => (s.seq, s.gen, s.lsn, s.seg, s.ext, s.flo, s.new, s.keep, s.next, s.cur, ())) (fun a => rfl)
theorem rdAnch_at : rdAnch.At Tryd.prog 34 :=
  rdStruct_at Tryd.underlying34 (total := 1 + (1 + (1 + (1 + (1 + (1 + (1 + (1 + (1 + (1 + 0)))))))))) (by kernel_rfl) (rdPair_fs rfl (by kernel_rfl) (rdInt_at Tryd.underlying3) (rdPair_fs rfl (by kernel_rfl) (rdInt_at Tryd.underlying3) (rdPair_fs rfl (by kernel_rfl) (rdInt_at Tryd.underlying3) (rdPair_fs rfl (by kernel_rfl) (rdInt_at Tryd.underlying3) (rdPair_fs rfl (by kernel_rfl) (rdInt_at Tryd.underlying3) (rdPair_fs rfl (by kernel_rfl) (rdInt_at Tryd.underlying3) (rdPair_fs rfl (by kernel_rfl) (rdInt_at Tryd.underlying3) (rdPair_fs rfl (by kernel_rfl) (rdInt_at Tryd.underlying3) (rdPair_fs rfl (by kernel_rfl) (rdInt_at Tryd.underlying3) (rdPair_fs rfl (by kernel_rfl) (rdInt_at Tryd.underlying3) (rdEnd_fs _))))))))))) _ _ _
theorem anch_ok {W : World} {a : Anch} (h : rdAnch.ok W a) : a.Ok := by
  obtain ⟨h0, h1, h2, h3, h4, h5, h6, h7, h8, h9, -⟩ := h
  exact ⟨wf64_of h0, wf64_of h1, wf64_of h2, wf64_of h3, wf64_of h4, wf64_of h5, wf64_of h6, wf64_of h7, wf64_of h8, wf64_of h9⟩
end Go.Proofs.YtanlgadijndmaaaDoor
/- A slice of integers as an argument. -/
namespace Go.Proofs.YtanlgadijndmaaaDoor
open Go.ChangeShapes Go.WideShapes Go.ChangeAt Go.RowKit HP
set_option linter.unusedVariables false

theorem rdIs_at : (rdSl (rdInt .i64)).At Tryd.prog 47 := rdSl_at (n := 1) Tryd.underlying47 (by kernel_rfl) (rdInt_at Tryd.underlying3)
theorem is_ok {W : World} {s : Sl Int} (h : (rdSl (rdInt .i64)).ok W s) : s.l.length ≤ s.cap ∧ s.cap ≤ maxLen ∧ Cells W s.A (s.l.map (Value.int .i64)) ∧ ∀ x ∈ s.l, wf64 x := ⟨h.1, h.2.1, by
  have h3 := h.2.2.1
  have e : s.l.flatMap (rdInt .i64).cells = s.l.map (Value.int .i64) := by
    induction s.l with
    | nil => rfl
    | cons x l ih => rw [List.flatMap_cons, ih]; rfl
  rw [e] at h3; exact h3, fun x hx => wf64_of (h.2.2.2 x hx)⟩
end Go.Proofs.YtanlgadijndmaaaDoor
