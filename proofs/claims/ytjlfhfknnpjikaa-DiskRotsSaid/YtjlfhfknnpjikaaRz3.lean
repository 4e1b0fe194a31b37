/- Texts of one claim, one behind the other: DiskZ2, DiskZ3, DiskWr, DiskS, DiskSy, MapK, LeftZ, Law, Rd. -/
import Derived.Test.YtjlfhfknnpjikaaRz2
import Derived.DeepKeys5
import Derived.Test.YtjlfhfknnpjikaaRows
import Derived.WalkKit
import Derived.ProofKit
import Derived.OpenShut
import Derived.Below
import Derived.Carry
import Derived.Deep.Slices
import Derived.Deep.Fields
import Derived.ChangeSame
/- A file that grows: what the map and the files become. -/
namespace Go.Proofs.Ytjlfhfknnpjikaa
open Go.RowKit HP
set_option linter.unusedSimpArgs false
set_option linter.unusedVariables false

theorem new_cel {E : Env} {q : HP} {d m : Nat} {A : Dk} {es : Array MapEntry} {clock : Nat} {fs : List Fil} (hv : View A es clock fs) {name : ByteArray} {v : Value} (hn : name.size ≤ maxLen) (hnm : namedB name = true) (hfree : 0 < A.free)
    (hcase : (lk A.files name = none ∧ v = .slice none 0 0) ∨ ∃ (j : Nat) (f : Fil), fs[j]? = some f ∧ f.name = name ∧ f.val = v ∧ lk A.files name = some f.cs) :
    ∃ (ptrs : List Value) (R : HP) (es' : Value → Array MapEntry) (clock' : Nat), ptrs.length = (A.at name).length ∧ (∀ w, Sat E w R → Sat E w q) ∧
      (∀ w, Sat E w (HP.dk d A.room A.fuse m es clock fs * q) → Sat E w (HP.row 76 1 v (A.at name).length ptrs * (HP.dsk d A.room A.fuse m * (HP.pt m (.map es clock) * R)))) ∧
      (∀ (w : World) (v' : Value), w.heap[m]? = some (.map es clock) → (Instr.mapUpdate 67 (.map (some m)) (.string name) v').run Try.prog w = .ok () (ChangeMaps.setBlock w m (.map (es' v') clock'))) ∧
      (∀ (w : World) (v' : Value) (b0 : Nat) (c' : Cel), c'.Fine → Sat E w (HP.cel b0 c' * (HP.row 76 1 v' ((A.at name).length + 1) (ptrs ++ [.pointer (some ⟨b0, 0, none⟩)]) * (HP.dsk d A.room A.fuse m * (HP.pt m (.map (es' v') clock') * R)))) →
        Sat E w (HP.disk d (A.set name (A.at name ++ [c'])) * q)) := by
  have hfr : (sizeF A.files : Int) + 1 ≤ A.room := by unfold Dk.free at hfree; omega
  rcases hcase with ⟨hlk, rfl⟩ | ⟨j, f, hj, hname, hfv, hlk⟩
  · have hat : A.at name = [] := by simp [Dk.at, hlk]
    rw [hat]
    refine ⟨[], HP.all (fs.map HP.fil) * q, fun v' => es.push ⟨.string name, v', clock⟩, clock + 1, rfl, fun w h => h.right, fun w h => ?_, fun w v' hb => ?_, fun w v' b0 c' hc h => ?_⟩
    · exact (dk_parts h).row_nil _ _ _
    · have hno : ∀ x ∈ es.toList, x.key ≠ .string name := fun x hx hk => by
        have h1 : (x.key, x.val) ∈ es.toList.map (fun x => (x.key, x.val)) := List.mem_map.2 ⟨x, hx, rfl⟩
        rw [hv.map.2.1] at h1
        obtain ⟨f, hf, hfe⟩ := List.mem_map.1 h1
        simp only [Prod.mk.injEq] at hfe
        have h2 := lkF_none (s := name) (by rw [hv.same, hlk]) f hf
        rw [hk] at hfe
        injection hfe.1 with h3
        exact h2 h3
      rcases update_str (P := Try.prog) (t := 67) Try.underlying9 Try.underlying67 hb hv.map.1 name hn v' with ⟨-, h⟩ | ⟨j, x, hj, hx, -⟩
      · exact h
      · exact absurd hx (hno x (List.mem_of_getElem? hj))
    · have hv' := hv.push (v := v') (cels := [(b0, c')]) hnm hlk (by simp) (fun x hx => by simp only [List.mem_singleton] at hx; subst hx; exact hc) (by simpa using hfr) hn
      refine Sat.disk_close (m := m) hv' ?_
      show Sat E w (HP.dk d A.room A.fuse m _ _ (fs ++ [⟨name, v', [(b0, c')]⟩]) * q)
      unfold HP.dk
      rw [List.map_append, HP.all_append]
      have e1 : HP.all ([(⟨name, v', [(b0, c')]⟩ : Fil)].map HP.fil) = HP.row 76 1 v' 1 [.pointer (some ⟨b0, 0, none⟩)] * HP.cel b0 c' := by
        simp only [List.map_cons, List.map_nil, HP.all, HP.mul_emp]
        unfold HP.fil
        simp only [List.map_cons, List.map_nil, HP.all, HP.mul_emp, Fil.ptrs, List.length_cons, List.length_nil]
      rw [e1]
      exact h.perm (by simp only [List.length_nil, Nat.zero_add, List.nil_append]; ac_rfl)
  · subst hname
    have hat : A.at f.name = f.cs := by simp [Dk.at, hlk]
    have hlen : (A.at f.name).length = f.cels.length := by rw [hat, Fil.cs, List.length_map]
    have hjl : j < fs.length := (List.getElem?_eq_some_iff.1 hj).1
    rw [hlen]
    refine ⟨f.ptrs, HP.all (f.cels.map fun x => HP.cel x.1 x.2) * (HP.all ((fs.map HP.fil).eraseIdx j) * q), fun v' => es.modify j fun e => { e with key := .string f.name, val := v' }, clock, by simp [Fil.ptrs], fun w h => h.right.right, fun w h => ?_, fun w v' hb => ?_, fun w v' b0 c' hc h => ?_⟩
    · have h1 := dk_parts h
      have h2 : Sat E w (HP.all (fs.map HP.fil) * (HP.dsk d A.room A.fuse m * (HP.pt m (.map es clock) * q))) := h1.perm (by ac_rfl)
      rw [all_take (l := fs.map HP.fil) (j := j) (p := HP.fil f) (by rw [List.getElem?_map, hj]; rfl)] at h2
      rw [← hfv]
      exact h2.perm (by unfold HP.fil; ac_rfl)
    · rcases update_str (P := Try.prog) (t := 67) Try.underlying9 Try.underlying67 hb hv.map.1 f.name hn v' with ⟨hno, -⟩ | ⟨i, x, hi, hx, h⟩
      · have h1 : (Value.string f.name, f.val) ∈ fs.map (fun f => (Value.string f.name, f.val)) := List.mem_map.2 ⟨f, List.mem_of_getElem? hj, rfl⟩
        rw [← hv.map.2.1] at h1
        obtain ⟨x, hx, hxe⟩ := List.mem_map.1 h1
        simp only [Prod.mk.injEq] at hxe
        exact absurd hxe.1 (hno x hx)
      · have h6 := congrArg (fun l => l[i]?) hv.map.2.1
        simp only [List.getElem?_map, hi, Option.map_some] at h6
        cases hfi : fs[i]? with
        | none => rw [hfi] at h6; cases h6
        | some g =>
          rw [hfi] at h6
          simp only [Option.map_some, Option.some.injEq, Prod.mk.injEq] at h6
          have hgn : g.name = f.name := by
            have := h6.1.symm.trans hx
            injection this
          have hil : i < fs.length := (List.getElem?_eq_some_iff.1 hfi).1
          have hij : i = j := by
            have hnd := hv.map.2.2.1
            have e1 : (fs.map (·.name))[i]? = some f.name := by rw [List.getElem?_map, hfi, ← hgn]; rfl
            have e2 : (fs.map (·.name))[j]? = some f.name := by rw [List.getElem?_map, hj]; rfl
            exact (List.getElem?_inj (by simpa using hil) hnd).1 (e1.trans e2.symm)
          subst hij
          exact h
    · have hv' := hv.set hj (v := v') (cels := f.cels ++ [(b0, c')]) (by simp) (fun x hx => by
        rcases List.mem_append.1 hx with hx | hx
        · exact hv.cel_fine (List.mem_of_getElem? hj) hx
        · simp only [List.mem_singleton] at hx; subst hx; exact hc) (by rw [List.length_append]; simp only [List.length_cons, List.length_nil]; omega)
      rw [List.map_append] at hv'
      rw [hat]
      refine Sat.disk_close (m := m) hv' ?_
      show Sat E w (HP.dk d A.room A.fuse m _ _ (fs.set j ⟨f.name, v', f.cels ++ [(b0, c')]⟩) * q)
      unfold HP.dk
      rw [all_take (l := (fs.set j (⟨f.name, v', f.cels ++ [(b0, c')]⟩ : Fil)).map HP.fil) (j := j) (p := HP.fil ⟨f.name, v', f.cels ++ [(b0, c')]⟩) (by rw [List.getElem?_map, List.getElem?_set]; simp [hjl])]
      rw [List.map_set, List.eraseIdx_set_eq]
      have e1 : HP.fil ⟨f.name, v', f.cels ++ [(b0, c')]⟩ = HP.row 76 1 v' (f.cels.length + 1) (f.ptrs ++ [.pointer (some ⟨b0, 0, none⟩)]) * (HP.all (f.cels.map fun x => HP.cel x.1 x.2) * HP.cel b0 c') := by
        unfold HP.fil
        simp only [List.map_append, HP.all_append, List.map_cons, List.map_nil, HP.all, HP.mul_emp, Fil.ptrs, List.length_append, List.length_cons, List.length_nil]
      rw [e1]
      exact h.perm (by ac_rfl)
end Go.Proofs.Ytjlfhfknnpjikaa
/- (*Disk).Write: a file grows by an extent. -/
namespace Go.Proofs.Ytjlfhfknnpjikaa
open Go.RowKit HP
set_option linter.unusedSimpArgs false
set_option linter.unusedVariables false

theorem slPC : SlTy Try.prog 74 76 (.pointer none) 1 8 := ⟨Try.underlying74, by kernel_rfl, rfl, by decide⟩
theorem zero_cel : Cel.zero.vals.toArray = Try.zeroCells80 := by kernel_rfl
theorem wpList_value {P : Program} {ops : Array Oper} {rest : List Oper} {o : Oper} {a : Act} {w : World} {Q : Exit → Act → World → Prop} {v : Value} (hg : o.guard = none) (hr : (execOp a.eval o).run P w = .ok (.value v) w)
    (h : wpList P ops Q rest (a.put o.dst v) w) : wpList P ops Q (o :: rest) a w := by
  refine wpList_plain hg fun K' hK' => ?_
  unfold Oper.wp
  rw [hr]
  exact hK' _ _ h
theorem eval_at_len {l : List Value} {p : Value} {g o n c : Nat} {E : Env} {q : HP} {w : World} {e : TypeId} (hl : l.length = n) (h : Sat E w (HP.row e 1 (.slice (some ⟨g, o, none⟩) (n + 1) c) (n + 1) (l ++ [p]) * q)) : w.cell? ⟨g, o + n, none⟩ = some p :=
  h.row_cell n p (by rw [List.getElem?_append_right (by omega)]; simp [hl])
set_option maxHeartbeats 4000000 in
set_option maxRecDepth 100000 in
theorem disk_write_new (E : Env) (q : HP) (d : Nat) (A : Dk) (name : ByteArray) (ab : Addr) (l : List Int) (c : Nat) (w : World) (hn : name.size ≤ maxLen) (hl : l.length = 128) (hq : ∀ w, Sat E w q → Cells w (some ab) (b8s l))
    (hnm : namedB name = true) (hgo : A.goes = true) (hfr : 0 < A.free) (hw : Sat E w (HP.disk d A * q)) :
    Calls Try.prog 11 #[.pointer (some ⟨d, 0, none⟩), .string name, .int .i64 ((A.at name).length : Int), .slice (some ab) 128 c] w fun e w' => e = .returned (.int .i64 0) ∧ Sat E w' (HP.disk d (A.burnt.set name (A.at name ++ [Cel.zero.wrote l])) * q) := by
  obtain ⟨m, es, clock, fs, hv, hd⟩ := hw.disk_open
  have hsm := at_small hv.fine name
  have hfu := hv.fine.fuse
  have htt := hv.total
  have hszl := hv.size_le
  have hrm := hv.fine.room
  clear hw
  go_enter Try.func11, Try.ntmps11
  go_wp2_with fail
  refine (disk_none E _ d _ _ m w (dk_parts hd)).mono ?_
  rintro e w1 ⟨rfl, rfl⟩
  have c1 := (dk_parts hd).cell 1
  simp only [List.getElem?_toArray, List.getElem?_cons_zero, List.getElem?_cons_succ] at c1
  obtain ⟨v, B, cc, hvB, hlook, -, hcase⟩ := find_file hv hd name hn
  obtain ⟨ptrs, R, es', clock', hpl, hRq, hopen, hmu, hclose⟩ := new_cel (E := E) (q := q) (d := d) (m := m) hv.burnt hn hnm hfr hcase
  rw [hvB] at hlook hopen
  have HH := Aside.mk (And.intro htt (And.intro hszl (And.intro hrm (And.intro hpl (And.intro hRq (And.intro hopen (And.intro hmu hclose)))))))
  clear htt hszl hrm hpl hRq hopen hmu hclose hcase hvB
  have hnn : ∃ nn, nn = (A.at name).length := ⟨_, rfl⟩
  obtain ⟨nn, hnn⟩ := hnn
  have hat : (A.burnt.at name).length = nn := hnn.symm
  rw [hat, ← hnn] at HH
  rw [← hnn] at hlook hsm ⊢
  clear hat hnn
  go_wp2_with fail
  refine (named_ok E _ name w1 hd).mono ?_
  rintro e w2 ⟨rfl, hd2⟩
  clear hd c1 hlook
  rw [hnm]
  go_wp2_with fail
  refine (disk_burn E _ d _ _ m w2 hfu.2 (dk_parts hd2)).mono ?_
  rintro e w3 ⟨rfl, hd3⟩
  have hgo' : (burnI A.fuse).2 = true := hgo
  rw [hgo']
  clear hd2 hgo hgo' hfu
  go_wp2_with fail
  refine (disk_free E q d A.burnt.room A.burnt.fuse m es clock fs w3 hv.map HH.out.2.2.1 (by rw [HH.out.1]; have := HH.out.2.1; omega) (burnt_dsk hd3)).mono ?_
  rintro e w4 ⟨rfl, hd4⟩
  have hr : 0 < A.burnt.room - (total fs : Int) := by
    have := HH.out.1
    unfold Dk.free at hfr
    rw [this]; exact hfr
  generalize A.burnt.room - (total fs : Int) = fr at *
  clear hd3 hfr
  have h5 := ((HH.out.2.2.2.2.2.1 w4 hd4).alloc (.cells Try.zeroCells80 80)).s2
  have hdc := (dk_parts hd4).alloc (.cells Try.zeroCells80 80)
  have HQ := Aside.mk hq
  have HD4 := Aside.mk h5
  have HV := Aside.mk hv
  clear hd4 hq h5 hv hdc hnm
  have hb0 : (w4.alloc (.cells Try.zeroCells80 80)).heap.size = w4.heap.size + 1 := by
    show (w4.heap.push _).size = _
    exact Array.size_push _
  go_wp2_with (at_builtin; refine wpList_append_new (n := nn) (m := 1) (c := 1) slPC rfl rfl rfl (by rw [hb0]; rfl) HD4.out rfl rfl (by unfold maxLen; omega) (by omega) (fun v5 w5 hw5 => ?_); obtain ⟨B5, c5, rfl, -, -⟩ := hw5.row_slice; have g5 := (hw5.s3).cell 1; simp only [List.getElem?_toArray, List.getElem?_cons_zero, List.getElem?_cons_succ] at g5; have HW5 := Aside.mk hw5; have hmr := HH.out.2.2.2.2.2.2.1 w5 (.slice B5 (nn + 1) c5) hw5.s4.get; clear hw5)
  go_wp2_with (at_mapUpdate; refine wpList_mapUpdate_run rfl rfl rfl rfl rfl hmr ?_)
  have hd6 : Sat E (ChangeMaps.setBlock w5 m (.map (es' (.slice B5 (nn + 1) c5)) clock')) (HP.cel w4.heap.size Cel.zero * (HP.row 76 1 (.slice B5 (nn + 1) c5) (nn + 1) (ptrs ++ [.pointer (some ⟨w4.heap.size, 0, none⟩)]) * (HP.dsk d A.burnt.room A.burnt.fuse m * (HP.pt m (.map (es' (.slice B5 (nn + 1) c5)) clock') * R)))) := by
    have h1 := Sat.setBlk (HW5.out.s4) (.map (es' (.slice B5 (nn + 1) c5)) clock')
    unfold HP.cel
    rw [zero_cel]
    exact h1.perm (by ac_rfl)
  have hclose := HH.out.2.2.2.2.2.2.2
  have hpl := HH.out.2.2.2.1
  have hRq := HH.out.2.2.2.2.1
  generalize ChangeMaps.setBlock w5 m (.map (es' (.slice B5 (nn + 1) c5)) clock') = w6 at *
  generalize w4.heap.size = bk at *
  have hrow := hd6.s2
  obtain ⟨pa, hpa, -⟩ := hrow.row_cells.at_ nn (by simp [hpl])
  obtain ⟨g, o, rfl⟩ : ∃ g o, pa = ⟨g, o, none⟩ := slice_addr hrow.row_cells hpa (k := nn) (by simp [hpl])
  subst hpa
  have hcx := eval_at_len hpl hrow
  have HS : Aside (∀ w', Sat E w' (HP.cel bk (Cel.zero.wrote l) * (HP.row 76 1 (.slice (some ⟨g, o, none⟩) (nn + 1) c5) (nn + 1) (ptrs ++ [.pointer (some ⟨bk, 0, none⟩)]) * (HP.dsk d A.burnt.room A.burnt.fuse m * (HP.pt m (.map (es' (.slice (some ⟨g, o, none⟩) (nn + 1) c5)) clock') * R)))) → Sat E w' (HP.disk d (A.burnt.set name (A.at name ++ [Cel.zero.wrote l])) * q)) := ⟨fun w' h =>
    hclose w' _ bk _ (Cel.wrote_fine Cel.zero_fine hl) h⟩
  have hab : Cells w6.drew (some ab) (b8s l) := HQ.out _ (hRq _ hrow.right.right.right.right).drew
  have har := fun a w => run_arrayImg a 128 c (by omega) w
  obtain ⟨gb, ob, rfl⟩ : ∃ g o, ab = ⟨g, o, none⟩ := slice_addr hab rfl (k := 0) (by simp [b8s_length, hl])
  have hld := run_loadAgg agImg (by rw [b8s_length, hl]) hab
  have hxf : Cel.zero.Fine := Cel.zero_fine
  obtain ⟨w7, hs1, hd7⟩ := cel_store (off := 0) (l := l) (c' := { Cel.zero with read := l }) hd6.drew hxf hl (by omega) (set_read hxf hl)
  have hxf5 : ({ Cel.zero with read := l } : Cel).Fine := ⟨hl, hxf.2.1, hxf.2.2.1, hxf.2.2.2⟩
  obtain ⟨w8, hs2, hd8⟩ := cel_store (off := 384) (l := l) (c' := { Cel.zero with read := l, written := l }) hd7 hxf5 hl (by omega) (set_written hxf5 hl)
  have hxf6 : ({ Cel.zero with read := l, written := l } : Cel).Fine := ⟨hl, hxf.2.1, hxf.2.2.1, hl⟩
  have c6 := cel_waits hd8 hxf6
  have f6 := cel_thaw hd8 512
  have HD := Aside.mk (HS.out _ (cel_set_waits hd8 hxf6 true))
  obtain ⟨img, himg⟩ : ∃ img, img = (b8s l).toArray := ⟨_, rfl⟩
  rw [← himg] at hld hs1 hs2
  have hk1 : (nn : Int) < (nn : Int) + 1 := by omega
  have hk2 : (0 : Int) ≤ (nn : Int) := by omega
  clear himg hl hclose hpl hRq hrow hab HS hxf hxf5 hxf6 hd6 hd7 hd8 HW5 HD4 hmr g5 HH HQ HV hb0 hr
  refine region_R [20, 23, 26] [] (fun _ => True) #[false, false, false, false, false, false, false, false, false, false, false, false, false, false, false, false, false, false, false, false, false, false, false, false, false, false, false] (by kernel_rfl) rfl rfl ?_
  refine wpR_rd 0 #[true, false, false, false, false, false, false, false, false, false, false, false, false, false, false, false, false, false, false, false, false, false, false, false, false, false, false] rfl onlyN_noPanic (by kernel_rfl) (fun K hK => ?_); (go_simp; try go_bits); refine hK _ ?_; clear hK K
  refine wpR_rd 1 #[true, true, false, false, false, false, false, false, false, false, false, false, false, false, false, false, false, false, false, false, false, false, false, false, false, false, false] rfl onlyN_noPanic (by kernel_rfl) (fun K hK => ?_); (go_simp; try go_bits); refine hK _ ?_; clear hK K
  refine wpR_rd 2 #[true, true, true, false, false, false, false, false, false, false, false, false, false, false, false, false, false, false, false, false, false, false, false, false, false, false, false] rfl onlyN_noPanic (by kernel_rfl) (fun K hK => ?_); (go_simp; try go_bits); refine hK _ ?_; clear hK K
  refine wpR_rd 3 #[true, true, true, true, false, false, false, false, false, false, false, false, false, false, false, false, false, false, false, false, false, false, false, false, false, false, false] rfl onlyN_noPanic (by kernel_rfl) (fun K hK => ?_); (go_simp; try go_bits); refine hK _ ?_; clear hK K
  refine wpR_rd 4 #[true, true, true, true, true, false, false, false, false, false, false, false, false, false, false, false, false, false, false, false, false, false, false, false, false, false, false] rfl onlyN_noPanic (by kernel_rfl) (fun K hK => ?_); (go_simp; try go_bits); refine hK _ ?_; clear hK K
  refine wpR_rd 5 #[true, true, true, true, true, true, false, false, false, false, false, false, false, false, false, false, false, false, false, false, false, false, false, false, false, false, false] rfl onlyN_noPanic (by kernel_rfl) (fun K hK => ?_); (go_simp; try go_bits); refine hK _ ?_; clear hK K
  refine wpR_rd 6 #[true, true, true, true, true, true, true, false, false, false, false, false, false, false, false, false, false, false, false, false, false, false, false, false, false, false, false] rfl onlyN_noPanic (by kernel_rfl) (fun K hK => ?_); (go_simp; try go_bits); refine hK _ ?_; clear hK K
  refine wpR_rd 7 #[true, true, true, true, true, true, true, true, false, false, false, false, false, false, false, false, false, false, false, false, false, false, false, false, false, false, false] rfl onlyN_noPanic (by kernel_rfl) (fun K hK => ?_); (go_simp; try go_bits); refine hK _ ?_; clear hK K
  refine wpR_rd 8 #[true, true, true, true, true, true, true, true, true, false, false, false, false, false, false, false, false, false, false, false, false, false, false, false, false, false, false] rfl onlyN_noPanic (by kernel_rfl) (fun K hK => ?_); (go_simp; try go_bits); refine hK _ ?_; clear hK K
  refine wpR_rd 9 #[true, true, true, true, true, true, true, true, true, true, false, false, false, false, false, false, false, false, false, false, false, false, false, false, false, false, false] rfl onlyN_noPanic (by kernel_rfl) (fun K hK => ?_); (go_simp; try go_bits); refine hK _ ?_; clear hK K
  refine wpR_rd 10 #[true, true, true, true, true, true, true, true, true, true, true, false, false, false, false, false, false, false, false, false, false, false, false, false, false, false, false] rfl onlyN_noPanic (by kernel_rfl) (fun K hK => ?_); (go_simp; try go_bits); refine hK _ ?_; clear hK K
  refine wpR_rd 11 #[true, true, true, true, true, true, true, true, true, true, true, true, false, false, false, false, false, false, false, false, false, false, false, false, false, false, false] rfl onlyN_noPanic (by kernel_rfl) (fun K hK => ?_); (go_simp; try go_bits); refine hK _ ?_; clear hK K
  refine wpR_rd 12 #[true, true, true, true, true, true, true, true, true, true, true, true, true, false, false, false, false, false, false, false, false, false, false, false, false, false, false] rfl onlyN_noPanic (by kernel_rfl) (fun K hK => ?_); (go_simp; try go_bits); refine hK _ ?_; clear hK K
  refine wpR_rd 13 #[true, true, true, true, true, true, true, true, true, true, true, true, true, true, false, false, false, false, false, false, false, false, false, false, false, false, false] rfl onlyN_noPanic (by kernel_rfl) (fun K hK => ?_); (go_simp; try go_bits); refine hK _ ?_; clear hK K
  refine wpR_read (i := 14) #[true, true, true, true, true, true, true, true, true, true, true, true, true, true, true, false, false, false, false, false, false, false, false, false, false, false, false] rfl onlyN_noPanic (by kernel_rfl) (.inl ⟨rfl, exec_load rfl rfl hld⟩) ?_
  simp only [Act.put, List.setIfInBounds_toArray, List.set_cons_zero, List.set_cons_succ]
  refine wpR_rd 15 #[true, true, true, true, true, true, true, true, true, true, true, true, true, true, true, true, false, false, false, false, false, false, false, false, false, false, false] rfl onlyN_noPanic (by kernel_rfl) (fun K hK => ?_); (go_simp; try go_bits); refine hK _ ?_; clear hK K
  refine wpR_rd 16 #[true, true, true, true, true, true, true, true, true, true, true, true, true, true, true, true, true, false, false, false, false, false, false, false, false, false, false] rfl onlyN_noPanic (by kernel_rfl) (fun K hK => ?_); (go_simp; try go_bits); refine hK _ ?_; clear hK K
  refine wpR_read (i := 17) #[true, true, true, true, true, true, true, true, true, true, true, true, true, true, true, true, true, true, false, false, false, false, false, false, false, false, false] rfl onlyN_noPanic (by kernel_rfl) (.inl ⟨rfl, exec_load rfl rfl hld⟩) ?_
  simp only [Act.put, List.setIfInBounds_toArray, List.set_cons_zero, List.set_cons_succ]
  refine wpR_rd 18 #[true, true, true, true, true, true, true, true, true, true, true, true, true, true, true, true, true, true, true, false, false, false, false, false, false, false, false] rfl onlyN_noPanic (by kernel_rfl) (fun K hK => ?_); (go_simp; try go_bits); refine hK _ ?_; clear hK K
  refine wpR_rd 19 #[true, true, true, true, true, true, true, true, true, true, true, true, true, true, true, true, true, true, true, true, false, false, false, false, false, false, false] rfl onlyN_noPanic (by kernel_rfl) (fun K hK => ?_); (go_simp; try go_bits); refine hK _ ?_; clear hK K
  refine wpR_eff #[true, true, true, true, true, true, true, true, true, true, true, true, true, true, true, true, true, true, true, true, true, false, false, false, false, false, false] (i := 20) rfl (by kernel_rfl) (fun K hK => ?_)
  refine Eq.mpr (if_pos (by rfl)) ?_; refine wp_store_run rfl rfl rfl rfl hs1 ?_; refine hK _ _ ?_; clear hK K
  refine wpR_rd 21 #[true, true, true, true, true, true, true, true, true, true, true, true, true, true, true, true, true, true, true, true, true, true, false, false, false, false, false] rfl onlyN_noPanic (by kernel_rfl) (fun K hK => ?_); (go_simp; try go_bits); refine hK _ ?_; clear hK K
  refine wpR_rd 22 #[true, true, true, true, true, true, true, true, true, true, true, true, true, true, true, true, true, true, true, true, true, true, true, false, false, false, false] rfl onlyN_noPanic (by kernel_rfl) (fun K hK => ?_); (go_simp; try go_bits); refine hK _ ?_; clear hK K
  refine wpR_eff #[true, true, true, true, true, true, true, true, true, true, true, true, true, true, true, true, true, true, true, true, true, true, true, true, false, false, false] (i := 23) rfl (by kernel_rfl) (fun K hK => ?_)
  refine Eq.mpr (if_pos (by rfl)) ?_; refine wp_store_run rfl rfl rfl rfl hs2 ?_; refine hK _ _ ?_; clear hK K
  refine wpR_rd 24 #[true, true, true, true, true, true, true, true, true, true, true, true, true, true, true, true, true, true, true, true, true, true, true, true, true, false, false] rfl onlyN_noPanic (by kernel_rfl) (fun K hK => ?_); (go_simp; try go_bits); refine hK _ ?_; clear hK K
  refine wpR_rd 25 #[true, true, true, true, true, true, true, true, true, true, true, true, true, true, true, true, true, true, true, true, true, true, true, true, true, true, false] rfl onlyN_noPanic (by kernel_rfl) (fun K hK => ?_); (go_simp; try go_bits); refine hK _ ?_; clear hK K
  refine wpR_eff #[true, true, true, true, true, true, true, true, true, true, true, true, true, true, true, true, true, true, true, true, true, true, true, true, true, true, true] (i := 26) rfl (by kernel_rfl) (fun K hK => ?_)
  go_simp; refine hK _ _ ?_; clear hK K
  refine wpR_done (by kernel_rfl) ?_ _
  simp only [OnlyN]
  go_wp2
  go_ret
  exact ⟨rfl, HD.out⟩
end Go.Proofs.Ytjlfhfknnpjikaa
/- (*Disk).Write, whole. -/
namespace Go.Proofs.Ytjlfhfknnpjikaa
open Go.RowKit HP
set_option linter.unusedSimpArgs false
set_option linter.unusedVariables false

theorem some_of_cells {w : World} {A : Option Addr} {cs : List Value} (h : Cells w A cs) (hl : 0 < cs.length) : ∃ a, A = some a := by
  obtain ⟨a, ha, _⟩ := h.at_ 0 hl
  exact ⟨a, ha⟩
theorem disk_write (E : Env) (q : HP) (d : Nat) (A : Dk) (name : ByteArray) (i : Int) (Ab : Option Addr) (l : List Int) (n c : Nat) (w : World) (hn : name.size ≤ maxLen) (hl : l.length = n) (hs : n ≤ maxLen) (hq : ∀ w, Sat E w q → Cells w Ab (b8s l)) (hw : Sat E w (HP.disk d A * q)) :
    Calls Try.prog 11 #[.pointer (some ⟨d, 0, none⟩), .string name, .int .i64 i, .slice Ab n c] w fun e w' => e = .returned (.int .i64 (A.write name i l).1) ∧ Sat E w' (HP.disk d (A.write name i l).2 * q) := by
  by_cases hbad : namedB name = false ∨ l.length ≠ 128 ∨ i < 0 ∨ (A.at name).length < i
  · have e : A.write name i l = (1, A) := by unfold Dk.write; rw [if_pos hbad]
    rw [e]
    exact disk_write_arg E q d A name i Ab l n c w hn hl hs hbad hw
  · have hnm : namedB name = true := by
      cases h : namedB name with
      | true => rfl
      | false => exact absurd (.inl h) hbad
    have hl8 : l.length = 128 := Decidable.byContradiction fun h => hbad (.inr (.inl h))
    have hi0 : 0 ≤ i := Int.not_lt.1 fun h => hbad (.inr (.inr (.inl h)))
    have hi1 : i ≤ (A.at name).length := Int.not_lt.1 fun h => hbad (.inr (.inr (.inr h)))
    obtain rfl : n = 128 := by omega
    cases hgo : A.goes with
    | false =>
      have e : A.write name i l = (31, A.burnt) := by unfold Dk.write; rw [if_neg hbad, if_pos hgo]
      rw [e]
      exact disk_write_dead E q d A name i Ab c w hn hnm hi0 hi1 hgo hw
    | true =>
      have hgo' : ¬ A.goes = false := by rw [hgo]; simp
      obtain ⟨ab, rfl⟩ := some_of_cells (hq w hw.right) (by rw [b8s_length]; omega)
      by_cases hie : i = (A.at name).length
      · by_cases hfr : A.free ≤ 0
        · have e : A.write name i l = (4, A.burnt) := by unfold Dk.write; rw [if_neg hbad, if_neg hgo', if_pos ⟨hie, hfr⟩]
          rw [e, hie]
          exact disk_write_full E q d A name _ c w hn hnm hgo hfr hw
        · have e : A.write name i l = (0, A.burnt.set name (A.at name ++ [Cel.zero.wrote l])) := by unfold Dk.write; rw [if_neg hbad, if_neg hgo', if_neg (fun h => hfr h.2), if_pos hie]
          rw [e, hie]
          exact disk_write_new E q d A name ab l c w hn hl8 hq hnm hgo (by omega) hw
      · obtain ⟨k, rfl⟩ := Int.eq_ofNat_of_zero_le hi0
        have e : A.write name k l = (0, A.burnt.set name ((A.at name).modify k fun c => c.wrote l)) := by
          unfold Dk.write; rw [if_neg hbad, if_neg hgo', if_neg (fun h => hie h.1), if_neg hie, Int.toNat_natCast]
        rw [e]
        exact disk_write_old E q d A name k ab l c w hn hl8 hq hnm (by omega) hgo hw
end Go.Proofs.Ytjlfhfknnpjikaa
/- An extent built of four images; a file's extents all at once. -/
namespace Go.Proofs.Ytjlfhfknnpjikaa
open Go.RowKit HP
set_option linter.unusedSimpArgs false
set_option linter.unusedVariables false

theorem foldl_splice (off : Nat) : ∀ (xs : List Value) (i : Nat) (cur : Array Value), off + i + xs.length ≤ cur.size →
    ((xs.zipIdx i).foldl (fun cs (p : Value × Nat) => cs.setIfInBounds (off + p.2) p.1) cur).toList = cur.toList.take (off + i) ++ xs ++ cur.toList.drop (off + i + xs.length)
  | [], i, cur, _ => by simp
  | x :: xs, i, cur, h => by
    have hl : off + i + (xs.length + 1) ≤ cur.toList.length := by simpa [Nat.add_assoc] using h
    rw [List.zipIdx_cons, List.foldl_cons, foldl_splice off xs (i + 1) _ (by simp at h ⊢; omega)]
    have e := list_seg_step cur.toList (off + i) x xs hl
    simpa [Array.toList_setIfInBounds, Nat.add_assoc] using e
theorem fill_one {place : Nat → Option (Nat × Nat)} {cur : Array Value} {i off size : Nat} {v : Value} {rest : List (Nat × Value)} (hp : place i = some (off, size)) (hs : v.cells.size = size) (hf : off + size ≤ cur.size) :
    Instr.fill place cur ((i, v) :: rest) = Instr.fill place (splice cur.toList off v.cells.toList).toArray rest := by
  subst hs
  have h1 : ¬ (v.cells.size ≠ v.cells.size || decide (off + v.cells.size > cur.size)) = true := by simp; omega
  simp only [Instr.fill, hp]
  rw [if_neg h1]
  congr 1
  apply Array.toList_inj.1
  have h2 := foldl_splice off v.cells.toList 0 cur (by simpa using hf)
  simp only [Nat.add_zero] at h2
  rw [← Array.toList_zipIdx, Array.foldl_toList] at h2
  exact h2

def places : Array (Nat × Nat) := #[(0, 128), (128, 128), (256, 128), (384, 128), (512, 1)]
theorem build_places (w : World) (qs : Array (Nat × Value)) : (Instr.build 80 qs).run Try.prog w = (match Instr.fill (places[·]?) Try.zeroCells80 qs.toList with
    | some cells => Result.ok (Value.agg cells) w
    | x => (stuck "build: no such field, or a part of the wrong size" : Sem Value).run Try.prog w) := by
  have hz : (zeroValue 80).run Try.prog w = .ok (.agg Try.zeroCells80) w := by kernel_rfl
  have hu := Try.underlying80
  unfold Instr.build
  rw [Sem.run_bind, hz, Result.andThen_ok]
  simp only [Sem.run_bind, run_underlying hu, Result.andThen_ok]
  refine Eq.trans (congrArg (fun r => Result.andThen r _) (a₂ := .ok places w) (by kernel_rfl)) ?_
  rw [Result.andThen_ok]
  show Sem.run Try.prog (match Instr.fill (fun x => places[x]?) Try.zeroCells80 qs.toList with
        | some cells => pure (Value.agg cells)
        | x => stuck "build: no such field, or a part of the wrong size") w = _
  cases Instr.fill (fun x => places[x]?) Try.zeroCells80 qs.toList <;> rfl
theorem build_all {a b c e : List Int} {x : Bool} (ha : a.length = 128) (hb : b.length = 128) (hc : c.length = 128) (he : e.length = 128) (w : World) :
    (Instr.build 80 #[(0, .agg (b8s a).toArray), (1, .agg (b8s b).toArray), (2, .agg (b8s c).toArray), (3, .agg (b8s e).toArray), (4, .bool x)]).run Try.prog w = .ok (.agg (⟨a, b, c, e, x⟩ : Cel).vals.toArray) w := by
  rw [build_places]
  have hz : z128.length = 128 := rfl
  have L : ∀ (c : Cel), c.Fine → c.vals.toArray.size = 513 := fun c h => by rw [List.size_toArray, Cel.vals_length h]
  have S : ∀ (l : List Int), l.length = 128 → (Value.agg (b8s l).toArray).cells.size = 128 := fun l h => by
    show (b8s l).toArray.size = 128
    rw [List.size_toArray, b8s_length, h]
  have f0 : (Cel.zero).Fine := Cel.zero_fine
  have f1 : (⟨a, z128, z128, z128, false⟩ : Cel).Fine := ⟨ha, rfl, rfl, rfl⟩
  have f2 : (⟨a, b, z128, z128, false⟩ : Cel).Fine := ⟨ha, hb, rfl, rfl⟩
  have f3 : (⟨a, b, c, z128, false⟩ : Cel).Fine := ⟨ha, hb, hc, rfl⟩
  have f4 : (⟨a, b, c, e, false⟩ : Cel).Fine := ⟨ha, hb, hc, he⟩
  have e0 : Try.zeroCells80 = Cel.zero.vals.toArray := zero_cel.symm
  have s3 : splice (⟨a, b, z128, z128, false⟩ : Cel).vals 256 (b8s c) = (⟨a, b, c, z128, false⟩ : Cel).vals := by
    have := splice_mid (b8s a ++ b8s b) (b8s z128) (b8s z128 ++ [.bool false]) (b8s c) (off := 256) (by simp [b8s_length, ha, hb]) (by simp [b8s_length, hc, hz])
    simpa [Cel.vals] using this
  have s5 : splice (⟨a, b, c, e, false⟩ : Cel).vals 512 [.bool x] = (⟨a, b, c, e, x⟩ : Cel).vals := by
    have := splice_mid (b8s a ++ (b8s b ++ (b8s c ++ b8s e))) [.bool false] [] [.bool x] (off := 512) (by simp [b8s_length, ha, hb, hc, he]) rfl
    simpa [Cel.vals] using this
  rw [e0]
  rw [fill_one (off := 0) (size := 128) rfl (S a ha) (by rw [L _ f0]; omega)]
  rw [show splice (Cel.zero.vals.toArray).toList 0 (Value.agg (b8s a).toArray).cells.toList = (⟨a, z128, z128, z128, false⟩ : Cel).vals from set_read (c := Cel.zero) f0 ha]
  rw [fill_one (off := 128) (size := 128) rfl (S b hb) (by rw [L _ f1]; omega)]
  rw [show splice ((⟨a, z128, z128, z128, false⟩ : Cel).vals.toArray).toList 128 (Value.agg (b8s b).toArray).cells.toList = (⟨a, b, z128, z128, false⟩ : Cel).vals from set_durable (c := ⟨a, z128, z128, z128, false⟩) f1 hb]
  rw [fill_one (off := 256) (size := 128) rfl (S c hc) (by rw [L _ f2]; omega)]
  rw [show splice ((⟨a, b, z128, z128, false⟩ : Cel).vals.toArray).toList 256 (Value.agg (b8s c).toArray).cells.toList = (⟨a, b, c, z128, false⟩ : Cel).vals from s3]
  rw [fill_one (off := 384) (size := 128) rfl (S e he) (by rw [L _ f3]; omega)]
  rw [show splice ((⟨a, b, c, z128, false⟩ : Cel).vals.toArray).toList 384 (Value.agg (b8s e).toArray).cells.toList = (⟨a, b, c, e, false⟩ : Cel).vals from set_written (c := ⟨a, b, c, z128, false⟩) f3 he]
  rw [fill_one (off := 512) (size := 1) rfl (show (Value.bool x).cells.size = 1 from rfl) (by rw [L _ f4]; omega)]
  rw [show splice ((⟨a, b, c, e, false⟩ : Cel).vals.toArray).toList 512 (Value.bool x).cells.toList = (⟨a, b, c, e, x⟩ : Cel).vals from s5]
  rfl

/-- A whole extent stored. -/
theorem cel_store_all {E : Env} {q : HP} {w : World} {b : Nat} {c : Cel} (h : Sat E w (HP.cel b c * q)) (hf : c.Fine) {c' : Cel} (hf' : c'.Fine) :
    ∃ w', (storeVar 80 ⟨b, 0, none⟩ (.agg c'.vals.toArray)).run Try.prog w = .ok () w' ∧ Sat E w' (HP.cel b c' * q) := by
  have h1 : Sat E w (HP.pt b (.cells c.vals.toArray 80) * q) := h
  have hr := run_storeAgg agCel (g := b) (off := 0) (cs := c'.vals) h1.get (Cel.vals_length hf') (by simp [Cel.vals_length hf]) (Cel.vals_one c')
  refine ⟨_, hr, ?_⟩
  have h2 := h1.splice (splice c.vals 0 c'.vals)
  have e : splice c.vals 0 c'.vals = c'.vals := by
    unfold splice
    rw [List.drop_eq_nil_of_le (by rw [Cel.vals_length hf, Cel.vals_length hf']; omega)]
    simp
  rw [show splice c.vals.toArray.toList 0 c'.vals = c'.vals from e]
  rw [e] at h2
  exact h2

def HP.cels (l : List (Nat × Cel)) : HP := HP.all (l.map fun x => HP.cel x.1 x.2)
def celPtrs (l : List (Nat × Cel)) : List Value := l.map fun x => .pointer (some ⟨x.1, 0, none⟩)
/-- A file taken out of a disk. -/
theorem take_file {E : Env} {q : HP} {w : World} {d m : Nat} {A : Dk} {es : Array MapEntry} {clock : Nat} {fs : List Fil} (hv : View A es clock fs) (hw : Sat E w (HP.dk d A.room A.fuse m es clock fs * q)) {j : Nat} {f : Fil} (hj : fs[j]? = some f) :
    ∃ R : HP, Sat E w (HP.row 76 1 f.val f.cels.length (celPtrs f.cels) * (HP.cels f.cels * R)) ∧
      ∀ (w' : World) (cels' : List (Nat × Cel)), cels'.map (·.1) = f.cels.map (·.1) → (∀ x ∈ cels', x.2.Fine) → Sat E w' (HP.row 76 1 f.val f.cels.length (celPtrs f.cels) * (HP.cels cels' * R)) →
        View (A.set f.name (cels'.map (·.2))) es clock (fs.set j ⟨f.name, f.val, cels'⟩) ∧ Sat E w' (HP.dk d A.room A.fuse m es clock (fs.set j ⟨f.name, f.val, cels'⟩) * q) := by
  have h1 := dk_parts hw
  have h2 : Sat E w (HP.all (fs.map HP.fil) * (HP.dsk d A.room A.fuse m * (HP.pt m (.map es clock) * q))) := h1.perm (by ac_rfl)
  rw [all_take (l := fs.map HP.fil) (j := j) (p := HP.fil f) (by rw [List.getElem?_map, hj]; rfl)] at h2
  refine ⟨HP.all ((fs.map HP.fil).eraseIdx j) * (HP.dsk d A.room A.fuse m * (HP.pt m (.map es clock) * q)), h2.perm (by unfold HP.fil HP.cels Fil.ptrs celPtrs; ac_rfl), fun w' cels' hfst hfine h => ?_⟩
  have hjl : j < fs.length := (List.getElem?_eq_some_iff.1 hj).1
  have hlen : cels'.length = f.cels.length := by simpa using congrArg List.length hfst
  have hne : cels' ≠ [] := by
    intro h0
    have := (hv.fine.named _ (hv.mem (List.mem_of_getElem? hj))).2
    rw [h0] at hlen
    simp only [List.length_nil] at hlen
    have h9 : f.cels = [] := List.eq_nil_of_length_eq_zero hlen.symm
    exact this (by simp [Fil.cs, h9])
  have hv' := hv.set hj (v := f.val) (cels := cels') hne hfine (by have := hv.fine.fits; rw [hlen]; omega)
  have hkv := hv.map.2.1
  have hes : (es.modify j fun e => { e with key := Value.string f.name, val := f.val }) = es := by
    apply Array.toList_inj.1
    rw [Array.toList_modify]
    apply List.ext_getElem?
    intro i
    rw [List.getElem?_modify]
    by_cases hi : j = i
    · subst hi
      have h6 := congrArg (fun l => l[j]?) hkv
      simp only [List.getElem?_map, hj, Option.map_some] at h6
      cases h7 : es.toList[j]? with
      | none => rw [h7] at h6; cases h6
      | some e =>
        rw [h7] at h6
        simp only [Option.map_some, Option.some.injEq, Prod.mk.injEq] at h6
        simp only [if_true, Option.map_some, Option.map_eq_map, ← h6.1, ← h6.2]
    · simp [hi]
  rw [hes] at hv'
  refine ⟨hv', ?_⟩
  unfold HP.dk
  rw [all_take (l := (fs.set j (⟨f.name, f.val, cels'⟩ : Fil)).map HP.fil) (j := j) (p := HP.fil ⟨f.name, f.val, cels'⟩) (by rw [List.getElem?_map, List.getElem?_set]; simp [hjl])]
  rw [List.map_set, List.eraseIdx_set_eq]
  have hp : (⟨f.name, f.val, cels'⟩ : Fil).ptrs = celPtrs f.cels := by
    show cels'.map (fun x => Value.pointer (some ⟨x.1, 0, none⟩)) = _
    unfold celPtrs
    have := congrArg (List.map fun b : Nat => Value.pointer (some ⟨b, 0, none⟩)) hfst
    simpa [List.map_map, Function.comp_def] using this
  have e1 : HP.fil ⟨f.name, f.val, cels'⟩ = HP.row 76 1 f.val f.cels.length (celPtrs f.cels) * HP.cels cels' := by
    unfold HP.fil HP.cels
    rw [hp]
    show HP.row 76 1 f.val cels'.length _ * _ = _
    rw [hlen]
  rw [e1]
  exact h.perm (by ac_rfl)
/-- One of a file's extents. -/
theorem cels_take {E : Env} {q : HP} {w : World} {l : List (Nat × Cel)} (hw : Sat E w (HP.cels l * q)) {k : Nat} {x : Nat × Cel} (hk : l[k]? = some x) :
    ∃ R : HP, Sat E w (HP.cel x.1 x.2 * R) ∧ (∀ w, Sat E w R → Sat E w q) ∧ ∀ (w' : World) (c' : Cel), Sat E w' (HP.cel x.1 c' * R) → Sat E w' (HP.cels (l.set k (x.1, c')) * q) := by
  unfold HP.cels at hw ⊢
  have hkl : k < l.length := (List.getElem?_eq_some_iff.1 hk).1
  rw [all_take (l := l.map fun x => HP.cel x.1 x.2) (j := k) (p := HP.cel x.1 x.2) (by rw [List.getElem?_map, hk]; rfl)] at hw
  refine ⟨_, hw.perm (HP.mul_assoc _ _ _), fun w h => h.right, fun w' c' h => ?_⟩
  rw [all_map_set (fun x : Nat × Cel => HP.cel x.1 x.2) l k (x.1, c') hkl]
  exact h.perm (by ac_rfl)
end Go.Proofs.Ytjlfhfknnpjikaa
/- (*Disk).Sync. -/
namespace Go.Proofs.Ytjlfhfknnpjikaa
open Go.RowKit HP
set_option linter.unusedSimpArgs false
set_option linter.unusedVariables false

theorem Cel.syncd_fine {c : Cel} (h : c.Fine) : c.syncd.Fine := by
  unfold Cel.syncd
  split
  · exact ⟨h.2.2.2, h.2.2.2, h.2.2.2, h.2.2.2⟩
  · exact h
def syncPre (l : List (Nat × Cel)) (k : Nat) : List (Nat × Cel) := (l.take k).map (fun x => (x.1, x.2.syncd)) ++ l.drop k
theorem syncPre_at {l : List (Nat × Cel)} {k : Nat} (h : k < l.length) : (syncPre l k)[k]? = some l[k] := by
  unfold syncPre
  rw [List.getElem?_append_right (by simp; omega)]
  simp [List.length_take, Nat.min_eq_left (Nat.le_of_lt h), List.getElem?_drop, h]
theorem syncPre_next {l : List (Nat × Cel)} {k : Nat} (h : k < l.length) : (syncPre l k).set k ((l[k]).1, (l[k]).2.syncd) = syncPre l (k + 1) := by
  unfold syncPre
  rw [List.set_append_right _ _ (by simp; omega)]
  have e : ((l.take k).map fun x => (x.1, x.2.syncd)).length = k := by simp; omega
  rw [e, Nat.sub_self, List.drop_eq_getElem_cons h, List.set_cons_zero, List.take_succ_eq_append_getElem h, List.map_append]
  simp
theorem syncPre_fst (l : List (Nat × Cel)) (k : Nat) : (syncPre l k).map (·.1) = l.map (·.1) := by
  unfold syncPre
  rw [List.map_append, List.map_map]
  show (l.take k).map (fun x => x.1) ++ (l.drop k).map (fun x => x.1) = _
  rw [← List.map_append, List.take_append_drop]
theorem syncPre_all (l : List (Nat × Cel)) : syncPre l l.length = l.map (fun x => (x.1, x.2.syncd)) := by simp [syncPre]
theorem syncPre_zero (l : List (Nat × Cel)) : syncPre l 0 = l := by simp [syncPre]
set_option maxHeartbeats 2000000 in
set_option maxRecDepth 100000 in
theorem disk_sync (E : Env) (q : HP) (d : Nat) (A : Dk) (name : ByteArray) (w : World) (hn : name.size ≤ maxLen) (hw : Sat E w (HP.disk d A * q)) :
    Calls Try.prog 12 #[.pointer (some ⟨d, 0, none⟩), .string name] w fun e w' => e = .returned (.int .i64 (A.sync name).1) ∧ Sat E w' (HP.disk d (A.sync name).2 * q) := by
  obtain ⟨m, es, clock, fs, hv, hd⟩ := hw.disk_open
  have hsm := at_small hv.fine name
  have hfu := hv.fine.fuse
  have HF : Aside (A.sync name = match lk A.files name with
    | none => (30, A)
    | some l => if A.goes = false then (31, A.burnt) else (0, A.burnt.set name (l.map Cel.syncd))) := ⟨rfl⟩
  clear hw
  go_enter Try.func12, Try.ntmps12
  go_wp2_with fail
  refine (disk_none E _ d _ _ m w (dk_parts hd)).mono ?_
  rintro e w1 ⟨rfl, rfl⟩
  have c1 := (dk_parts hd).cell 1
  simp only [List.getElem?_toArray, List.getElem?_cons_zero, List.getElem?_cons_succ] at c1
  obtain ⟨v, B, cc, hvB, -, hlook, hcase⟩ := find_file hv hd name hn
  rcases hcase with ⟨hlk, -⟩ | ⟨j, f, hj, hname, hfv, hlk⟩
  · rw [hlk] at HF hlook
    have HT : Aside (A.sync name = (30, A) ∧ Sat E w1 (HP.disk d A * q)) := ⟨HF.out, Sat.disk_close hv hd⟩
    clear HF hd hv hlk hvB hfu hsm
    go_wp2
    go_ret
    rw [HT.out.1]
    exact ⟨rfl, HT.out.2⟩
  · rw [hlk] at HF hlook
    subst hname
    have hat : A.at f.name = f.cs := by simp [Dk.at, hlk]
    rw [hat, Fil.cs, List.length_map] at hvB hsm
    have HV := Aside.mk (And.intro hv (And.intro hj (And.intro hfv hvB)))
    rw [hvB] at hlook
    clear hlk hat hv hj hfv hvB
    go_wp2_with fail
    refine (disk_burn E _ d _ _ m w1 hfu.2 (dk_parts hd)).mono ?_
    rintro e w3 ⟨rfl, hd3⟩
    cases hgo : A.goes with
    | false =>
      have hgo' : (burnI A.fuse).2 = false := hgo
      rw [hgo']
      have HT : Aside (A.sync f.name = (31, A.burnt) ∧ Sat E w3 (HP.disk d A.burnt * q)) := ⟨by rw [HF.out]; simp [hgo], Sat.disk_close HV.out.1.burnt (burnt_dsk hd3)⟩
      clear HF hd hd3 HV hgo hgo' hfu hsm hlook c1
      go_wp2
      go_ret
      rw [HT.out.1]
      exact ⟨rfl, HT.out.2⟩
    | true =>
      have hgo' : (burnI A.fuse).2 = true := hgo
      rw [hgo']
      have HS : Aside (A.sync f.name = (0, A.burnt.set f.name (f.cs.map Cel.syncd))) := ⟨by rw [HF.out]; simp [hgo]⟩
      obtain ⟨hv, hj, hfv, hvB⟩ := HV.out
      obtain ⟨R, h4, hclose⟩ := take_file hv.burnt (burnt_dsk hd3) hj
      rw [hfv, hvB] at h4 hclose
      have HFine : Aside (∀ x ∈ f.cels, x.2.Fine) := ⟨fun x hx => hv.cel_fine (List.mem_of_getElem? hj) hx⟩
      have HC := Aside.mk hclose
      have H4 := Aside.mk h4
      clear hclose h4 HF hd hd3 HV hgo hgo' hfu hlook c1 hv hj hfv hvB
      obtain ⟨n, hnn⟩ : ∃ n, n = f.cels.length := ⟨_, rfl⟩
      rw [← hnn] at H4 HC hsm ⊢
      have HN := Aside.mk hnn
      clear hnn
      go_wp2
      go_loopw [29] (fun x wr => ∃ k : Nat, x = .int .i64 k ∧ k ≤ n ∧ Aside (Sat E wr (HP.row 76 1 (.slice B n cc) n (celPtrs f.cels) * (HP.cels (syncPre f.cels k) * R)))) (fun x _ => n - (intOf x).toNat)
      case atStart => exact ⟨0, rfl, Nat.zero_le _, ⟨by rw [syncPre_zero]; exact H4.out⟩⟩
      case round =>
        clear H4
        obtain ⟨k, rfl, hk, HR⟩ := hrel
        by_cases hlt : k < n
        · have hkf : k < f.cels.length := by have := HN.out; omega
          have hrow := HR.out
          obtain ⟨pa, hpa, hcx⟩ := hrow.row_cells.at_ k (by simp [celPtrs, hkf])
          obtain ⟨g, o, rfl⟩ : ∃ g o, pa = ⟨g, o, none⟩ := slice_addr hrow.row_cells hpa (k := k) (by simp [celPtrs, hkf])
          subst hpa
          rw [addr_add] at hcx
          simp only [celPtrs, List.getElem_map] at hcx
          obtain ⟨Rk, h5, -, hback⟩ := cels_take (hrow.s2) (syncPre_at hkf)
          have hxf : (f.cels[k]).2.Fine := HFine.out _ (List.getElem_mem hkf)
          have hnext : Aside (∀ w', Sat E w' (HP.cel (f.cels[k]).1 (f.cels[k]).2.syncd * Rk) → Sat E w' (HP.row 76 1 (.slice (some ⟨g, o, none⟩) n cc) n (celPtrs f.cels) * (HP.cels (syncPre f.cels (k + 1)) * R))) := ⟨fun w' h => by
            have := hback w' _ h
            rw [syncPre_next hkf] at this
            exact this.s2⟩
          generalize f.cels[k] = x at *
          obtain ⟨bk, c⟩ := x
          dsimp only at *
          have cw := cel_waits h5 hxf
          have hk0 : (0 : Int) ≤ (k : Int) := by omega
          have hk1 : (k : Int) < (n : Int) := by omega
          clear HR hrow hback
          cases hcw : c.waits with
          | true =>
            rw [hcw] at cw
            have hld := run_loadAgg agImg (by rw [b8s_length, hxf.2.2.2]) (cel_written h5.drew hxf)
            have hsy : c.syncd = ⟨c.written, c.written, c.written, c.written, false⟩ := by simp [Cel.syncd, hcw]
            have hbd := build_all (x := false) hxf.2.2.2 hxf.2.2.2 hxf.2.2.2 hxf.2.2.2 wr.drew
            obtain ⟨w6, hst, h6⟩ := cel_store_all h5.drew hxf (Cel.syncd_fine hxf)
            rw [hsy] at hst
            have HH := Aside.mk (hnext.out _ h6)
            generalize (b8s c.written).toArray = img at *
            generalize (⟨c.written, c.written, c.written, c.written, false⟩ : Cel).vals.toArray = cv at *
            clear hnext h5 h6 hxf hcw hsy
            go_wp2
            refine region_R [19] [] (fun _ => True) #[false, false, false, false, false, false, false, false, false, false, false, false, false, false, false, false, false, false, false, false] (by kernel_rfl) rfl rfl ?_
            refine wpR_rd 0 #[true, false, false, false, false, false, false, false, false, false, false, false, false, false, false, false, false, false, false, false] rfl onlyN_noPanic (by kernel_rfl) (fun K hK => ?_); (go_simp; try go_bits); refine hK _ ?_; clear hK K
            refine wpR_rd 1 #[true, true, false, false, false, false, false, false, false, false, false, false, false, false, false, false, false, false, false, false] rfl onlyN_noPanic (by kernel_rfl) (fun K hK => ?_); (go_simp; try go_bits); refine hK _ ?_; clear hK K
            refine wpR_rd 2 #[true, true, true, false, false, false, false, false, false, false, false, false, false, false, false, false, false, false, false, false] rfl onlyN_noPanic (by kernel_rfl) (fun K hK => ?_); (go_simp; try go_bits); refine hK _ ?_; clear hK K
            refine wpR_rd 3 #[true, true, true, true, false, false, false, false, false, false, false, false, false, false, false, false, false, false, false, false] rfl onlyN_noPanic (by kernel_rfl) (fun K hK => ?_); (go_simp; try go_bits); refine hK _ ?_; clear hK K
            refine wpR_read (i := 4) #[true, true, true, true, true, false, false, false, false, false, false, false, false, false, false, false, false, false, false, false] rfl onlyN_noPanic (by kernel_rfl) (.inl ⟨rfl, exec_load rfl rfl hld⟩) ?_
            simp only [Act.put, List.setIfInBounds_toArray, List.set_cons_zero, List.set_cons_succ]
            refine wpR_rd 5 #[true, true, true, true, true, true, false, false, false, false, false, false, false, false, false, false, false, false, false, false] rfl onlyN_noPanic (by kernel_rfl) (fun K hK => ?_); (go_simp; try go_bits); refine hK _ ?_; clear hK K
            refine wpR_rd 6 #[true, true, true, true, true, true, true, false, false, false, false, false, false, false, false, false, false, false, false, false] rfl onlyN_noPanic (by kernel_rfl) (fun K hK => ?_); (go_simp; try go_bits); refine hK _ ?_; clear hK K
            refine wpR_rd 7 #[true, true, true, true, true, true, true, true, false, false, false, false, false, false, false, false, false, false, false, false] rfl onlyN_noPanic (by kernel_rfl) (fun K hK => ?_); (go_simp; try go_bits); refine hK _ ?_; clear hK K
            refine wpR_read (i := 8) #[true, true, true, true, true, true, true, true, true, false, false, false, false, false, false, false, false, false, false, false] rfl onlyN_noPanic (by kernel_rfl) (.inl ⟨rfl, exec_load rfl rfl hld⟩) ?_
            simp only [Act.put, List.setIfInBounds_toArray, List.set_cons_zero, List.set_cons_succ]
            refine wpR_rd 9 #[true, true, true, true, true, true, true, true, true, true, false, false, false, false, false, false, false, false, false, false] rfl onlyN_noPanic (by kernel_rfl) (fun K hK => ?_); (go_simp; try go_bits); refine hK _ ?_; clear hK K
            refine wpR_rd 10 #[true, true, true, true, true, true, true, true, true, true, true, false, false, false, false, false, false, false, false, false] rfl onlyN_noPanic (by kernel_rfl) (fun K hK => ?_); (go_simp; try go_bits); refine hK _ ?_; clear hK K
            refine wpR_rd 11 #[true, true, true, true, true, true, true, true, true, true, true, true, false, false, false, false, false, false, false, false] rfl onlyN_noPanic (by kernel_rfl) (fun K hK => ?_); (go_simp; try go_bits); refine hK _ ?_; clear hK K
            refine wpR_read (i := 12) #[true, true, true, true, true, true, true, true, true, true, true, true, true, false, false, false, false, false, false, false] rfl onlyN_noPanic (by kernel_rfl) (.inl ⟨rfl, exec_load rfl rfl hld⟩) ?_
            simp only [Act.put, List.setIfInBounds_toArray, List.set_cons_zero, List.set_cons_succ]
            refine wpR_rd 13 #[true, true, true, true, true, true, true, true, true, true, true, true, true, true, false, false, false, false, false, false] rfl onlyN_noPanic (by kernel_rfl) (fun K hK => ?_); (go_simp; try go_bits); refine hK _ ?_; clear hK K
            refine wpR_rd 14 #[true, true, true, true, true, true, true, true, true, true, true, true, true, true, true, false, false, false, false, false] rfl onlyN_noPanic (by kernel_rfl) (fun K hK => ?_); (go_simp; try go_bits); refine hK _ ?_; clear hK K
            refine wpR_rd 15 #[true, true, true, true, true, true, true, true, true, true, true, true, true, true, true, true, false, false, false, false] rfl onlyN_noPanic (by kernel_rfl) (fun K hK => ?_); (go_simp; try go_bits); refine hK _ ?_; clear hK K
            refine wpR_read (i := 16) #[true, true, true, true, true, true, true, true, true, true, true, true, true, true, true, true, true, false, false, false] rfl onlyN_noPanic (by kernel_rfl) (.inl ⟨rfl, exec_load rfl rfl hld⟩) ?_
            simp only [Act.put, List.setIfInBounds_toArray, List.set_cons_zero, List.set_cons_succ]
            refine wpR_read (i := 17) #[true, true, true, true, true, true, true, true, true, true, true, true, true, true, true, true, true, true, false, false] rfl onlyN_noPanic (by kernel_rfl) (.inl ⟨rfl, exec_build rfl (by simp only [List.map_toArray, List.map_cons, List.map_nil]; exact hbd)⟩) ?_
            simp only [Act.put, List.setIfInBounds_toArray, List.set_cons_zero, List.set_cons_succ]
            refine wpR_rd 18 #[true, true, true, true, true, true, true, true, true, true, true, true, true, true, true, true, true, true, true, false] rfl onlyN_noPanic (by kernel_rfl) (fun K hK => ?_); (go_simp; try go_bits); refine hK _ ?_; clear hK K
            refine wpR_eff #[true, true, true, true, true, true, true, true, true, true, true, true, true, true, true, true, true, true, true, true] (i := 19) rfl (by kernel_rfl) (fun K hK => ?_)
            refine Eq.mpr (if_pos (by rfl)) ?_; refine wp_store_run rfl rfl rfl rfl hst ?_; refine hK _ _ ?_; clear hK K
            refine wpR_done (by kernel_rfl) ?_ _
            simp only [OnlyN]
            go_wp2
            go_roundw
            case rel => exact ⟨k + 1, by go_num, by omega, HH⟩
            case measure => simp [intOf]; omega
          | false =>
            rw [hcw] at cw
            have hsy : c.syncd = c := by simp [Cel.syncd, hcw]
            rw [hsy] at hnext
            have HH := Aside.mk (hnext.out _ h5)
            clear hnext h5 hxf hcw hsy
            go_wp2
            go_roundw
            case rel => exact ⟨k + 1, by go_num, by omega, HH⟩
            case measure => simp [intOf]; omega
        · have hkn : k = f.cels.length := by have := HN.out; omega
          have HT : Aside (A.sync f.name = (0, A.burnt.set f.name (f.cs.map Cel.syncd)) ∧ Sat E wr (HP.disk d (A.burnt.set f.name (f.cs.map Cel.syncd)) * q)) := ⟨HS.out, by
            have h7 := HR.out
            rw [hkn, syncPre_all] at h7
            have h8 := HC.out wr _ (by simp) (fun x hx => by
              obtain ⟨y, hy, rfl⟩ := List.mem_map.1 hx
              exact Cel.syncd_fine (HFine.out y hy)) h7
            have e : (f.cels.map fun x => (x.1, x.2.syncd)).map (·.2) = f.cs.map Cel.syncd := by simp [Fil.cs]
            rw [e] at h8
            exact Sat.disk_close h8.1 h8.2⟩
          clear HR HC HN HS HFine
          go_wp2
          go_ret
          rw [HT.out.1]
          exact ⟨rfl, HT.out.2⟩
end Go.Proofs.Ytjlfhfknnpjikaa
/- Maps with any keys that obey a law: lookup, store. The keys that are extents. -/
namespace Go.Proofs.Ytjlfhfknnpjikaa
open Go.RowKit HP
set_option linter.unusedSimpArgs false
set_option linter.unusedVariables false

section
variable {P : Program} {t k e : TypeId} {w : World} {b : Nat} {es : Array MapEntry} {clock : Nat}
def KeysOk (P : Program) (k : TypeId) (es : Array MapEntry) : Prop := ∀ x ∈ es.toList, ∃ l, keyOf P k x.key = some l
theorem lookup_law (K : WideMaps.KeyLaw P k) (ht : P.underlying t = some (.map k e)) {z : Value} (hz : (zeroValue e).run P w = .ok z w)
    (hb : w.heap[b]? = some (.map es clock)) (hes : KeysOk P k es) {key : Value} {kl : Lit} (hkey : keyOf P k key = some kl) :
    ((Instr.lookup t (.map (some b)) key false).run P w = .ok z w ∧ (Instr.lookup t (.map (some b)) key true).run P w = .ok (.tuple #[z, .bool false]) w ∧ ∀ x ∈ es.toList, x.key ≠ key) ∨
    ∃ (j : Nat) (x : MapEntry), es.toList[j]? = some x ∧ x.key = key ∧ (Instr.lookup t (.map (some b)) key false).run P w = .ok x.val w ∧ (Instr.lookup t (.map (some b)) key true).run P w = .ok (.tuple #[x.val, .bool true]) w := by
  rcases K.find w hkey es.toList hes with ⟨h1, h2⟩ | ⟨j, x, h1, h2, h3⟩
  · refine .inl ⟨?_, ?_, h2⟩
    · simp [Instr.lookup, run_underlying ht, MapKept.run_getObj_map hb, K.check w _ hkey, h1, hz, Result.andThen]
    · simp [Instr.lookup, run_underlying ht, MapKept.run_getObj_map hb, K.check w _ hkey, h1, hz, Result.andThen]
  · refine .inr ⟨j, x, h2, h3, ?_, ?_⟩
    · simp [Instr.lookup, run_underlying ht, MapKept.run_getObj_map hb, K.check w _ hkey, h1, Result.andThen]
    · simp [Instr.lookup, run_underlying ht, MapKept.run_getObj_map hb, K.check w _ hkey, h1, Result.andThen]
theorem update_law (K : WideMaps.KeyLaw P k) (ht : P.underlying t = some (.map k e)) (hb : w.heap[b]? = some (.map es clock)) (hes : KeysOk P k es) {key : Value} {kl : Lit} (hkey : keyOf P k key = some kl) (v : Value) :
    ((∀ x ∈ es.toList, x.key ≠ key) ∧ (Instr.mapUpdate t (.map (some b)) key v).run P w = .ok () (ChangeMaps.setBlock w b (.map (es.push ⟨key, v, clock⟩) (clock + 1)))) ∨
    ∃ (j : Nat) (x : MapEntry), es.toList[j]? = some x ∧ x.key = key ∧ (Instr.mapUpdate t (.map (some b)) key v).run P w = .ok () (ChangeMaps.setBlock w b (.map (es.modify j fun e => { e with key := key, val := v }) clock)) := by
  rcases K.find w hkey es.toList hes with ⟨h1, h2⟩ | ⟨j, x, h1, h2, h3⟩
  · exact .inl ⟨h2, by simp [Instr.mapUpdate, run_underlying ht, MapKept.run_getObj_map hb, K.check w _ hkey, h1, MapKept.run_setObj_map _ hb, Result.andThen, ChangeMaps.setBlock]⟩
  · have hj : es[j]? = some x := by simpa using h2
    exact .inr ⟨j, x, h2, h3, by simp [Instr.mapUpdate, run_underlying ht, MapKept.run_getObj_map hb, K.check w _ hkey, h1, hj, h3, K.stays w hkey, MapKept.run_setObj_map _ hb, Result.andThen, ChangeMaps.setBlock]⟩
end

/-- An extent's place as a key. -/
def spotV (s : ByteArray) (i : Int) : Value := .agg #[.string s, .int .i64 i]
def wf64 (i : Int) : Prop := -9223372036854775808 ≤ i ∧ i ≤ 9223372036854775807
theorem wf64_lit {i : Int} (h : wf64 i) : (Lit.int .i64 i).wf = true := by
  obtain ⟨h1, h2⟩ := h
  simp [Lit.wf, IntKind.min, IntKind.max, IntKind.signed, IntKind.bits]
  omega
theorem spot_keyType : Try.prog.keyType 37 = true := by kernel_rfl
theorem laid_prog : laidOutB Try.prog = true := by kernel_rfl
theorem spot_law : WideMaps.KeyLaw Try.prog 37 := deep_law_gate laid_prog (of_decide_eq_true (by kernel_rfl)) (of_decide_eq_true (by kernel_rfl)) spot_keyType (by kernel_rfl)
theorem spot_key {s : ByteArray} {i : Int} (hs : s.size ≤ maxLen) (hi : wf64 i) : ∃ l, keyOf Try.prog 37 (spotV s i) = some l := by
  have hu := Try.underlying37
  have hw := wf64_lit hi
  have c1 : Try.prog.cellsOf 37 = 2 := by kernel_rfl
  have c2 : Try.prog.cellsOf 9 = 1 := by kernel_rfl
  have c3 : Try.prog.cellsOf 3 = 1 := by kernel_rfl
  obtain ⟨m, hm⟩ : ∃ m, Try.prog.types.size = m + 1 := ⟨Try.prog.types.size - 1, by kernel_rfl⟩
  unfold keyOf spotV
  simp only [hu]
  rw [if_pos (by simp [spot_keyType, Value.formed, hu, c1])]
  unfold Program.keyLits
  simp only [hu, Value.cells]
  rw [if_pos ⟨by rw [c1]; rfl, by kernel_rfl⟩, hm]
  simp only [List.mapM_cons, List.mapM_nil]
  simp [Program.keyLits, Try.underlying9, Try.underlying3, c2, c3, hs, hw]
theorem spotV_inj {s t : ByteArray} {i j : Int} (h : spotV s i = spotV t j) : s = t ∧ i = j := by
  unfold spotV at h
  simp only [Value.agg.injEq, Array.mk.injEq, List.cons.injEq, Value.string.injEq, Value.int.injEq, and_true, true_and] at h
  first
    | exact h
    | simpa using h
/-- A map from extents to numbers: what each has, 0 where none is. -/
structure SpotMap (es : Array MapEntry) (f : ByteArray → Int → Int) : Prop where
  keys : ∀ x ∈ es.toList, ∃ s i, x.key = spotV s i ∧ s.size ≤ maxLen ∧ wf64 i ∧ x.val = .int .i64 (f s i)
  none : ∀ s i, (∀ x ∈ es.toList, x.key ≠ spotV s i) → f s i = 0
  apart : ∀ (i j : Nat) (x y : MapEntry), es.toList[i]? = some x → es.toList[j]? = some y → x.key = y.key → i = j
theorem SpotMap.empty : SpotMap #[] (fun _ _ => 0) := ⟨fun x hx => by simp at hx, fun _ _ _ => rfl, fun i j x y h => by simp at h⟩
theorem SpotMap.ok {es : Array MapEntry} {f : ByteArray → Int → Int} (h : SpotMap es f) : KeysOk Try.prog 37 es := fun x hx => by
  obtain ⟨s, i, hk, hs, hi, _⟩ := h.keys x hx
  rw [hk]; exact spot_key hs hi
open Classical in
/-- One laid anew. -/
noncomputable def spotPut (f : ByteArray → Int → Int) (s : ByteArray) (i v : Int) : ByteArray → Int → Int := fun t j => if t = s ∧ j = i then v else f t j
theorem SpotMap.push {es : Array MapEntry} {f : ByteArray → Int → Int} (h : SpotMap es f) {s : ByteArray} {i v : Int} {clock : Nat} (hs : s.size ≤ maxLen) (hi : wf64 i) (hn : ∀ x ∈ es.toList, x.key ≠ spotV s i) : SpotMap (es.push ⟨spotV s i, .int .i64 v, clock⟩) (spotPut f s i v) := by
  refine ⟨fun x hx => ?_, fun t j hno => ?_, fun a b x y hx hy he => ?_⟩
  · simp only [Array.toList_push, List.mem_append, List.mem_singleton] at hx
    rcases hx with hx | rfl
    · obtain ⟨t, j, hk, ht, hj, hv⟩ := h.keys x hx
      refine ⟨t, j, hk, ht, hj, ?_⟩
      have hne : ¬ (t = s ∧ j = i) := fun ⟨h1, h2⟩ => hn x hx (by rw [hk, h1, h2])
      simp only [spotPut, if_neg hne, hv]
    · exact ⟨s, i, rfl, hs, hi, by simp [spotPut]⟩
  · have h1 : ∀ x ∈ es.toList, x.key ≠ spotV t j := fun x hx => hno x (by simp [Array.toList_push, hx])
    have h2 : spotV s i ≠ spotV t j := hno ⟨spotV s i, .int .i64 v, clock⟩ (by simp [Array.toList_push])
    have hne : ¬ (t = s ∧ j = i) := fun ⟨h3, h4⟩ => h2 (by rw [h3, h4])
    simp only [spotPut, if_neg hne]
    exact h.none t j h1
  · rw [Array.toList_push, List.getElem?_append] at hx hy
    split at hx <;> split at hy
    · exact h.apart a b x y hx hy he
    · rename_i h1 h2
      have : y = ⟨spotV s i, .int .i64 v, clock⟩ := by
        rcases Nat.eq_or_lt_of_le (Nat.le_of_not_lt h2) with h3 | h3
        · rw [← h3, Nat.sub_self] at hy; simpa using hy.symm
        · rw [List.getElem?_eq_none (by simp only [List.length_cons, List.length_nil]; omega)] at hy; cases hy
      subst this
      exact absurd he (hn x (List.mem_of_getElem? hx))
    · rename_i h1 h2
      have : x = ⟨spotV s i, .int .i64 v, clock⟩ := by
        rcases Nat.eq_or_lt_of_le (Nat.le_of_not_lt h1) with h3 | h3
        · rw [← h3, Nat.sub_self] at hx; simpa using hx.symm
        · rw [List.getElem?_eq_none (by simp only [List.length_cons, List.length_nil]; omega)] at hx; cases hx
      subst this
      exact absurd he.symm (hn y (List.mem_of_getElem? hy))
    · rename_i h1 h2
      have e1 : a = es.toList.length := by
        rcases Nat.eq_or_lt_of_le (Nat.le_of_not_lt h1) with h3 | h3
        · exact h3.symm
        · rw [List.getElem?_eq_none (by simp only [List.length_cons, List.length_nil]; omega)] at hx; cases hx
      have e2 : b = es.toList.length := by
        rcases Nat.eq_or_lt_of_le (Nat.le_of_not_lt h2) with h3 | h3
        · exact h3.symm
        · rw [List.getElem?_eq_none (by simp only [List.length_cons, List.length_nil]; omega)] at hy; cases hy
      omega
theorem SpotMap.set {es : Array MapEntry} {f : ByteArray → Int → Int} (h : SpotMap es f) {s : ByteArray} {i v : Int} {j : Nat} {x0 : MapEntry} (hj : es.toList[j]? = some x0) (hx0 : x0.key = spotV s i) : SpotMap (es.modify j fun e => { e with key := spotV s i, val := .int .i64 v }) (spotPut f s i v) := by
  obtain ⟨s', i', hk, hs, hi, -⟩ := h.keys x0 (List.mem_of_getElem? hj)
  obtain ⟨rfl, rfl⟩ := spotV_inj (hk.symm.trans hx0)
  have hat : ∀ a, (es.modify j fun e => { e with key := spotV s' i', val := .int .i64 v }).toList[a]? = if j = a then (es.toList[a]?).map (fun e => { e with key := spotV s' i', val := .int .i64 v }) else es.toList[a]? := by
    intro a
    rw [Array.toList_modify, List.getElem?_modify]
    split <;> simp
  refine ⟨fun x hx => ?_, fun t m hno => ?_, fun a b x y hx hy he => ?_⟩
  · obtain ⟨a, ha⟩ := List.getElem?_of_mem hx
    rw [hat] at ha
    split at ha
    · rename_i he
      subst he
      rw [hj] at ha
      simp only [Option.map_some, Option.some.injEq] at ha
      subst ha
      exact ⟨s', i', rfl, hs, hi, by simp [spotPut]⟩
    · rename_i hne
      obtain ⟨t, m, hk', ht, hm, hv⟩ := h.keys x (List.mem_of_getElem? ha)
      refine ⟨t, m, hk', ht, hm, ?_⟩
      have hne' : ¬ (t = s' ∧ m = i') := fun ⟨h1, h2⟩ => hne (h.apart j a x0 x hj ha (by rw [hx0, hk', h1, h2]))
      simp only [spotPut, if_neg hne', hv]
  · have hne' : ¬ (t = s' ∧ m = i') := fun ⟨h1, h2⟩ => by
      have := hat j
      rw [if_pos rfl, hj] at this
      exact hno _ (List.mem_of_getElem? this) (by rw [h1, h2])
    simp only [spotPut, if_neg hne']
    refine h.none t m fun x hx hke => ?_
    obtain ⟨a, ha⟩ := List.getElem?_of_mem hx
    by_cases hja : j = a
    · subst hja
      rw [hj] at ha; cases ha
      obtain ⟨h1, h2⟩ := spotV_inj (hx0.symm.trans hke)
      exact hne' ⟨h1.symm, h2.symm⟩
    · have := hat a
      rw [if_neg hja, ha] at this
      exact hno x (List.mem_of_getElem? this) hke
  · have key : ∀ (c : Nat) (z : MapEntry), (es.modify j fun e => { e with key := spotV s' i', val := .int .i64 v }).toList[c]? = some z → ∃ z' : MapEntry, es.toList[c]? = some z' ∧ z'.key = z.key := by
      intro c z hz
      rw [hat] at hz
      split at hz
      · rename_i he
        subst he
        rw [hj] at hz
        simp only [Option.map_some, Option.some.injEq] at hz
        subst hz
        exact ⟨x0, hj, hx0⟩
      · exact ⟨z, hz, rfl⟩
    obtain ⟨x', hx', ex⟩ := key a x hx
    obtain ⟨y', hy', ey⟩ := key b y hy
    exact h.apart a b x' y' hx' hy' (by rw [ex, ey, he])
theorem SpotMap.update {es : Array MapEntry} {clock : Nat} {f : ByteArray → Int → Int} (h : SpotMap es f) {w : World} {b : Nat} (hb : w.heap[b]? = some (.map es clock)) {s : ByteArray} {i v : Int} (hs : s.size ≤ maxLen) (hi : wf64 i) :
    ∃ es' clock', (Instr.mapUpdate 103 (.map (some b)) (spotV s i) (.int .i64 v)).run Try.prog w = .ok () (ChangeMaps.setBlock w b (.map es' clock')) ∧ SpotMap es' (spotPut f s i v) := by
  obtain ⟨l, hl⟩ := spot_key hs hi
  rcases update_law spot_law Try.underlying103 hb h.ok hl (.int .i64 v) with ⟨h1, h2⟩ | ⟨j, x, h1, h2, h3⟩
  · exact ⟨_, _, h2, h.push hs hi h1⟩
  · exact ⟨_, _, h3, h.set h1 h2⟩
theorem SpotMap.lookup {es : Array MapEntry} {clock : Nat} {f : ByteArray → Int → Int} (h : SpotMap es f) {w : World} {b : Nat} (hb : w.heap[b]? = some (.map es clock)) {s : ByteArray} {i : Int} (hs : s.size ≤ maxLen) (hi : wf64 i) :
    (Instr.lookup 103 (.map (some b)) (spotV s i) false).run Try.prog w = .ok (.int .i64 (f s i)) w := by
  obtain ⟨l, hl⟩ := spot_key hs hi
  rcases lookup_law spot_law Try.underlying103 (z := .int .i64 0) (by kernel_rfl) hb h.ok hl with ⟨h1, -, h2⟩ | ⟨j, x, h1, h2, h3, -⟩
  · rw [h.none s i h2]; exact h1
  · obtain ⟨s', i', hk, -, -, hv⟩ := h.keys x (List.mem_of_getElem? h1)
    obtain ⟨rfl, rfl⟩ := spotV_inj (hk.symm.trans h2)
    rw [h3, hv]
end Go.Proofs.Ytjlfhfknnpjikaa
/- A disk's files that have not come yet, while they come in any order. -/
namespace Go.Proofs.Ytjlfhfknnpjikaa
open Go.RowKit HP
set_option linter.unusedSimpArgs false
set_option linter.unusedVariables false

theorem putF_perm {α : Type} {s : ByteArray} {v : α} : ∀ {l : List (ByteArray × α)}, lk l s = none → (putF l s v).Perm ((s, v) :: l)
  | [], _ => List.Perm.refl _
  | (t, u) :: l, h => by
    rw [lk_cons] at h
    split at h
    · cases h
    · rename_i hne
      unfold putF
      rw [if_neg hne]
      split
      · exact List.Perm.refl _
      · exact ((putF_perm h).cons _).trans (List.Perm.swap _ _ _)
theorem sortF_perm {fs : List Fil} (hn : (fs.map (·.name)).Nodup) : (sortF fs).Perm (fs.map fun f => (f.name, f.cs)) := by
  induction fs with
  | nil => exact List.Perm.refl _
  | cons f fs ih =>
    simp only [List.map_cons, List.nodup_cons] at hn
    have h2 : lk (sortF fs) f.name = none := by
      rw [sortF_lk]
      unfold lkF
      rw [Option.map_eq_none_iff, List.find?_eq_none]
      intro x hx he
      simp only [decide_eq_true_eq] at he
      exact hn.1 (List.mem_map.2 ⟨x, hx, he⟩)
    exact (putF_perm h2).trans ((ih hn.2).cons _)
theorem files_perm {A : Dk} {es : Array MapEntry} {clock : Nat} {fs : List Fil} (hv : View A es clock fs) : (fs.map fun f => (f.name, f.cs)).Perm A.files := by
  have e : sortF fs = A.files := sorted_ext (sortF_sorted fs) hv.fine.sorted fun s => by rw [sortF_lk, hv.same]
  rw [← e]
  exact (sortF_perm hv.map.2.2.1).symm
/-- The files that have not come yet. -/
def leftZ (es : Array MapEntry) (seen : Array Nat) (fs : List Fil) : List (MapEntry × Fil) := (es.toList.zip fs).filter fun x => !seen.contains x.1.born
theorem filter_out {α : Type} {b : α → Nat} : ∀ {l : List α} {x : α} {p : α → Bool}, (l.map b).Nodup → x ∈ l → p x = true → (l.filter p).Perm (x :: l.filter fun y => p y && !(b y == b x))
  | [], x, p, _, h, _ => by cases h
  | y :: l, x, p, hn, hx, hp => by
    simp only [List.map_cons, List.nodup_cons] at hn
    by_cases e : y = x
    · subst e
      rw [List.filter_cons_of_pos hp, List.filter_cons_of_neg (by simp)]
      refine List.Perm.cons _ (List.Perm.of_eq ?_)
      refine List.filter_congr fun z hz => ?_
      have : b z ≠ b y := fun h => hn.1 (by rw [← h]; exact List.mem_map.2 ⟨z, hz, rfl⟩)
      simp [this]
    · have hxl : x ∈ l := by
        rcases List.mem_cons.1 hx with h | h
        · exact absurd h.symm e
        · exact h
      have hb : b y ≠ b x := fun h => hn.1 (by rw [h]; exact List.mem_map.2 ⟨x, hxl, rfl⟩)
      have ih := filter_out hn.2 hxl hp
      by_cases hpy : p y = true
      · rw [List.filter_cons_of_pos hpy, List.filter_cons_of_pos (by simp [hpy, hb])]
        exact (ih.cons _).trans (List.Perm.swap _ _ _)
      · rw [List.filter_cons_of_neg hpy, List.filter_cons_of_neg (by simp [hpy])]
        exact ih
theorem leftZ_step {es : Array MapEntry} {seen : Array Nat} {fs : List Fil} {j : Nat} {e : MapEntry} {f : Fil} (hn : (es.toList.map (·.born)).Nodup) (hl : es.toList.length = fs.length) (hj : es.toList[j]? = some e) (hf : fs[j]? = some f) (he : seen.contains e.born = false) :
    (leftZ es seen fs).Perm ((e, f) :: leftZ es (seen.push e.born) fs) := by
  have hm : ((es.toList.zip fs).map fun x => x.1.born) = es.toList.map (·.born) := by
    rw [show (fun x : MapEntry × Fil => x.1.born) = (fun x : MapEntry => x.born) ∘ Prod.fst from rfl, ← List.map_map, List.map_fst_zip (by omega)]
  have hmem : (e, f) ∈ es.toList.zip fs := List.mem_of_getElem? (i := j) (by rw [List.getElem?_zip_eq_some]; exact ⟨hj, hf⟩)
  have := filter_out (b := fun x : MapEntry × Fil => x.1.born) (p := fun x => !seen.contains x.1.born) (by rw [hm]; exact hn) hmem (by show (!seen.contains e.born) = true; rw [he]; rfl)
  refine this.trans (List.Perm.of_eq ?_)
  unfold leftZ
  congr 1
  refine List.filter_congr fun z _ => ?_
  rw [Array.contains_push]
  simp [Bool.not_or]
theorem leftZ_start {es : Array MapEntry} {fs : List Fil} (hl : es.toList.length = fs.length) : (leftZ es #[] fs).map (·.2) = fs := by
  unfold leftZ
  rw [List.filter_eq_self.2 (by simp), List.map_snd_zip (by omega)]
theorem leftZ_end {es : Array MapEntry} {seen : Array Nat} {fs : List Fil} (h : leftL es seen = []) : leftZ es seen fs = [] := by
  unfold leftZ
  rw [List.filter_eq_nil_iff]
  rintro ⟨e, f⟩ hx
  have he := (List.of_mem_zip hx).1
  have := List.filter_eq_nil_iff.1 h e he
  simpa using this
end Go.Proofs.Ytjlfhfknnpjikaa
/- A law's row, of any parameters: the walk says 'true, and below the heap's old size nothing has turned'; from it the row's step. -/
namespace Go.Proofs.Ytjlfhfknnpjikaa
open Go.ChangeShapes Go.WideShapes Go.ChangeAt Go.RowKit
set_option linter.unusedVariables false

theorem own : ownKnob Try.prog.godebug = none := by kernel_rfl
theorem laidOut : laidOutB Try.prog = true := by kernel_rfl

theorem trodAll_below {H : Type} {enc : TypeId × Value → H} {P : Program} (hl : laidOutB P = true) {W W' : World} (hb : Below W.heap.size W W') {sp : Nat → Bool} :
    ∀ {ts : List TypeId} {vs : List Value} {ds : List (DataW H)} {ps : List MemPlace}, (ts.all fun t => P.readableRec t && decide (t < P.types.size)) = true → (∀ x ∈ ps, x.block < W.heap.size) → (∀ x ∈ ps, sp x.block = true) →
      DataW.TrodAll enc P W 0 (fun _ => true) true ts vs ds ps → DataW.TrodAll enc P W' 0 sp true ts vs ds ps
  | [], [], [], _, _, _, _, h => h
  | [], _ :: _, _, _, _, _, _, h => h.elim
  | [], [], _ :: _, _, _, _, _, h => h.elim
  | _ :: _, [], _, _, _, _, _, h => h.elim
  | _ :: _, _ :: _, [], _, _, _, _, h => h.elim
  | t :: ts, v :: vs, d :: ds, ps, hr, hlt, hsp, h => by
    obtain ⟨p, q, h1, h2, rfl⟩ := h
    simp only [List.all_cons, Bool.and_eq_true, decide_eq_true_eq] at hr
    exact ⟨p, q, Go.WideElems.Trod_stays hl hr.1.1 hr.1.2 h1 (fun x hx => hb.same (hlt x (List.mem_append.2 (.inl hx)))) (fun x hx => hsp x (List.mem_append.2 (.inl hx))),
      trodAll_below hl hb (by simpa using hr.2) (fun x hx => hlt x (List.mem_append.2 (.inr hx))) (fun x hx => hsp x (List.mem_append.2 (.inr hx))) h2, rfl⟩

theorem law_post {H : Type} {enc : TypeId × Value → H} {P : Program} {f : Func} {s : ChangeSpec} {apart fresh : Bool} {W W' : World} {args : Array Value} {ds gs : List (DataW H)} {before : List MemPlace}
    (hl : laidOutB P = true) (hrow : (f.params.toList.all fun t => P.readableRec t && decide (t < P.types.size)) = true) {tb : TypeId} (hrt : f.resultTypes = #[tb]) (htb : P.underlying tb = some .bool)
    (hv : s.vars = []) (hs : s.fn H (ds ++ gs) = { results := [.lit (.bool true)], args := ds })
    (hW : DataW.Whole enc P f.params.toList s.vars apart W args.toList ds gs before) (hb : Below W.heap.size W W') : s.post enc P f apart fresh false false W args (.bool true) W' := by
  have hlt : ∀ x ∈ before, x.block < W.heap.size := fun x hx => by simpa using hW.lt x hx
  have hW' := hW
  obtain ⟨p, q, hA, hV, rfl, hz, hn⟩ := hW
  rw [hv] at hV
  obtain ⟨rfl, rfl⟩ := trodVars_none hV
  have hres : ∀ (b : Nat) (sp : Nat → Bool) (hd : Bool), DataW.TrodAll enc P W' b sp hd f.resultTypes.toList ((Value.bool true).resultList f.resultTypes.size) (s.fn H (ds ++ [])).results [] := by
    intro b sp hd
    rw [hrt, hs]
    exact trodAll_mk1 (shut_bool htb true)
  simp only [List.append_nil] at hlt hW' 
  refine ⟨ds, [], _, [], p, [], hW', hres _ _ _, ?_, ?_, hb.frame _, fun h => by cases h⟩
  · rw [hs]; exact trodAll_below hl hb hrow hlt (fun x hx => by simpa using hlt x hx) hA
  · rw [hs, hv]; rfl
end Go.Proofs.Ytjlfhfknnpjikaa
/- A law's arguments, read: whole numbers, bools, texts, slices, structs of these, to any depth. -/
namespace Go.Proofs.Ytjlfhfknnpjikaa
open Go.ChangeShapes Go.WideShapes Go.ChangeAt Go.RowKit HP
set_option linter.unusedVariables false
set_option linter.unusedSimpArgs false

/-- How a kind of data lies in cells, and what else memory says of it. -/
structure Rd (α : Type) where
  cells : α → List Value
  ok : World → α → Prop
  carry : ∀ {W W' : World} {a : α}, (∀ k, k < W.heap.size → W'.heap[k]? = W.heap[k]?) → ok W a → ok W' a
/-- What can be read at type t is of this kind. -/
def Rd.At {α : Type} (r : Rd α) (P : Program) (t : TypeId) : Prop :=
  ∀ {H : Type} {enc : TypeId × Value → H} {W : World} {fuel : Nat} {cs : List Value} {x : DataW H × List MemPlace}, DataW.trod enc P W 0 (fun _ => true) true fuel t cs = some x → ∃ a, cs = r.cells a ∧ r.ok W a
def rdInt (k : IntKind) : Rd Int := ⟨fun n => [.int k n], fun _ n => (Lit.int k n).wf = true, fun _ h => h⟩
def rdBool : Rd Bool := ⟨fun b => [.bool b], fun _ _ => True, fun _ h => h⟩
def rdStr : Rd ByteArray := ⟨fun s => [.string s], fun _ s => s.size ≤ maxLen, fun _ h => h⟩
/-- A slice: where, its capacity, its elements. -/
structure Sl (α : Type) where
  A : Option Addr
  cap : Nat
  l : List α
def Sl.val {α : Type} (s : Sl α) : Value := .slice s.A s.l.length s.cap
def rdSl {α : Type} (r : Rd α) : Rd (Sl α) :=
  ⟨fun s => [s.val], fun W s => s.l.length ≤ s.cap ∧ s.cap ≤ maxLen ∧ Cells W s.A (s.l.flatMap r.cells) ∧ ∀ x ∈ s.l, r.ok W x, fun hb h => ⟨h.1, h.2.1, h.2.2.1.carry hb, fun x hx => r.carry hb (h.2.2.2 x hx)⟩⟩
def rdPair {α β : Type} (r : Rd α) (s : Rd β) : Rd (α × β) := ⟨fun x => r.cells x.1 ++ s.cells x.2, fun W x => r.ok W x.1 ∧ s.ok W x.2, fun hb h => ⟨r.carry hb h.1, s.carry hb h.2⟩⟩
def rdEnd : Rd Unit := ⟨fun _ => [], fun _ _ => True, fun _ h => h⟩
def rdMap {α β : Type} (r : Rd α) (f : α → β) (g : β → α) (h : ∀ a, g (f a) = a) : Rd β := ⟨fun b => r.cells (g b), fun W b => r.ok W (g b), fun hb h => r.carry hb h⟩

section
variable {P : Program} {t : TypeId}
theorem rdInt_at {k : IntKind} (ht : P.underlying t = some (.int k)) : (rdInt k).At P t := by
  intro H enc W fuel cs x h
  obtain ⟨n, rfl, -, hw⟩ := DataW.trod_int ht h
  exact ⟨n, rfl, hw⟩
theorem rdBool_at (ht : P.underlying t = some .bool) : rdBool.At P t := by
  intro H enc W fuel cs x h
  obtain ⟨n, rfl, -⟩ := DataW.trod_bool ht h
  exact ⟨n, rfl, trivial⟩
theorem rdStr_at (ht : P.underlying t = some .string) : rdStr.At P t := by
  intro H enc W fuel cs x h
  obtain ⟨n, rfl, -, hw⟩ := DataW.trod_string ht h
  exact ⟨n, rfl, hw⟩
theorem choose_list {α : Type} (n : Nat) (p : Nat → α → Prop) (h : ∀ i, i < n → ∃ a, p i a) : ∃ l : List α, l.length = n ∧ ∀ (i : Nat) (a : α), l[i]? = some a → p i a := by
  induction n with
  | zero => exact ⟨[], rfl, fun i a h => by simp at h⟩
  | succ n ih =>
    obtain ⟨l, hl, hp⟩ := ih fun i hi => h i (by omega)
    obtain ⟨a, ha⟩ := h n (by omega)
    refine ⟨l ++ [a], by simp [hl], fun i b hb => ?_⟩
    rw [List.getElem?_append] at hb
    split at hb
    · exact hp i b hb
    · rename_i hlt
      have hi : i = n := by
        have := (List.getElem?_eq_some_iff.1 hb).1
        simp at this
        omega
      subst hi
      rw [hl, Nat.sub_self] at hb
      simp at hb
      subst hb; exact ha
theorem flat_at {α : Type} (f : α → List Value) (n : Nat) (l : List α) (hn : ∀ x ∈ l, (f x).length = n) : ∀ (j : Nat) (u : Value), (l.flatMap f)[j]? = some u → ∃ (i k : Nat) (x : α), l[i]? = some x ∧ k < n ∧ j = i * n + k ∧ (f x)[k]? = some u := by
  induction l with
  | nil => intro j u h; simp at h
  | cons x l ih =>
    intro j u h
    rw [List.flatMap_cons, List.getElem?_append] at h
    have hx := hn x (by simp)
    split at h
    · rename_i hlt
      exact ⟨0, j, x, rfl, by omega, by omega, h⟩
    · rename_i hlt
      obtain ⟨i, k, y, h1, h2, h3, h4⟩ := ih (fun y hy => hn y (by simp [hy])) _ _ h
      refine ⟨i + 1, k, y, by simpa using h1, h2, ?_, h4⟩
      rw [Nat.add_mul, Nat.one_mul]
      omega
theorem rdSl_at {α : Type} {r : Rd α} {e : TypeId} {n : Nat} (ht : P.underlying t = some (.slice e)) (hc : P.cellsOf e = n) (hr : r.At P e) : (rdSl r).At P t := by
  intro H enc W fuel cs x h
  rcases Go.Deep.open_slice ht h with ⟨rfl, -⟩ | ⟨a, len, cap, m, n', D, Pl, rfl, -, hl, hm, hmm, -, hi⟩
  · exact ⟨⟨none, 0, []⟩, rfl, Nat.le_refl _, Nat.zero_le _, Cells.nil _ _, fun x hx => by cases hx⟩
  · have hml : len ≤ m := by rw [hmm]; split <;> omega
    obtain ⟨l, hll, hp⟩ := choose_list len (fun i x => r.ok W x ∧ W.cells? 0 (a.add (i * n)) n = some (r.cells x)) fun i hil => by
      obtain ⟨cs', h1, h2⟩ := hi i (by omega)
      obtain ⟨x, rfl, hx⟩ := hr h2
      rw [hc] at h1
      exact ⟨x, hx, h1⟩
    have hlen : ∀ x ∈ l, (r.cells x).length = n := fun x hx => by
      obtain ⟨i, hi'⟩ := List.getElem?_of_mem hx
      exact (World.cells?_some (hp i x hi').2).2.1
    refine ⟨⟨some a, cap, l⟩, by simp [rdSl, Sl.val, hll], by simpa [hll] using hl, hm, fun j u hj => ⟨a, rfl, ?_⟩, fun x hx => ?_⟩
    · obtain ⟨i, k, x, h1, h2, h3, h4⟩ := flat_at r.cells n l hlen j u hj
      have h5 := (World.cells?_some (hp i x h1).2).2.2 k h2
      rw [h4, Cells.add_add] at h5
      rw [h3]; exact h5
    · obtain ⟨i, hi'⟩ := List.getElem?_of_mem hx
      exact (hp i x hi').1
/-- Fields one behind the other from a place on. -/
def Rd.Fs {α : Type} (r : Rd α) (P : Program) (fs : List Field) (off total : Nat) : Prop :=
  ∀ {H : Type} {enc : TypeId × Value → H} {W : World} {n : Nat} {cs : List Value}, (∀ f ∈ fs, ∃ y, DataW.trod enc P W 0 (fun _ => true) true n f.type ((cs.drop f.offset).take (P.cellsOf f.type)) = some y) → off + total = cs.length →
    ∃ a, cs.drop off = r.cells a ∧ r.ok W a
theorem rdEnd_fs (off : Nat) : rdEnd.Fs P [] off 0 := by
  intro H enc W n cs _ h
  exact ⟨(), by simp [rdEnd]; omega, trivial⟩
theorem rdPair_fs {α β : Type} {r : Rd α} {s : Rd β} {f : Field} {fs : List Field} {off size total : Nat} (hoff : f.offset = off) (hsz : P.cellsOf f.type = size) (hr : r.At P f.type) (hs : s.Fs P fs (off + size) total) : (rdPair r s).Fs P (f :: fs) off (size + total) := by
  intro H enc W n cs h hl
  obtain ⟨y, hy⟩ := h f (by simp)
  obtain ⟨a, ha, hoa⟩ := hr hy
  obtain ⟨b, hb, hob⟩ := hs (fun g hg => h g (by simp [hg])) (by omega)
  refine ⟨(a, b), ?_, hoa, hob⟩
  show cs.drop off = r.cells a ++ s.cells b
  rw [← ha, ← hb, hoff, hsz, ← List.drop_drop, List.take_append_drop]
theorem rdStruct_at {α β : Type} {r : Rd α} {fs : Array Field} {total : Nat} (ht : P.underlying t = some (.struct fs)) (hc : P.cellsOf t = total) (hr : r.Fs P fs.toList 0 total) (f : α → β) (g : β → α) (hg : ∀ a, g (f a) = a) : (rdMap r f g hg).At P t := by
  intro H enc W fuel cs x h
  obtain ⟨xs, n, -, -, hl, hxl, hf⟩ := DataW.trod_struct ht h
  obtain ⟨a, ha, hoa⟩ := hr (W := W) (n := n) (cs := cs) (fun fd hfd => by
    obtain ⟨i, hi⟩ := List.getElem?_of_mem hfd
    have hi' : fs[i]? = some fd := by simpa using hi
    have h1 := hf i fd hi'
    have hlt : i < xs.length := by rw [hxl]; exact (Array.getElem?_eq_some_iff.1 hi').1
    rw [List.getElem?_eq_getElem hlt] at h1
    exact ⟨_, h1⟩) (by omega)
  refine ⟨f a, ?_, ?_⟩
  · show cs = r.cells (g (f a))
    rw [hg, ← ha, List.drop_zero]
  · show r.ok W (g (f a))
    rw [hg]; exact hoa
/-- An argument read. -/
theorem Rd.arg {α : Type} {r : Rd α} (hr : r.At P t) {H : Type} {enc : TypeId × Value → H} {W : World} {v : Value} {d0 : DataW H} {p : List MemPlace} (h0 : DataW.Trod enc P W 0 (fun _ => true) true t v d0 p) : ∃ a, v.cells.toList = r.cells a ∧ r.ok W a := by
  obtain ⟨fuel, hf⟩ := h0
  exact hr hf
theorem sl_arg {α : Type} {r : Rd α} {e : TypeId} {base : Nat} (ht : P.underlying t = some (.slice e)) (hr : (rdSl r).At P t) {H : Type} {enc : TypeId × Value → H} {W : World} {v : Value} {d0 : DataW H} {p : List MemPlace} (hv : Value.okWide P W .any base t v) (h0 : DataW.Trod enc P W 0 (fun _ => true) true t v d0 p) : ∃ s : Sl α, v = s.val ∧ (rdSl r).ok W s := by
  obtain ⟨a0, len, cap, rfl⟩ := okWide_slice ht hv
  obtain ⟨s, hs, ho⟩ := Rd.arg hr h0
  refine ⟨s, ?_, ho⟩
  have : [Value.slice a0 len cap] = [s.val] := hs
  simpa using this
theorem int_arg {k : IntKind} {base : Nat} (ht : P.underlying t = some (.int k)) {H : Type} {enc : TypeId × Value → H} {W : World} {v : Value} {d0 : DataW H} {p : List MemPlace} (hv : Value.okWide P W .any base t v) (h0 : DataW.Trod enc P W 0 (fun _ => true) true t v d0 p) : ∃ n, v = .int k n ∧ (Lit.int k n).wf = true := by
  obtain ⟨n, rfl⟩ := okWide_int ht hv
  obtain ⟨s, hs, ho⟩ := Rd.arg (rdInt_at ht) h0
  have : [Value.int k n] = [.int k s] := hs
  simp at this
  subst this
  exact ⟨n, rfl, ho⟩
theorem bool_arg {base : Nat} (ht : P.underlying t = some .bool) {W : World} {v : Value} (hv : Value.okWide P W .any base t v) : ∃ b, v = .bool b := okWide_bool ht hv
theorem str_arg {base : Nat} (ht : P.underlying t = some .string) {H : Type} {enc : TypeId × Value → H} {W : World} {v : Value} {d0 : DataW H} {p : List MemPlace} (hv : Value.okWide P W .any base t v) (h0 : DataW.Trod enc P W 0 (fun _ => true) true t v d0 p) : ∃ s, v = .string s ∧ s.size ≤ maxLen := by
  obtain ⟨n, rfl⟩ := okWide_string ht hv
  obtain ⟨s, hs, ho⟩ := Rd.arg (rdStr_at ht) h0
  have : [Value.string n] = [.string s] := hs
  simp at this
  subst this
  exact ⟨n, rfl, ho⟩
theorem agg_arg {α : Type} {r : Rd α} {fs : Array Field} {base : Nat} (ht : P.underlying t = some (.struct fs)) (hr : r.At P t) {H : Type} {enc : TypeId × Value → H} {W : World} {v : Value} {d0 : DataW H} {p : List MemPlace} (hv : Value.okWide P W .any base t v) (h0 : DataW.Trod enc P W 0 (fun _ => true) true t v d0 p) : ∃ a, v = .agg (r.cells a).toArray ∧ r.ok W a := by
  obtain ⟨cs, rfl, -⟩ := okWide_struct ht hv
  obtain ⟨s, hs, ho⟩ := Rd.arg hr h0
  refine ⟨s, ?_, ho⟩
  have : cs.toList = r.cells s := hs
  rw [← this]
end
end Go.Proofs.Ytjlfhfknnpjikaa
