/- A file that grows: what the map and the files become. -/
import Derived.Test.YtgdcdcacccaanaaDiskZ
namespace Go.Proofs.Ytgdcdcacccaanaa
open Go.RowKit HP
set_option linter.unusedSimpArgs false
set_option linter.unusedVariables false

theorem new_cel {E : Env} {q : HP} {d m : Nat} {A : Dk} {es : Array MapEntry} {clock : Nat} {fs : List Fil} (hv : View A es clock fs) {name : ByteArray} {v : Value} (hn : name.size ≤ maxLen) (hnm : namedB name = true) (hfree : 0 < A.free)
    (hcase : (lk A.files name = none ∧ v = .slice none 0 0) ∨ ∃ (j : Nat) (f : Fil), fs[j]? = some f ∧ f.name = name ∧ f.val = v ∧ lk A.files name = some f.cs) :
    ∃ (ptrs : List Value) (R : HP) (es' : Value → Array MapEntry) (clock' : Nat), ptrs.length = (A.at name).length ∧ (∀ w, Sat E w R → Sat E w q) ∧
      (∀ w, Sat E w (HP.dk d A.room A.fuse m es clock fs * q) → Sat E w (HP.row 77 1 v (A.at name).length ptrs * (HP.dsk d A.room A.fuse m * (HP.pt m (.map es clock) * R)))) ∧
      (∀ (w : World) (v' : Value), w.heap[m]? = some (.map es clock) → (Instr.mapUpdate 68 (.map (some m)) (.string name) v').run Try.prog w = .ok () (ChangeMaps.setBlock w m (.map (es' v') clock'))) ∧
      (∀ (w : World) (v' : Value) (b0 : Nat) (c' : Cel), c'.Fine → Sat E w (HP.cel b0 c' * (HP.row 77 1 v' ((A.at name).length + 1) (ptrs ++ [.pointer (some ⟨b0, 0, none⟩)]) * (HP.dsk d A.room A.fuse m * (HP.pt m (.map (es' v') clock') * R)))) →
        Sat E w (HP.disk d (A.set name (A.at name ++ [c'])) * q)) := by
  have hfr : (sizeF A.files : Int) + 1 ≤ A.room := by unfold Dk.free at hfree; omega
  rcases hcase with ⟨hlk, rfl⟩ | ⟨j, f, hj, hname, hfv, hlk⟩
  · have hat : A.at name = [] := by simp [Dk.at, hlk]
    rw [hat]
    refine ⟨[], HP.all (fs.map HP.fil) * q, fun v' => es.push ⟨.string name, v', clock⟩, clock + 1, rfl, fun w h => h.right, fun w h => ?_, fun w v' hb => ?_, fun w v' b0 c' hc h => ?_⟩
    · exact (dk_parts h).row_nil _ _ _
    · have hno : ∀ x ∈ es.toList, x.key ≠ .string name := fun x hx hk => by
        have h1 : (x.key, x.val) ∈ es.toList.map (fun x => (x.key, x.val)) := List.mem_map.2 ⟨x, hx, rfl⟩
        rw [hv.map.2.1] at h1
        obtain ⟨f, hf, hfe⟩ := List.mem_map.1 h1
        simp only [Prod.mk.injEq] at hfe
        have h2 := lkF_none (s := name) (by rw [hv.same, hlk]) f hf
        rw [hk] at hfe
        injection hfe.1 with h3
        exact h2 h3
      rcases update_str (P := Try.prog) (t := 68) Try.underlying9 Try.underlying68 hb hv.map.1 name hn v' with ⟨-, h⟩ | ⟨j, x, hj, hx, -⟩
      · exact h
      · exact absurd hx (hno x (List.mem_of_getElem? hj))
    · have hv' := hv.push (v := v') (cels := [(b0, c')]) hnm hlk (by simp) (fun x hx => by simp only [List.mem_singleton] at hx; subst hx; exact hc) (by simpa using hfr) hn
      refine Sat.disk_close (m := m) hv' ?_
      show Sat E w (HP.dk d A.room A.fuse m _ _ (fs ++ [⟨name, v', [(b0, c')]⟩]) * q)
      unfold HP.dk
      rw [List.map_append, HP.all_append]
      have e1 : HP.all ([(⟨name, v', [(b0, c')]⟩ : Fil)].map HP.fil) = HP.row 77 1 v' 1 [.pointer (some ⟨b0, 0, none⟩)] * HP.cel b0 c' := by
        simp only [List.map_cons, List.map_nil, HP.all, HP.mul_emp]
        unfold HP.fil
        simp only [List.map_cons, List.map_nil, HP.all, HP.mul_emp, Fil.ptrs, List.length_cons, List.length_nil]
      rw [e1]
      exact h.perm (by simp only [List.length_nil, Nat.zero_add, List.nil_append]; ac_rfl)
  · subst hname
    have hat : A.at f.name = f.cs := by simp [Dk.at, hlk]
    have hlen : (A.at f.name).length = f.cels.length := by rw [hat, Fil.cs, List.length_map]
    have hjl : j < fs.length := (List.getElem?_eq_some_iff.1 hj).1
    rw [hlen]
    refine ⟨f.ptrs, HP.all (f.cels.map fun x => HP.cel x.1 x.2) * (HP.all ((fs.map HP.fil).eraseIdx j) * q), fun v' => es.modify j fun e => { e with key := .string f.name, val := v' }, clock, by simp [Fil.ptrs], fun w h => h.right.right, fun w h => ?_, fun w v' hb => ?_, fun w v' b0 c' hc h => ?_⟩
    · have h1 := dk_parts h
      have h2 : Sat E w (HP.all (fs.map HP.fil) * (HP.dsk d A.room A.fuse m * (HP.pt m (.map es clock) * q))) := h1.perm (by ac_rfl)
      rw [all_take (l := fs.map HP.fil) (j := j) (p := HP.fil f) (by rw [List.getElem?_map, hj]; rfl)] at h2
      rw [← hfv]
      exact h2.perm (by unfold HP.fil; ac_rfl)
    · rcases update_str (P := Try.prog) (t := 68) Try.underlying9 Try.underlying68 hb hv.map.1 f.name hn v' with ⟨hno, -⟩ | ⟨i, x, hi, hx, h⟩
      · have h1 : (Value.string f.name, f.val) ∈ fs.map (fun f => (Value.string f.name, f.val)) := List.mem_map.2 ⟨f, List.mem_of_getElem? hj, rfl⟩
        rw [← hv.map.2.1] at h1
        obtain ⟨x, hx, hxe⟩ := List.mem_map.1 h1
        simp only [Prod.mk.injEq] at hxe
        exact absurd hxe.1 (hno x hx)
      · have h6 := congrArg (fun l => l[i]?) hv.map.2.1
        simp only [List.getElem?_map, hi, Option.map_some] at h6
        cases hfi : fs[i]? with
        | none => rw [hfi] at h6; cases h6
        | some g =>
          rw [hfi] at h6
          simp only [Option.map_some, Option.some.injEq, Prod.mk.injEq] at h6
          have hgn : g.name = f.name := by
            have := h6.1.symm.trans hx
            injection this
          have hil : i < fs.length := (List.getElem?_eq_some_iff.1 hfi).1
          have hij : i = j := by
            have hnd := hv.map.2.2.1
            have e1 : (fs.map (·.name))[i]? = some f.name := by rw [List.getElem?_map, hfi, ← hgn]; rfl
            have e2 : (fs.map (·.name))[j]? = some f.name := by rw [List.getElem?_map, hj]; rfl
            exact (List.getElem?_inj (by simpa using hil) hnd).1 (e1.trans e2.symm)
          subst hij
          exact h
    · have hv' := hv.set hj (v := v') (cels := f.cels ++ [(b0, c')]) (by simp) (fun x hx => by
        rcases List.mem_append.1 hx with hx | hx
        · exact hv.cel_fine (List.mem_of_getElem? hj) hx
        · simp only [List.mem_singleton] at hx; subst hx; exact hc) (by rw [List.length_append]; simp only [List.length_cons, List.length_nil]; omega)
      rw [List.map_append] at hv'
      rw [hat]
      refine Sat.disk_close (m := m) hv' ?_
      show Sat E w (HP.dk d A.room A.fuse m _ _ (fs.set j ⟨f.name, v', f.cels ++ [(b0, c')]⟩) * q)
      unfold HP.dk
      rw [all_take (l := (fs.set j (⟨f.name, v', f.cels ++ [(b0, c')]⟩ : Fil)).map HP.fil) (j := j) (p := HP.fil ⟨f.name, v', f.cels ++ [(b0, c')]⟩) (by rw [List.getElem?_map, List.getElem?_set]; simp [hjl])]
      rw [List.map_set, List.eraseIdx_set_eq]
      have e1 : HP.fil ⟨f.name, v', f.cels ++ [(b0, c')]⟩ = HP.row 77 1 v' (f.cels.length + 1) (f.ptrs ++ [.pointer (some ⟨b0, 0, none⟩)]) * (HP.all (f.cels.map fun x => HP.cel x.1 x.2) * HP.cel b0 c') := by
        unfold HP.fil
        simp only [List.map_append, HP.all_append, List.map_cons, List.map_nil, HP.all, HP.mul_emp, Fil.ptrs, List.length_append, List.length_cons, List.length_nil]
      rw [e1]
      exact h.perm (by ac_rfl)
end Go.Proofs.Ytgdcdcacccaanaa
