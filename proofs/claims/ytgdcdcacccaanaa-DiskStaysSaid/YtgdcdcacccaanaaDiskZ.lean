/- (*Disk).Write: an extent written anew. -/
import Derived.Test.YtgdcdcacccaanaaDiskY
import Derived.Test.YtgdcdcacccaanaaReg
namespace Go.Proofs.Ytgdcdcacccaanaa
open Go.RowKit HP
set_option linter.unusedSimpArgs false
set_option linter.unusedVariables false

theorem wp_store_run {P : Program} {o : Oper} {a : Act} {w w' : World} {K : Act → World → Prop} {Q : Exit → Act → World → Prop} {ty : TypeId} {p v : Operand} {adr : Addr} {V : Value} (ho : o.op = .store ty p v) (hp : a.eval p = .pointer (some adr)) (hv : a.eval v = V)
    (hd : o.dst = none) (hr : (storeVar ty adr V).run P w = .ok () w') (h : K a w') : o.wp P a w K Q := by
  unfold Oper.wp execOp
  simp only [ho, hp, hv, hd, Instr.storeAt, Instr.sureAddr, Sem.run_bind, Sem.run_pure, Result.andThen_ok, hr]
  show K (a.put o.dst undef) w'
  rw [hd]
  exact h
theorem exec_load {P : Program} {o : Oper} {a : Act} {w : World} {ty : TypeId} {p : Operand} {adr : Addr} {V : Value} (ho : o.op = .load ty p) (hp : a.eval p = .pointer (some adr)) (hr : (loadVar ty adr).run P w = .ok V w) : (execOp a.eval o).run P w = .ok (.value V) w := by
  unfold execOp
  simp only [ho, hp, Instr.loadAt, Instr.sureAddr, Sem.run_bind, Sem.run_pure, Result.andThen_ok, hr]
theorem exec_build {P : Program} {o : Oper} {a : Act} {w : World} {ty : TypeId} {ps : Array (Nat × Operand)} {V : Value} (ho : o.op = .build ty ps) (hr : (Instr.build ty (ps.map fun p => (p.1, a.eval p.2))).run P w = .ok V w) : (execOp a.eval o).run P w = .ok (.value V) w := by
  simp [execOp, ho, hr, Result.andThen]
theorem modify_map {α β : Type} (f : α → β) (g : α → α) (h : β → β) (hc : ∀ x, f (g x) = h (f x)) (l : List α) (k : Nat) : (l.modify k g).map f = (l.map f).modify k h := by
  apply List.ext_getElem?
  intro i
  simp only [List.getElem?_map, List.getElem?_modify]
  by_cases hi : k = i
  · subst hi
    cases l[k]? <;> simp [hc]
  · simp [hi]
theorem Cel.wrote_fine {c : Cel} (h : c.Fine) {l : List Int} (hl : l.length = 128) : (c.wrote l).Fine := ⟨hl, h.2.1, h.2.2.1, hl⟩
theorem all_map_set {α : Type} (g : α → HP) (l : List α) (k : Nat) (y : α) (h : k < l.length) : HP.all ((l.set k y).map g) = g y * HP.all ((l.map g).eraseIdx k) := by
  have h1 : ((l.set k y).map g)[k]? = some (g y) := by rw [List.getElem?_map, List.getElem?_set]; simp [h]
  rw [all_take h1, List.map_set, List.eraseIdx_set_eq]
/-- A file's extent taken out of a disk, and what becomes of the disk when it is laid anew. -/
theorem take_cel {E : Env} {q : HP} {w : World} {d m : Nat} {A : Dk} {es : Array MapEntry} {clock : Nat} {fs : List Fil} (hv : View A es clock fs) (hw : Sat E w (HP.dk d A.room A.fuse m es clock fs * q)) {j : Nat} {f : Fil} (hj : fs[j]? = some f) {k : Nat} {x : Nat × Cel} (hk : f.cels[k]? = some x) :
    ∃ r : HP, Sat E w (HP.cel x.1 x.2 * r) ∧ (∀ w, Sat E w r → Sat E w (HP.row 77 1 f.val f.cels.length f.ptrs * q)) ∧ ∀ (w' : World) (c' : Cel), c'.Fine → Sat E w' (HP.cel x.1 c' * r) → Sat E w' (HP.disk d (A.set f.name (f.cs.set k c')) * q) := by
  have h1 := dk_parts hw
  have h2 : Sat E w (HP.all (fs.map HP.fil) * (HP.dsk d A.room A.fuse m * (HP.pt m (.map es clock) * q))) := h1.perm (by ac_rfl)
  rw [all_take (l := fs.map HP.fil) (j := j) (p := HP.fil f) (by rw [List.getElem?_map, hj]; rfl)] at h2
  have h3 : Sat E w (HP.all (f.cels.map fun x => HP.cel x.1 x.2) * (HP.row 77 1 f.val f.cels.length f.ptrs * (HP.all ((fs.map HP.fil).eraseIdx j) * (HP.dsk d A.room A.fuse m * (HP.pt m (.map es clock) * q))))) := h2.perm (by unfold HP.fil; ac_rfl)
  rw [all_take (l := f.cels.map fun x => HP.cel x.1 x.2) (j := k) (p := HP.cel x.1 x.2) (by rw [List.getElem?_map, hk]; rfl)] at h3
  refine ⟨_, h3.perm (HP.mul_assoc _ _ _), fun w h => ?_, fun w' c' hc' h => ?_⟩
  · exact Sat.left (q := HP.all ((f.cels.map fun x => HP.cel x.1 x.2).eraseIdx k) * (HP.all ((fs.map HP.fil).eraseIdx j) * (HP.dsk d A.room A.fuse m * (HP.pt m (.map es clock))))) (h.perm (by ac_rfl))
  · have hjl : j < fs.length := (List.getElem?_eq_some_iff.1 hj).1
    have hkl : k < f.cels.length := (List.getElem?_eq_some_iff.1 hk).1
    let cels' := f.cels.set k (x.1, c')
    have hlen : cels'.length = f.cels.length := List.length_set
    have hne : cels' ≠ [] := by intro h0; rw [h0] at hlen; simp at hlen; omega
    have hv' := hv.set hj (v := f.val) (cels := cels') hne (fun y hy => by
      rcases List.mem_or_eq_of_mem_set hy with h5 | rfl
      · exact hv.cel_fine (List.mem_of_getElem? hj) h5
      · exact hc') (by have := hv.fine.fits; rw [hlen]; omega)
    have hcs : cels'.map (·.2) = f.cs.set k c' := by
      show (f.cels.set k _).map (·.2) = (f.cels.map (·.2)).set k c'
      rw [List.map_set]
    rw [hcs] at hv'
    have hkv := hv.map.2.1
    have hes : (es.modify j fun e => { e with key := Value.string f.name, val := f.val }) = es := by
      apply Array.toList_inj.1
      rw [Array.toList_modify]
      apply List.ext_getElem?
      intro i
      rw [List.getElem?_modify]
      by_cases hi : j = i
      · subst hi
        have h6 := congrArg (fun l => l[j]?) hkv
        simp only [List.getElem?_map, hj, Option.map_some] at h6
        cases h7 : es.toList[j]? with
        | none => rw [h7] at h6; cases h6
        | some e =>
          rw [h7] at h6
          simp only [Option.map_some, Option.some.injEq, Prod.mk.injEq] at h6
          simp only [if_true, Option.map_some, Option.map_eq_map, ← h6.1, ← h6.2]
      · simp [hi]
    rw [hes] at hv'
    refine Sat.disk_close (m := m) hv' ?_
    show Sat E w' (HP.dk d A.room A.fuse m es clock (fs.set j ⟨f.name, f.val, cels'⟩) * q)
    have ha : HP.all ((fs.set j (⟨f.name, f.val, cels'⟩ : Fil)).map HP.fil) = HP.fil ⟨f.name, f.val, cels'⟩ * HP.all ((fs.map HP.fil).eraseIdx j) := by
      rw [all_take (l := (fs.set j (⟨f.name, f.val, cels'⟩ : Fil)).map HP.fil) (j := j) (p := HP.fil ⟨f.name, f.val, cels'⟩) (by rw [List.getElem?_map, List.getElem?_set]; simp [hjl])]
      rw [List.map_set, List.eraseIdx_set_eq]
    have hp : (⟨f.name, f.val, cels'⟩ : Fil).ptrs = f.ptrs := by
      show (f.cels.set k _).map _ = f.cels.map _
      rw [List.map_set]
      apply List.ext_getElem?
      intro i
      rw [List.getElem?_set]
      by_cases hi : k = i
      · subst hi; simp [hk]; exact hkl
      · simp [hi]
    have hb : HP.all (cels'.map fun x => HP.cel x.1 x.2) = HP.cel x.1 c' * HP.all ((f.cels.map fun x => HP.cel x.1 x.2).eraseIdx k) :=
      all_map_set (fun x : Nat × Cel => HP.cel x.1 x.2) f.cels k (x.1, c') hkl
    unfold HP.dk
    rw [ha]
    show Sat E w' (HP.dsk d A.room A.fuse m * (HP.pt m (.map es clock) * (HP.row 77 1 f.val cels'.length (⟨f.name, f.val, cels'⟩ : Fil).ptrs * HP.all (cels'.map fun x => HP.cel x.1 x.2) * HP.all ((fs.map HP.fil).eraseIdx j))) * q)
    rw [hlen, hp, hb]
    exact h.perm (by ac_rfl)
end Go.Proofs.Ytgdcdcacccaanaa
