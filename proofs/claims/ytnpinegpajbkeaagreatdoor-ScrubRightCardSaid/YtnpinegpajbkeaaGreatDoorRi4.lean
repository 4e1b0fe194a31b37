/- Texts of one claim, one behind the other: RangeG, RangeF, CrashB, Law, Rd, By, DiskM, RefA3, RefB3, LeftZ, RegM. -/
import Derived.Test.YtnpinegpajbkeaaGreatDoorRi3
import Derived.Maps.OwnIn
import Derived.Test.YtnpinegpajbkeaaGreatDoorRows
import Derived.WalkKit
import Derived.ProofKit
import Derived.OpenShut
import Derived.Below
import Derived.Carry
import Derived.Deep.Slices
import Derived.Deep.Fields
import Derived.ChangeSame
import Derived.Laws.BytesString
import Derived.Laws.MakeOwn
import Derived.WideShapes
import Derived.Laws.RangeAny
import Derived.Laws.RangeString
set_option linter.unusedSimpArgs false
set_option linter.unusedVariables false
namespace Go.Proofs.YtnpinegpajbkeaaGreatDoor
open Go.RowKit HP
theorem wpList_load_run {P : Program} {ops : Array Oper} {rest : List Oper} {o : Oper} {a : Act} {w : World} {Q : Exit → Act → World → Prop} {ty : TypeId} {p : Operand} {adr : Addr} {V : Value} (hg : o.guard = none) (ho : o.op = .load ty p) (hp : a.eval p = .pointer (some adr)) (hr : (loadVar ty adr).run P w = .ok V w)
    (h : wpList P ops Q rest (a.put o.dst V) w) : wpList P ops Q (o :: rest) a w := wpList_value hg (exec_load ho hp hr) h
theorem wpList_store_run {P : Program} {ops : Array Oper} {rest : List Oper} {o : Oper} {a : Act} {w w' : World} {Q : Exit → Act → World → Prop} {ty : TypeId} {p v : Operand} {adr : Addr} {V : Value} (hg : o.guard = none) (ho : o.op = .store ty p v) (hp : a.eval p = .pointer (some adr)) (hv : a.eval v = V) (hd : o.dst = none) (hr : (storeVar ty adr V).run P w = .ok () w')
    (h : wpList P ops Q rest a w') : wpList P ops Q (o :: rest) a w :=
  wpList_plain hg fun K' hK' => wp_store_run ho hp hv hd hr (hK' _ _ h)
theorem wp_copy_run {P : Program} {o : Oper} {a : Act} {w w' : World} {K : Act → World → Prop} {Q : Exit → Act → World → Prop} {x y : Operand} {t s : TypeId} {X Y V : Value} (ho : o.op = .call { callee := .builtin .copy, args := #[x, y], argTypes := #[t, s] }) (hx : a.eval x = X) (hy : a.eval y = Y)
    (hr : (Builtin.copy_ #[t, s] o.type #[X, Y]).run P w = .ok V w') (h : K (a.put o.dst V) w') : o.wp P a w K Q := by
  unfold Oper.wp execOp
  simp only [ho, resolve, invoke, builtin, Sem.run_bind, Sem.run_pure, Result.andThen_ok, List.map_toArray, List.map_cons, List.map_nil, hx, hy, hr]
  exact h
theorem dk_file {E : Env} {q : HP} {w : World} {d m : Nat} {room fuse : Int} {es : Array MapEntry} {clock : Nat} {fs : List Fil} (hw : Sat E w (HP.dk d room fuse m es clock fs * q)) {j : Nat} {f : Fil} (hj : fs[j]? = some f) :
    ∃ R0 : HP, Sat E w (HP.row 145 1 f.val f.cels.length (celPtrs f.cels) * (HP.cels f.cels * (R0 * q))) ∧
      ∀ (w' : World) (cels' : List (Nat × Cel)), cels'.map (·.1) = f.cels.map (·.1) → Sat E w' (HP.row 145 1 f.val f.cels.length (celPtrs f.cels) * (HP.cels cels' * (R0 * q))) →
        Sat E w' (HP.dk d room fuse m es clock (fs.set j ⟨f.name, f.val, cels'⟩) * q) := by
  have h1 := dk_parts hw
  have h2 : Sat E w (HP.all (fs.map HP.fil) * (HP.dsk d room fuse m * (HP.pt m (.map es clock) * q))) := h1.perm (by ac_rfl)
  rw [all_take (l := fs.map HP.fil) (j := j) (p := HP.fil f) (by rw [List.getElem?_map, hj]; rfl)] at h2
  refine ⟨HP.all ((fs.map HP.fil).eraseIdx j) * (HP.dsk d room fuse m * HP.pt m (.map es clock)), h2.perm (by unfold HP.fil HP.cels Fil.ptrs celPtrs; ac_rfl), fun w' cels' hfst h => ?_⟩
  have hjl : j < fs.length := (List.getElem?_eq_some_iff.1 hj).1
  have hlen : cels'.length = f.cels.length := by simpa using congrArg List.length hfst
  unfold HP.dk
  rw [all_take (l := (fs.set j (⟨f.name, f.val, cels'⟩ : Fil)).map HP.fil) (j := j) (p := HP.fil ⟨f.name, f.val, cels'⟩) (by rw [List.getElem?_map, List.getElem?_set]; simp [hjl])]
  rw [List.map_set, List.eraseIdx_set_eq]
  have hp : (⟨f.name, f.val, cels'⟩ : Fil).ptrs = celPtrs f.cels := by
    show cels'.map (fun x => Value.pointer (some ⟨x.1, 0, none⟩)) = _
    unfold celPtrs
    have := congrArg (List.map fun b : Nat => Value.pointer (some ⟨b, 0, none⟩)) hfst
    simpa [List.map_map, Function.comp_def] using this
  have e1 : HP.fil ⟨f.name, f.val, cels'⟩ = HP.row 145 1 f.val f.cels.length (celPtrs f.cels) * HP.cels cels' := by
    unfold HP.fil HP.cels
    rw [hp]
    show HP.row 145 1 f.val cels'.length _ * _ = _
    rw [hlen]
  rw [e1]
  exact h.perm (by ac_rfl)
theorem next_file {E : Env} {q : HP} {w : World} {d m g : Nat} {room fuse : Int} {es : Array MapEntry} {clock c0 : Nat} {seen : Array Nat} {fs : List Fil} (hm : MapOf es clock fs) (hc : clock ≤ c0) (h : Sat E w (HP.pt g (.mapIter (some m) clock seen c0) * (HP.dk d room fuse m es clock fs * q))) (ty : TypeId) :
    (leftL es seen = [] ∧ (Instr.next (.pointer (some ⟨g, 0, none⟩)) false ty).run Tryz.prog w = .ok (.tuple #[.bool false]) w) ∨
    ∃ (j : Nat) (f : Fil) (e : MapEntry) (w2 : World), fs[j]? = some f ∧ es.toList[j]? = some e ∧ e ∈ leftL es seen ∧ (Instr.next (.pointer (some ⟨g, 0, none⟩)) false ty).run Tryz.prog w = .ok (.tuple #[.bool true, .string f.name, f.val]) w2 ∧
      (Instr.entry (.pointer (some ⟨g, 0, none⟩))).run Tryz.prog w2 = .ok (.tuple #[.string f.name, f.val]) w2 ∧ Sat E w2 (HP.pt g (.mapIter (some m) clock (seen.push e.born) clock) * (HP.dk d room fuse m es clock fs * q)) := by
  have hb : w.heap[m]? = some (.map es clock) := by
    have h1 : Sat E w (HP.pt m (.map es clock) * (HP.pt g (.mapIter (some m) clock seen c0) * (HP.dsk d room fuse m * (HP.all (fs.map HP.fil) * q)))) := h.perm (by unfold HP.dk; ac_rfl)
    exact h1.get
  rcases run_next_at (P := Tryz.prog) w ty g m clock c0 seen es clock h.get hb hm.2.2.2.1 hc with ⟨hz, hnext⟩ | ⟨e, he, w2, hw2, hnext⟩
  · exact .inl ⟨by rw [← leftOf_eq]; exact List.eq_nil_of_length_eq_zero (by simpa using hz), hnext⟩
  · have he' : e ∈ leftL es seen := by rw [← leftOf_eq]; exact he
    have hes : e ∈ es.toList := (List.mem_filter.1 he').1
    have S2 : Sat E w2 (HP.pt g (.mapIter (some m) clock seen c0) * (HP.dk d room fuse m es clock fs * q)) := by
      rcases hw2 with rfl | rfl
      · exact h
      · exact h.drew
    have S3 := Sat.setBlock S2 (.mapIter (some m) clock (seen.push e.born) clock)
    have hb3 : (ChangeMaps.setBlock w2 g (.mapIter (some m) clock (seen.push e.born) clock)).heap[m]? = some (.map es clock) := by
      have h1 : Sat E _ (HP.pt m (.map es clock) * (HP.pt g (.mapIter (some m) clock (seen.push e.born) clock) * (HP.dsk d room fuse m * (HP.all (fs.map HP.fil) * q)))) := S3.perm (by unfold HP.dk; ac_rfl)
      exact h1.get
    have hent := run_entry_at (P := Tryz.prog) _ g m clock seen es clock e S3.get hb3 hes hm.2.2.2.2
    obtain ⟨j, hj⟩ := List.getElem?_of_mem hes
    have h6 := congrArg (fun l => l[j]?) hm.2.1
    simp only [List.getElem?_map, hj, Option.map_some] at h6
    cases hf : fs[j]? with
    | none => rw [hf] at h6; cases h6
    | some f =>
      rw [hf] at h6
      simp only [Option.map_some, Option.some.injEq, Prod.mk.injEq] at h6
      refine .inr ⟨j, f, e, _, hf, hj, he', ?_, ?_, S3⟩
      · rw [← h6.1, ← h6.2]; exact hnext
      · rw [← h6.1, ← h6.2]; exact hent
def seenMap (es : Array MapEntry) (seen : Array Nat) (g : Fil → Fil) (fs : List Fil) : List Fil := List.zipWith (fun e f => if seen.contains e.born then g f else f) es.toList fs
theorem seenMap_start {es : Array MapEntry} {g : Fil → Fil} {fs : List Fil} (hl : es.toList.length = fs.length) : seenMap es #[] g fs = fs := by
  unfold seenMap
  apply List.ext_getElem?
  intro i
  rw [List.getElem?_zipWith]
  by_cases h : i < fs.length
  · rw [List.getElem?_eq_getElem (by omega : i < es.toList.length), List.getElem?_eq_getElem h]; simp
  · rw [List.getElem?_eq_none (by omega : fs.length ≤ i), List.getElem?_eq_none (by omega : es.toList.length ≤ i)]
theorem seenMap_end {es : Array MapEntry} {seen : Array Nat} {g : Fil → Fil} {fs : List Fil} (hl : es.toList.length = fs.length) (h : leftL es seen = []) : seenMap es seen g fs = fs.map g := by
  unfold seenMap
  apply List.ext_getElem?
  intro i
  rw [List.getElem?_zipWith, List.getElem?_map]
  by_cases hi : i < fs.length
  · have hie : i < es.toList.length := by omega
    rw [List.getElem?_eq_getElem hie, List.getElem?_eq_getElem hi]
    have : seen.contains (es.toList[i]).born = true := by
      have h1 := List.filter_eq_nil_iff.1 h _ (List.getElem_mem hie)
      simpa using h1
    simp only [this, if_true, Option.map_some]
  · rw [List.getElem?_eq_none (by omega : fs.length ≤ i), List.getElem?_eq_none (by omega : es.toList.length ≤ i)]; rfl
theorem seenMap_at {es : Array MapEntry} {seen : Array Nat} {g : Fil → Fil} {fs : List Fil} {j : Nat} {f' : Fil} {e : MapEntry} (hj : es.toList[j]? = some e) (he : e ∈ leftL es seen) (h : (seenMap es seen g fs)[j]? = some f') : fs[j]? = some f' := by
  unfold seenMap at h
  rw [List.getElem?_zipWith, hj] at h
  have hs := (List.mem_filter.1 he).2
  cases hf : fs[j]? with
  | none => rw [hf] at h; cases h
  | some f =>
    rw [hf] at h
    simp only [Bool.not_eq_true', Bool.not_eq_eq_eq_not, Bool.not_true] at hs
    simp only [hs, Bool.false_eq_true, if_false, Option.some.injEq] at h
    rw [h]
theorem seenMap_next {es : Array MapEntry} {seen : Array Nat} {g : Fil → Fil} {fs : List Fil} {j : Nat} {f : Fil} {e : MapEntry} (hn : (es.toList.map (·.born)).Nodup) (hl : es.toList.length = fs.length) (hj : es.toList[j]? = some e) (hf : fs[j]? = some f) (he : e ∈ leftL es seen) :
    (seenMap es seen g fs).set j (g f) = seenMap es (seen.push e.born) g fs := by
  have hjl : j < es.toList.length := (List.getElem?_eq_some_iff.1 hj).1
  unfold seenMap
  apply List.ext_getElem?
  intro i
  rw [List.getElem?_set, List.getElem?_zipWith, List.getElem?_zipWith]
  by_cases hij : j = i
  · subst hij
    rw [hj, hf]
    simp [List.length_zipWith, ← hl, hjl]
    simpa using hjl
  · rw [if_neg hij]
    by_cases hi : i < fs.length
    · have hie : i < es.toList.length := by omega
      rw [List.getElem?_eq_getElem hie, List.getElem?_eq_getElem hi]
      have hne : (es.toList[i]).born ≠ e.born := by
        intro h1
        have e1 : (es.toList.map (·.born))[i]? = some e.born := by rw [List.getElem?_map, List.getElem?_eq_getElem hie]; simpa using h1
        have e2 : (es.toList.map (·.born))[j]? = some e.born := by rw [List.getElem?_map, hj]; rfl
        exact hij ((List.getElem?_inj (by simpa using hjl) hn).1 (e2.trans e1.symm))
      simp only [Array.contains_push]
      have : ((es.toList[i]).born == e.born) = false := by simpa using hne
      rw [this, Bool.or_false]
    · rw [List.getElem?_eq_none (by omega : fs.length ≤ i), List.getElem?_eq_none (by omega : es.toList.length ≤ i)]
theorem seenMap_same {es : Array MapEntry} {seen : Array Nat} {g : Fil → Fil} (hg : ∀ f, (g f).name = f.name ∧ (g f).val = f.val) {clock : Nat} {fs : List Fil} (hm : MapOf es clock fs) : MapOf es clock (seenMap es seen g fs) := by
  obtain ⟨h1, h2, h3, h4, h5⟩ := hm
  have hl : es.toList.length = fs.length := by simpa using congrArg List.length h2
  have hat : ∀ i : Nat, ((seenMap es seen g fs)[i]?).map (fun f : Fil => (f.name, f.val)) = (fs[i]?).map (fun f : Fil => (f.name, f.val)) := by
    intro i
    unfold seenMap
    rw [List.getElem?_zipWith]
    by_cases hi : i < fs.length
    · rw [List.getElem?_eq_getElem (by omega : i < es.toList.length), List.getElem?_eq_getElem hi]
      simp only [Option.map_some]
      split
      · rw [(hg _).1, (hg _).2]
      · rfl
    · rw [List.getElem?_eq_none (by omega : fs.length ≤ i), List.getElem?_eq_none (by omega : es.toList.length ≤ i)]
  have hmap : (seenMap es seen g fs).map (fun f : Fil => (f.name, f.val)) = fs.map (fun f : Fil => (f.name, f.val)) := List.ext_getElem? fun i => by rw [List.getElem?_map, List.getElem?_map, hat]
  refine ⟨h1, ?_, ?_, h4, h5⟩
  · rw [h2]
    have := congrArg (List.map fun x : ByteArray × Value => (Value.string x.1, x.2)) hmap
    simpa [List.map_map, Function.comp_def] using this.symm
  · have := congrArg (List.map Prod.fst) hmap
    simp only [List.map_map, Function.comp_def] at this
    rw [this]; exact h3
theorem left_less {es : Array MapEntry} {seen : Array Nat} {e : MapEntry} (hn : (es.toList.map (·.born)).Nodup) (he : e ∈ leftL es seen) : (leftL es (seen.push e.born)).length < (leftL es seen).length := by
  have hnd : ((leftL es seen).map (·.born)).Nodup := hn.sublist ((List.filter_sublist).map _)
  obtain ⟨-, h2⟩ := sum_step hnd he
  rw [left_push]
  omega
def mapPre (g : Nat → Cel → Cel) (l : List (Nat × Cel)) (k : Nat) : List (Nat × Cel) := l.mapIdx fun i x => if i < k then (x.1, g i x.2) else x
theorem mapPre_at {g : Nat → Cel → Cel} {l : List (Nat × Cel)} {k : Nat} (h : k < l.length) : (mapPre g l k)[k]? = some l[k] := by
  unfold mapPre
  rw [List.getElem?_mapIdx, List.getElem?_eq_getElem h]
  simp
theorem mapPre_next {g : Nat → Cel → Cel} {l : List (Nat × Cel)} {k : Nat} (h : k < l.length) : (mapPre g l k).set k ((l[k]).1, g k (l[k]).2) = mapPre g l (k + 1) := by
  unfold mapPre
  apply List.ext_getElem?
  intro i
  rw [List.getElem?_set, List.getElem?_mapIdx, List.getElem?_mapIdx]
  by_cases hik : k = i
  · subst hik
    simp [h, List.length_mapIdx]
  · rw [if_neg hik]
    by_cases hlt : i < k
    · simp [hlt, show i < k + 1 by omega]
    · simp [hlt, show ¬ i < k + 1 by omega]
theorem mapPre_fst (g : Nat → Cel → Cel) (l : List (Nat × Cel)) (k : Nat) : (mapPre g l k).map (·.1) = l.map (·.1) := by
  unfold mapPre
  apply List.ext_getElem?
  intro i
  rw [List.getElem?_map, List.getElem?_mapIdx, List.getElem?_map, Option.map_map]
  congr 1
  funext x
  simp only [Function.comp_apply]
  split <;> rfl
theorem mapPre_zero (g : Nat → Cel → Cel) (l : List (Nat × Cel)) : mapPre g l 0 = l := by
  unfold mapPre
  apply List.ext_getElem?
  intro i
  rw [List.getElem?_mapIdx]
  cases l[i]? <;> simp
theorem mapPre_all (g : Nat → Cel → Cel) (l : List (Nat × Cel)) : mapPre g l l.length = l.mapIdx fun i x => (x.1, g i x.2) := by
  unfold mapPre
  apply List.ext_getElem?
  intro i
  rw [List.getElem?_mapIdx, List.getElem?_mapIdx]
  by_cases h : i < l.length
  · simp [h]
  · rw [List.getElem?_eq_none (by omega)]; rfl
theorem lk_map {α β : Type} (h : ByteArray → α → β) (l : List (ByteArray × α)) (s : ByteArray) : lk (l.map fun x => (x.1, h x.1 x.2)) s = (lk l s).map (h s) := by
  induction l with
  | nil => rfl
  | cons x l ih =>
    obtain ⟨a, u⟩ := x
    rw [List.map_cons, lk_cons, lk_cons, ih]
    split
    · rename_i he; subst he; rfl
    · rfl
theorem lkF_map {g : Fil → Fil} {h : ByteArray → List Cel → List Cel} (hg : ∀ f, (g f).name = f.name ∧ (g f).cs = h f.name f.cs) (fs : List Fil) (s : ByteArray) : lkF (fs.map g) s = (lkF fs s).map (h s) := by
  unfold lkF
  induction fs with
  | nil => rfl
  | cons f fs ih =>
    rw [List.map_cons, List.find?_cons, List.find?_cons, (hg f).1]
    by_cases he : f.name = s
    · simp only [he, decide_true, Option.map_some]
      rw [(hg f).2, he]
    · simp only [he, decide_false]
      exact ih
theorem sorted_map {α β : Type} (h : ByteArray → α → β) {l : List (ByteArray × α)} (hs : Sorted l) : Sorted (l.map fun x => (x.1, h x.1 x.2)) := by
  unfold Sorted at hs ⊢
  rw [List.pairwise_map]
  exact hs
def crashFil (K : List Kep) (f : Fil) : Fil := ⟨f.name, f.val, f.cels.mapIdx fun i x => (x.1, x.2.crashd (keepOf K f.name i))⟩
theorem crashL_length (K : List Kep) (s : ByteArray) (l : List Cel) : (crashL K s l).length = l.length := by simp [crashL]
theorem Dk.crash_fine {A : Dk} (h : A.Fine) (K : List Kep) : (A.crash K).Fine := by
  refine ⟨sorted_map (crashL K) h.sorted, fun x hx => ?_, fun x hx c hc => ?_, h.room, ⟨by show (-1 : Int) ≤ -1; omega, by show (-1 : Int) ≤ _; omega⟩, ?_⟩
  · obtain ⟨y, hy, rfl⟩ := List.mem_map.1 hx
    obtain ⟨h1, h2⟩ := h.named y hy
    refine ⟨h1, fun h0 => h2 ?_⟩
    have := crashL_length K y.1 y.2
    have h0 : crashL K y.1 y.2 = [] := h0
    rw [h0] at this
    exact List.eq_nil_of_length_eq_zero this.symm
  · obtain ⟨y, hy, rfl⟩ := List.mem_map.1 hx
    have hc : c ∈ crashL K y.1 y.2 := hc
    unfold crashL at hc
    obtain ⟨i, hi⟩ := List.getElem?_of_mem hc
    rw [List.getElem?_mapIdx] at hi
    obtain ⟨c0, hc0, rfl⟩ := Option.map_eq_some_iff.1 hi
    exact Cel.crashd_fine (h.cels y hy c0 (List.mem_of_getElem? hc0)) (keepOf_range _ _ _)
  · have : sizeF (A.crash K).files = sizeF A.files := by
      unfold Dk.crash sizeF
      simp only [List.map_map, Function.comp_def, crashL_length]
    rw [this]; exact h.fits
theorem crashFil_cs (K : List Kep) (f : Fil) : (crashFil K f).cs = crashL K f.name f.cs := by
  unfold Fil.cs crashFil crashL
  apply List.ext_getElem?
  intro i
  simp only [List.getElem?_map, List.getElem?_mapIdx, Option.map_map]
  rfl
theorem View.crash {A : Dk} {es : Array MapEntry} {clock : Nat} {fs : List Fil} (h : View A es clock fs) (K : List Kep) : View (A.crash K) es clock (fs.map (crashFil K)) := by
  refine ⟨?_, fun s => ?_, Dk.crash_fine h.fine K⟩
  · obtain ⟨h1, h2, h3, h4, h5⟩ := h.map
    refine ⟨h1, ?_, ?_, h4, h5⟩
    · rw [h2, List.map_map]; rfl
    · rw [List.map_map]; exact h3
  · rw [lkF_map (g := crashFil K) (h := crashL K) (fun f => ⟨rfl, crashFil_cs K f⟩), h.same]
    exact (lk_map (crashL K) A.files s).symm
theorem crash_splice {c : Cel} (h : c.Fine) {n : Nat} (hn : n ≤ 128) : splice c.vals 128 (b8s (c.written.take n)) = ({ c with durable := c.written.take n ++ c.durable.drop n } : Cel).vals := by
  have e : c.vals = b8s c.read ++ (b8s (c.durable.take n) ++ (b8s (c.durable.drop n) ++ (b8s c.synced ++ (b8s c.written ++ [.bool c.waits])))) := by
    unfold Cel.vals
    rw [← List.append_assoc (b8s (c.durable.take n))]
    have : b8s (c.durable.take n) ++ b8s (c.durable.drop n) = b8s c.durable := by
      unfold b8s
      rw [← List.map_append, List.take_append_drop]
    rw [this]
  rw [e, splice_mid _ _ _ _ (off := 128) (by rw [b8s_length, h.1]) (by simp [b8s_length, h.2.1, h.2.2.2])]
  simp [Cel.vals, b8s]
end Go.Proofs.YtnpinegpajbkeaaGreatDoor
namespace Go.Proofs.YtnpinegpajbkeaaGreatDoor
open Go.RowKit HP
attribute [local go_sem] Oper.semAt_some
set_option maxHeartbeats 4000000 in
set_option maxRecDepth 100000 in
theorem disk_crash (E : Env) (q : HP) (d : Nat) (A : Dk) (Ak : Option Addr) (K : List Kep) (ck : Nat) (w : World) (hK : K.length ≤ 9223372036854775807) (hwf : ∀ k ∈ K, k.name.size ≤ maxLen ∧ wf64 k.index ∧ wf64 k.bytes) (hq : ∀ E w, Sat E w q → Cells w Ak (kepCells K)) (hw : Sat E w (HP.disk d A * q)) :
    Calls Tryz.prog 81 #[.pointer (some ⟨d, 0, none⟩), .slice Ak K.length ck] w fun e w' => e = .returned (.int .i64 0) ∧ Sat E w' (HP.disk d (A.crash K) * q) := by
  obtain ⟨m, es, clock, fs, hv, hd⟩ := hw.disk_open
  clear hw
  refine calls_of_wp_marks Tryz.func81 rfl ?_
  simp only [Tryz.ntmps81, List.size_toArray, List.length_cons, List.length_nil, Nat.reduceAdd, Nat.reduceSub, Array.replicate_succ, Array.replicate_zero, List.push_toArray, List.append_toArray, List.nil_append, List.cons_append]
  go_wp2_with fail
  refine (disk_none E _ d _ _ m w (dk_parts hd)).mono ?_
  rintro e w1 ⟨rfl, rfl⟩
  have c2 := (dk_parts hd).cell 2
  simp only [List.getElem?_toArray, List.getElem?_cons_zero, List.getElem?_cons_succ] at c2
  have f2 := (dk_parts hd).thaw 2
  have hmm := @run_makeMap Tryz.prog
  have h3 := (dk_parts hd).set (i := 2) (.int .i64 (-1))
  go_wp2_with fail
  refine (backward_ok Ak K.length ck _).mono ?_
  rintro e w3 ⟨rfl, rfl⟩
  have hsz : (w1.setCell ⟨d, 2, none⟩ (.int .i64 (-1))).heap.size = w1.heap.size := by simp [World.setCell]
  have hS := ((h3.alloc (.map #[] 0)).alloc (.cells #[.map (some w1.heap.size)] 181)).alloc (.cells #[.slice Ak K.length ck] 44)
  simp only [World.size_alloc, hsz] at hS
  simp only [World.size_alloc, hsz]
  clear h3 hsz c2 f2 hmm
  generalize w1.heap.size = b0 at *
  generalize World.alloc (World.alloc _ _) _ = w4 at *
  go_wp2
  have hS1 : Sat E w4 (HP.keeps b0 (fun _ _ => 0) * (HP.pt (b0 + 1 + 1) (.cells #[.slice Ak K.length ck] 44) * (HP.pt (b0 + 1) (.cells #[.map (some b0)] 181) * (HP.dk d A.room (-1) m es clock fs * q)))) :=
    Sat.keeps_close SpotMap.empty (hS.perm (by unfold HP.dk HP.dsk; simp only [List.setIfInBounds_toArray, List.set_cons_zero, List.set_cons_succ]; ac_rfl))
  have hlt : b0 + 1 + 1 < w4.heap.size := hS.lt
  clear hS hd
  have hqk : ∀ (E' : Env) W p, Sat E' W (p * (HP.pt (b0 + 1 + 1) (.cells #[.slice Ak K.length ck] 44) * (HP.pt (b0 + 1) (.cells #[.map (some b0)] 181) * (HP.dk d A.room (-1) m es clock fs * q)))) → W.cell? ⟨b0 + 1 + 1, 0, none⟩ = some (.slice Ak K.length ck) ∧ W.heap[b0 + 1 + 1]? = some (.cells #[.slice Ak K.length ck] 44) := fun E' W p h => ⟨h.s2.cell 0, h.s2.get⟩
  have hqc : ∀ (E' : Env) W p, Sat E' W (p * (HP.pt (b0 + 1 + 1) (.cells #[.slice Ak K.length ck] 44) * (HP.pt (b0 + 1) (.cells #[.map (some b0)] 181) * (HP.dk d A.room (-1) m es clock fs * q)))) → W.cell? ⟨b0 + 1, 0, none⟩ = some (.map (some b0)) := fun E' W p h => h.s3.cell 0
  have hq' : ∀ (E' : Env) W p, Sat E' W (p * (HP.pt (b0 + 1 + 1) (.cells #[.slice Ak K.length ck] 44) * (HP.pt (b0 + 1) (.cells #[.map (some b0)] 181) * (HP.dk d A.room (-1) m es clock fs * q)))) → Cells W Ak (kepCells K) := fun E' W p h => hq E' W h.right.right.right.right
  refine wp_range_sat (α := { x : Nat // x < K.length }) rfl (enters_of Tryz.func152 (by kernel_rfl) rfl)
    (back_stops 19 (by omega) (b0 + 1 + 1) Ak K ck hK w4 hlt (hqk _ _ _ hS1).1 (hq' _ _ _ hS1)) (fun h k => h.trans k) (fun W l o o' hl ho h1 _ => KeepSl.put (by omega) ho h1 o')
    (fun E1 E2 W W' p p' h1 h2 => ⟨(hqk _ _ _ h2).2.trans (hqk _ _ _ h1).2.symm, fun _ => hq' _ _ _ h2⟩) (fun _ => rfl)
    (fun pre => HP.keeps b0 (keepFold K (sub1 pre))) (fun pre => HP.keeps_solid (by omega) _) hS1
    (fun x a' W => ∃ b, w4.heap.size ≤ b ∧ W.heap[b]? = some (.cells (kepA K x.1) 186) ∧ a' = { tmps := #[.pointer (some ⟨d, 0, none⟩), .slice Ak K.length ck, undef, undef, .int .i64 0, .pointer (some ⟨b0 + 1, 0, none⟩), undef, .pointer (some ⟨b, 0, none⟩), undef, undef, undef, undef, .pointer (some ⟨d, 0, none⟩), .bool false, .pointer (some ⟨d, 0, none⟩), .pointer (some ⟨d, 0, none⟩), .pointer (some ⟨d, 2, none⟩), .map (some b0), .slice Ak K.length ck, .func (Fn.func 152) #[] #[.pointer (some ⟨b0 + 1 + 1, 0, none⟩)], .int .i64 x.1, .agg (kepA K x.1), undef, undef, undef, undef, undef, undef, undef, undef, undef, undef, undef, undef, undef, undef, undef, undef, undef, undef, undef, undef, undef, undef, undef, undef, undef, undef, undef, undef, undef, undef, undef, undef, undef, undef, undef, undef, undef, undef, undef, undef, undef, undef, undef, undef, undef, undef, undef, undef, undef, undef, undef, undef, undef, undef, undef, undef, undef], defers := [] }) ?hAx ?assign ?body ?done
  case hAx =>
    rintro x a' s W W' row ⟨b, hb, ho, rfl⟩ hg hr
    refine ⟨b, hb, ?_, rfl⟩
    rw [hg.block b (Array.getElem?_eq_some_iff.1 ho).1 (fun e => ?_)]
    · exact ho
    · obtain ⟨-, o, h1, h2⟩ := hr b e.symm
      rw [ho] at h1; cases h1; cases h2
  case assign =>
    intro l x W K' hsz hK'
    obtain ⟨kp, hkp⟩ : ∃ kp, K[x.1]? = some kp := ⟨_, List.getElem?_eq_getElem x.2⟩
    have e1 : kepArgs K x.1 = #[.int .i64 x.1, .agg #[.string kp.name, .int .i64 kp.index, .int .i64 kp.bytes]] := by simp [kepArgs, hkp, Kep.vals]
    rw [e1]
    clear hq hq' hqk hqc hS1
    gi_wp2
    exact hK' _ _ ((Below.refl _ _).alloc (Nat.le_refl _) _) ⟨W.heap.size, hsz, by rw [heap_alloc_new]; simp [kepA, hkp, Kep.vals], by simp [kepA, hkp, Kep.vals]⟩
  case body =>
    rintro E' q' l pre x a' W hqq hI ⟨b, hbl, hbo, rfl⟩ hpre
    obtain ⟨kp, hkp⟩ : ∃ kp, K[x.1]? = some kp := ⟨_, List.getElem?_eq_getElem x.2⟩
    have e1 : kepA K x.1 = #[.string kp.name, .int .i64 kp.index, .int .i64 kp.bytes] := by simp [kepA, hkp, Kep.vals]
    rw [e1] at hbo ⊢
    obtain ⟨hk1, hk2, hk3⟩ := hwf kp (List.mem_of_getElem? hkp)
    have g0 := cell_of_row W b 0 _ _ _ hbo
    have g1 := cell_of_row W b 1 _ _ _ hbo
    have g2 := cell_of_row W b 2 _ _ _ hbo
    simp only [List.getElem?_toArray, List.getElem?_cons_zero, List.getElem?_cons_succ] at g0 g1 g2
    have c1 := hqc _ _ _ (hqq _ _ hI)
    obtain ⟨kes, kclock, hsm, hI2⟩ := hI.keeps_open
    obtain ⟨es', clock', hrun, hsm'⟩ := hsm.update hI2.get hk1 hk2 (v := clampK kp.bytes)
    have HT := Aside.mk (Sat.keeps_close hsm' (Sat.setBlk hI2 (.map es' clock')))
    have HX : Aside (keepFold K (sub1 (pre ++ [x])) = spotPut (keepFold K (sub1 pre)) kp.name kp.index (clampK kp.bytes)) := ⟨by rw [sub1_snoc, keepFold_snoc K _ x.1 kp hkp]⟩
    clear hq hq' hqk hqc hS1 hqq hI hI2 hsm hsm' hkp e1 hbo hwf
    have hcl : Aside ((if 128 < (if kp.bytes < 0 then 0 else kp.bytes) then 128 else if kp.bytes < 0 then 0 else kp.bytes) = clampK kp.bytes) := ⟨by unfold clampK; split <;> split <;> omega⟩
    gi_wp2_with (gi_at_mapUpdate; refine wpListIn_mapUpdate_run rfl rfl rfl rfl (congrArg (Value.int .i64) hcl.out) hrun ?_)
    all_goals
      show Sat E' _ _
      rw [HX.out]
      exact HT.out
  case done =>
    intro D xs W hxs hI
    have hxs : sub1 xs = _ := hxs
    rw [hxs, keepFold_all] at hI
    have hI2 : Sat E W (HP.dsk d A.room (-1) m * (HP.pt m (.map es clock) * (HP.all (fs.map HP.fil) * (HP.pt D (.deferred (some [])) * (HP.keeps b0 (keepOf K) * (HP.pt (b0 + 1) (.cells #[.map (some b0)] 181) * q)))))) := Sat.right (p := HP.pt (b0 + 1 + 1) (.cells #[.slice Ak K.length ck] 44)) (hI.perm (by unfold HP.dk; ac_rfl))
    clear hS1 hqk hqc hq' hxs hI hq
    have c1 := hI2.cell 1
    simp only [List.getElem?_toArray, List.getElem?_cons_zero, List.getElem?_cons_succ] at c1
    have hrg := run_range_map (P := Tryz.prog) (t := 141) Tryz.underlying141 hI2.s2.get
    have HS0 := Aside.mk (hI2.alloc (.mapIter (some m) clock #[] clock))
    clear hI2
    have HM := Aside.mk hv.map
    have hlen : es.toList.length = fs.length := by simpa using congrArg List.length hv.map.2.1
    have HV := Aside.mk (And.intro hv hlen)
    clear hv hlen
    go_wp2
    generalize W.heap.size = g at *
    generalize World.alloc _ _ = w0 at *
    go_loopw [8] (fun x8 wr => ∃ (seen : Array Nat) (c0 : Nat), clock ≤ c0 ∧ Aside (Sat E wr (HP.pt g (.mapIter (some m) clock seen c0) * (HP.dk d A.room (-1) m es clock (seenMap es seen (crashFil K) fs) * (HP.pt D (.deferred (some [])) * (HP.keeps b0 (keepOf K) * (HP.pt (b0 + 1) (.cells #[.map (some b0)] 181) * q)))))))
      (fun _ wr => match wr.heap[g]? with | some (.mapIter _ _ seen _) => (leftL es seen).length | _ => 0)
    case atStart => exact ⟨#[], clock, Nat.le_refl _, ⟨by rw [seenMap_start HV.out.2]; exact HS0.out.perm (by unfold HP.dk; ac_rfl)⟩⟩
    case round =>
      clear HS0 hrg c1
      obtain ⟨seen, c0, hc0, HS⟩ := hrel
      have hsame := seenMap_same (seen := seen) (g := crashFil K) (fun f => ⟨rfl, rfl⟩) HM.out
      rcases next_file hsame hc0 HS.out 0 with ⟨hend, hnext⟩ | ⟨j, f, e, w2, hj, hje, hel, hnext, hent, h2⟩
      · have hfin := HS.out.right
        rw [seenMap_end HV.out.2 hend] at hfin
        have hD : wr.heap[D]? = some (.deferred (some [])) := (hfin.s2).get
        have HF := Aside.mk (And.intro hfin hD)
        clear HS hsame hend hfin hD
        go_wp2
        refine marks_ret rfl HF.out.2 (fun w => results_tmp rfl _ _ _) ⟨rfl, ?_⟩
        have h7 := (HF.out.1.s2).putDef (.deferred none)
        have h8 : Sat E _ (HP.dk d A.room (-1) m es clock (List.map (crashFil K) fs) * q) := h7.right.perm rfl |>.of_mul_mono (fun _ h => h) |> fun h => (Sat.right (p := HP.keeps b0 (keepOf K) * HP.pt (b0 + 1) (.cells #[.map (some b0)] 181)) (h.perm (by ac_rfl)))
        exact Sat.disk_close (HV.out.1.crash K) h8
      · have hjf := seenMap_at hje hel hj
        obtain ⟨R0, h3, hback⟩ := dk_file (h2.perm (HP.left_comm _ _ _)) hj
        obtain ⟨B, cc, hvB, -, -⟩ := h3.row_slice
        have hfm := HV.out.1.mem (List.mem_of_getElem? hjf)
        have hfs : f.cels.length ≤ 100000 := by
          have h7 := at_small HV.out.1.fine f.name
          rw [Dk.at, lk_of_mem HV.out.1.fine.sorted hfm] at h7
          simpa [Fil.cs] using h7
        have HFine : Aside (∀ x ∈ f.cels, x.2.Fine) := ⟨fun x hx => HV.out.1.cel_fine (List.mem_of_getElem? hjf) hx⟩
        have hnm : f.name.size ≤ maxLen := by
          have h7 := (HV.out.1.fine.named _ hfm).1
          unfold namedB at h7
          simp only [Bool.and_eq_true, decide_eq_true_eq] at h7
          unfold maxLen
          omega
        rw [hvB] at hnext hent h3 hback
        have HC := Aside.mk (And.intro hback (And.intro hjf (And.intro hje (And.intro hel hvB))))
        have H3 := Aside.mk h3
        have HG1 := Aside.mk HS.out.get
        clear HS hsame h2 hback h3 hjf hje hel hj hvB hfm
        obtain ⟨n, hnn⟩ : ∃ n, n = f.cels.length := ⟨_, rfl⟩
        rw [← hnn] at H3 HC hfs hnext hent
        have HN := Aside.mk hnn
        clear hnn
        go_wp2
        obtain ⟨wo, rfl⟩ : ∃ wo : World, wo = wr := ⟨_, rfl⟩
        go_loopw [44] (fun x wr => ∃ k : Nat, x = .int .i64 k ∧ k ≤ n ∧ Aside (Sat E wr (HP.row 145 1 (.slice B n cc) n (celPtrs f.cels) * (HP.cels (mapPre (fun i c => c.crashd (keepOf K f.name i)) f.cels k) * (R0 * (HP.pt g (.mapIter (some m) clock (seen.push e.born) clock) * (HP.pt D (.deferred (some [])) * (HP.keeps b0 (keepOf K) * (HP.pt (b0 + 1) (.cells #[.map (some b0)] 181) * q))))))))) (fun x _ => n - (intOf x).toNat)
        case atStart => exact ⟨0, rfl, Nat.zero_le _, ⟨by rw [mapPre_zero]; exact H3.out⟩⟩
        case round =>
          clear H3 hnext hent
          obtain ⟨k, rfl, hk, HR⟩ := hrel
          by_cases hlt : k < n
          · have hkf : k < f.cels.length := by have := HN.out; omega
            have hrow := HR.out
            obtain ⟨pa, hpa, hcx⟩ := hrow.row_cells.at_ k (by simp [celPtrs, hkf])
            obtain ⟨pg, po, rfl⟩ : ∃ g o, pa = ⟨g, o, none⟩ := slice_addr hrow.row_cells hpa (k := k) (by simp [celPtrs, hkf])
            subst hpa
            rw [addr_add] at hcx
            simp only [celPtrs, List.getElem_map] at hcx
            obtain ⟨Rk, h5, hRk, hbackk⟩ := cels_take (hrow.s2) (mapPre_at hkf)
            have hxf : (f.cels[k]).2.Fine := HFine.out _ (List.getElem_mem hkf)
            have hnext : Aside (∀ w', Sat E w' (HP.cel (f.cels[k]).1 ((f.cels[k]).2.crashd (keepOf K f.name k)) * Rk) → Sat E w' (HP.row 145 1 (.slice (some ⟨pg, po, none⟩) n cc) n (celPtrs f.cels) * (HP.cels (mapPre (fun i c => c.crashd (keepOf K f.name i)) f.cels (k + 1)) * (R0 * (HP.pt g (.mapIter (some m) clock (seen.push e.born) clock) * (HP.pt D (.deferred (some [])) * (HP.keeps b0 (keepOf K) * (HP.pt (b0 + 1) (.cells #[.map (some b0)] 181) * q)))))))) := ⟨fun w' h => by
              have := hbackk w' _ h
              rw [mapPre_next (g := fun i c => c.crashd (keepOf K f.name i)) hkf] at this
              exact this.s2⟩
            generalize f.cels[k] = x at *
            obtain ⟨bk, c⟩ := x
            dsimp only at *
            have cw := cel_waits h5 hxf
            have hk0 : (0 : Int) ≤ (k : Int) := by omega
            have hk1 : (k : Int) < (n : Int) := by omega
            have hkr := keepOf_range K f.name k
            obtain ⟨nn, hnn⟩ := Int.eq_ofNat_of_zero_le hkr.1
            rw [hnn] at hkr
            have hn8 : nn ≤ 128 := by omega
            have hq5 := hRk _ h5.right
            have c5 := (hq5.right.right.right.right.right).cell 0
            simp only [List.getElem?_toArray, List.getElem?_cons_zero, List.getElem?_cons_succ] at c5
            obtain ⟨kes, kcl, hsm, hk5⟩ := (hq5.right.right.right.right).keeps_open
            have hlk := hsm.lookup (w := wr.drew) hk5.drew.get hnm (i := (k : Int)) ⟨by omega, by omega⟩
            rw [hnn] at hlk
            unfold spotV at hlk
            clear HR hrow hbackk hq5 hk5 hsm hRk
            cases hcw : c.waits with
            | true =>
              rw [hcw] at cw
              have hcp : (Builtin.copy_ #[43, 43] 3 #[.slice (some ⟨bk, 128, none⟩) nn 128, .slice (some ⟨bk, 384, none⟩) 128 128]).run Tryz.prog wr.drew = .ok (goInt (b8s (c.written.take nn)).length) (wr.drew.setRow bk (splice c.vals 128 (b8s (c.written.take nn))).toArray) := run_copy_row (P := Tryz.prog) wr.drew 43 43 3 5 bk 128 nn 128 ⟨bk, 384, none⟩ 128 128 c.vals.toArray 149 (b8s (c.written.take nn)) Tryz.underlying43 (by kernel_rfl) (Sat.get (q := Rk) h5.drew)
                (by rw [b8s_length, List.length_take, hxf.2.2.2]; show min nn 128 = min 128 nn; omega)
                (fun i u hu => by
                  have h9 := (cel_written h5.drew hxf).take nn
                  have e9 : (b8s c.written).take nn = b8s (c.written.take nn) := by simp [b8s]
                  rw [e9] at h9
                  exact h9.some_ _ _ hu)
                (by rw [b8s_length, List.length_take, hxf.2.2.2, List.size_toArray, Cel.vals_length hxf]; omega) (fun u hu => List.all_eq_true.1 (b8s_one _) u hu)
              have h6 := Sat.splice (E := E) (q := Rk) (g := bk) (t := 149) (cur := c.vals.toArray) h5.drew (splice c.vals 128 (b8s (c.written.take nn)))
              have hfd : (c.written.take nn ++ c.durable.drop nn).length = 128 := by rw [List.length_append, List.length_take, List.length_drop, hxf.2.2.2, hxf.2.1]; omega
              have hxf6 : ({ c with durable := c.written.take nn ++ c.durable.drop nn } : Cel).Fine := ⟨hxf.1, hfd, hxf.2.2.1, hxf.2.2.2⟩
              rw [crash_splice hxf hn8] at hcp h6
              generalize World.setRow wr.drew bk _ = w6 at hcp h6
              have h6 : Sat E w6 (HP.cel bk { c with durable := c.written.take nn ++ c.durable.drop nn } * Rk) := h6
              have hld := run_loadAgg agImg (by rw [b8s_length]; exact hfd) (cel_durable h6 hxf6)
              obtain ⟨w7, hs1, h7⟩ := cel_store (off := 0) (l := c.written.take nn ++ c.durable.drop nn) (c' := { c with read := c.written.take nn ++ c.durable.drop nn, durable := c.written.take nn ++ c.durable.drop nn }) h6 hxf6 hfd (by omega) (set_read hxf6 hfd)
              have hxf7 : ({ c with read := c.written.take nn ++ c.durable.drop nn, durable := c.written.take nn ++ c.durable.drop nn } : Cel).Fine := ⟨hfd, hfd, hxf.2.2.1, hxf.2.2.2⟩
              have c7 := cel_waits h7 hxf7
              have f7 := cel_thaw h7 512
              have HH := Aside.mk (hnext.out _ (by
                have h8 := cel_set_waits h7 hxf7 false
                have e8 : c.crashd (keepOf K f.name k) = { c with read := c.written.take nn ++ c.durable.drop nn, durable := c.written.take nn ++ c.durable.drop nn, waits := false } := by
                  unfold Cel.crashd
                  rw [hcw, hnn, Int.toNat_natCast]; rfl
                rw [e8]
                exact h8))
              generalize (b8s (c.written.take nn ++ c.durable.drop nn)).toArray = img at *
              generalize goInt (b8s (c.written.take nn)).length = gi at hcp
              clear hnext h5 h6 h7 hxf hxf6 hxf7 hcw hnn hfd
              go_wp2
              refine region_R [13] [] (fun _ => True) #[false, false, false, false, false, false, false, false, false, false, false, false, false, false] (by kernel_rfl) rfl rfl ?_
              refine wpR_rd 0 #[true, false, false, false, false, false, false, false, false, false, false, false, false, false] rfl onlyN_noPanic (by kernel_rfl) (fun K hK => ?_); (go_simp; try go_bits); refine hK _ ?_; clear hK K
              refine wpR_rd 1 #[true, true, false, false, false, false, false, false, false, false, false, false, false, false] rfl onlyN_noPanic (by kernel_rfl) (fun K hK => ?_); (go_simp; try go_bits); refine hK _ ?_; clear hK K
              refine wpR_rd 2 #[true, true, true, false, false, false, false, false, false, false, false, false, false, false] rfl onlyN_noPanic (by kernel_rfl) (fun K hK => ?_); (go_simp; try go_bits); refine hK _ ?_; clear hK K
              refine wpR_rd 3 #[true, true, true, true, false, false, false, false, false, false, false, false, false, false] rfl onlyN_noPanic (by kernel_rfl) (fun K hK => ?_); (go_simp; try go_bits); refine hK _ ?_; clear hK K
              refine wpR_rd 4 #[true, true, true, true, true, false, false, false, false, false, false, false, false, false] rfl onlyN_noPanic (by kernel_rfl) (fun K hK => ?_); (go_simp; try go_bits); refine hK _ ?_; clear hK K
              refine wpR_rd 5 #[true, true, true, true, true, true, false, false, false, false, false, false, false, false] rfl onlyN_noPanic (by kernel_rfl) (fun K hK => ?_); (go_simp; try go_bits); refine hK _ ?_; clear hK K
              refine wpR_rd 6 #[true, true, true, true, true, true, true, false, false, false, false, false, false, false] rfl onlyN_noPanic (by kernel_rfl) (fun K hK => ?_); (go_simp; try go_bits); refine hK _ ?_; clear hK K
              refine wpR_rd 7 #[true, true, true, true, true, true, true, true, false, false, false, false, false, false] rfl onlyN_noPanic (by kernel_rfl) (fun K hK => ?_); (go_simp; try go_bits); refine hK _ ?_; clear hK K
              refine wpR_rd 8 #[true, true, true, true, true, true, true, true, true, false, false, false, false, false] rfl onlyN_noPanic (by kernel_rfl) (fun K hK => ?_); (go_simp; try go_bits); refine hK _ ?_; clear hK K
              refine wpR_rd 9 #[true, true, true, true, true, true, true, true, true, true, false, false, false, false] rfl onlyN_noPanic (by kernel_rfl) (fun K hK => ?_); (go_simp; try go_bits); refine hK _ ?_; clear hK K
              refine wpR_rd 10 #[true, true, true, true, true, true, true, true, true, true, true, false, false, false] rfl onlyN_noPanic (by kernel_rfl) (fun K hK => ?_); (go_simp; try go_bits); refine hK _ ?_; clear hK K
              refine wpR_rd 11 #[true, true, true, true, true, true, true, true, true, true, true, true, false, false] rfl onlyN_noPanic (by kernel_rfl) (fun K hK => ?_); (go_simp; try go_bits); refine hK _ ?_; clear hK K
              refine wpR_rd 12 #[true, true, true, true, true, true, true, true, true, true, true, true, true, false] rfl onlyN_noPanic (by kernel_rfl) (fun K hK => ?_); (go_simp; try go_bits); refine hK _ ?_; clear hK K
              refine wpR_eff #[true, true, true, true, true, true, true, true, true, true, true, true, true, true] (i := 13) rfl (by kernel_rfl) (fun K hK => ?_)
              refine Eq.mpr (if_pos (by rfl)) ?_; refine wp_copy_run rfl rfl rfl hcp ?_; refine hK _ _ ?_; clear hK K
              simp only [Act.put, List.setIfInBounds_toArray, List.set_cons_zero, List.set_cons_succ]
              refine wpR_done (by kernel_rfl) ?_ _
              simp only [OnlyN]
              clear hcx hlk hcp cw c5
              go_wp2_with (first | (refine wpList_load_run rfl rfl rfl hld ?_) | (refine wpList_store_run rfl rfl rfl rfl rfl hs1 ?_))
              go_roundw
              case rel => exact ⟨k + 1, by go_num, by omega, HH⟩
              case measure => simp [intOf]; omega
            | false =>
              rw [hcw] at cw
              have hsy : c.crashd (keepOf K f.name k) = c := by simp [Cel.crashd, hcw]
              rw [hsy] at hnext
              have HH := Aside.mk (hnext.out _ h5)
              clear hnext h5 hxf hcw hsy hlk hnn hkr
              go_wp2
              go_roundw
              case rel => exact ⟨k + 1, by go_num, by omega, HH⟩
              case measure => simp [intOf]; omega
          · have hkn : k = f.cels.length := by have := HN.out; omega
            have HT : Aside (Sat E wr (HP.pt g (.mapIter (some m) clock (seen.push e.born) clock) * (HP.dk d A.room (-1) m es clock (seenMap es (seen.push e.born) (crashFil K) fs) * (HP.pt D (.deferred (some [])) * (HP.keeps b0 (keepOf K) * (HP.pt (b0 + 1) (.cells #[.map (some b0)] 181) * q)))))) := ⟨by
              have h7 := HR.out
              rw [hkn, mapPre_all] at h7
              obtain ⟨hback, hjf, hje, hel, hvB⟩ := HC.out
              have h8 := hback wr _ (by simpa [mapPre_all] using mapPre_fst (fun i c => c.crashd (keepOf K f.name i)) f.cels f.cels.length) h7
              have e8 : (seenMap es seen (crashFil K) fs).set j ⟨f.name, .slice B n cc, f.cels.mapIdx fun i x => (x.1, x.2.crashd (keepOf K f.name i))⟩ = seenMap es (seen.push e.born) (crashFil K) fs := by
                rw [← hvB]
                exact seenMap_next (g := crashFil K) HM.out.2.2.2.2 HV.out.2 hje hjf hel
              rw [e8] at h8
              exact h8.perm (HP.left_comm _ _ _)⟩
            have HLS : Aside ((leftL es (seen.push e.born)).length < (leftL es seen).length) := ⟨left_less HM.out.2.2.2.2 HC.out.2.2.2.1⟩
            clear HR HC HFine hkn
            go_wp2
            go_roundw
            case rel => exact ⟨seen.push e.born, clock, Nat.le_refl _, HT⟩
            case measure =>
              have h8 := HT.out.get
              rw [h8, HG1.out]
              exact HLS.out
end Go.Proofs.YtnpinegpajbkeaaGreatDoor
namespace Go.Proofs.YtnpinegpajbkeaaGreatDoor
open Go.ChangeShapes Go.WideShapes Go.ChangeAt Go.RowKit
theorem own : ownKnob Tryz.prog.godebug = none := by kernel_rfl
theorem laidOut : laidOutB Tryz.prog = true := by kernel_rfl
theorem trodAll_below {H : Type} {enc : TypeId × Value → H} {P : Program} (hl : laidOutB P = true) {W W' : World} (hb : Below W.heap.size W W') {sp : Nat → Bool} :
    ∀ {ts : List TypeId} {vs : List Value} {ds : List (DataW H)} {ps : List MemPlace}, (ts.all fun t => P.readableRec t && decide (t < P.types.size)) = true → (∀ x ∈ ps, x.block < W.heap.size) → (∀ x ∈ ps, sp x.block = true) →
      DataW.TrodAll enc P W 0 (fun _ => true) true ts vs ds ps → DataW.TrodAll enc P W' 0 sp true ts vs ds ps
  | [], [], [], _, _, _, _, h => h
  | [], _ :: _, _, _, _, _, _, h => h.elim
  | [], [], _ :: _, _, _, _, _, h => h.elim
  | _ :: _, [], _, _, _, _, _, h => h.elim
  | _ :: _, _ :: _, [], _, _, _, _, h => h.elim
  | t :: ts, v :: vs, d :: ds, ps, hr, hlt, hsp, h => by
    obtain ⟨p, q, h1, h2, rfl⟩ := h
    simp only [List.all_cons, Bool.and_eq_true, decide_eq_true_eq] at hr
    exact ⟨p, q, Go.WideElems.Trod_stays hl hr.1.1 hr.1.2 h1 (fun x hx => hb.same (hlt x (List.mem_append.2 (.inl hx)))) (fun x hx => hsp x (List.mem_append.2 (.inl hx))),
      trodAll_below hl hb (by simpa using hr.2) (fun x hx => hlt x (List.mem_append.2 (.inr hx))) (fun x hx => hsp x (List.mem_append.2 (.inr hx))) h2, rfl⟩
theorem law_post {H : Type} {enc : TypeId × Value → H} {P : Program} {f : Func} {s : ChangeSpec} {apart fresh : Bool} {W W' : World} {args : Array Value} {ds gs : List (DataW H)} {before : List MemPlace}
    (hl : laidOutB P = true) (hrow : (f.params.toList.all fun t => P.readableRec t && decide (t < P.types.size)) = true) {tb : TypeId} (hrt : f.resultTypes = #[tb]) (htb : P.underlying tb = some .bool)
    (hv : s.vars = []) (hs : s.fn H (ds ++ gs) = { results := [.lit (.bool true)], args := ds })
    (hW : DataW.Whole enc P f.params.toList s.vars apart W args.toList ds gs before) (hb : Below W.heap.size W W') : s.post enc P f apart fresh false false W args (.bool true) W' := by
  have hlt : ∀ x ∈ before, x.block < W.heap.size := fun x hx => by simpa using hW.lt x hx
  have hW' := hW
  obtain ⟨p, q, hA, hV, rfl, hz, hn⟩ := hW
  rw [hv] at hV
  obtain ⟨rfl, rfl⟩ := trodVars_none hV
  have hres : ∀ (b : Nat) (sp : Nat → Bool) (hd : Bool), DataW.TrodAll enc P W' b sp hd f.resultTypes.toList ((Value.bool true).resultList f.resultTypes.size) (s.fn H (ds ++ [])).results [] := by
    intro b sp hd
    rw [hrt, hs]
    exact trodAll_mk1 (shut_bool htb true)
  simp only [List.append_nil] at hlt hW' 
  refine ⟨ds, [], _, [], p, [], hW', hres _ _ _, ?_, ?_, hb.frame _, fun h => by cases h⟩
  · rw [hs]; exact trodAll_below hl hb hrow hlt (fun x hx => by simpa using hlt x hx) hA
  · rw [hs, hv]; rfl
end Go.Proofs.YtnpinegpajbkeaaGreatDoor
namespace Go.Proofs.YtnpinegpajbkeaaGreatDoor
open Go.ChangeShapes Go.WideShapes Go.ChangeAt Go.RowKit HP
structure Rd (α : Type) where
  cells : α → List Value
  ok : World → α → Prop
  carry : ∀ {W W' : World} {a : α}, (∀ k, k < W.heap.size → W'.heap[k]? = W.heap[k]?) → ok W a → ok W' a
def Rd.At {α : Type} (r : Rd α) (P : Program) (t : TypeId) : Prop :=
  ∀ {H : Type} {enc : TypeId × Value → H} {W : World} {fuel : Nat} {cs : List Value} {x : DataW H × List MemPlace}, DataW.trod enc P W 0 (fun _ => true) true fuel t cs = some x → ∃ a, cs = r.cells a ∧ r.ok W a
def rdInt (k : IntKind) : Rd Int := ⟨fun n => [.int k n], fun _ n => (Lit.int k n).wf = true, fun _ h => h⟩
def rdBool : Rd Bool := ⟨fun b => [.bool b], fun _ _ => True, fun _ h => h⟩
def rdStr : Rd ByteArray := ⟨fun s => [.string s], fun _ s => s.size ≤ maxLen, fun _ h => h⟩
structure Sl (α : Type) where
  A : Option Addr
  cap : Nat
  l : List α
def Sl.val {α : Type} (s : Sl α) : Value := .slice s.A s.l.length s.cap
def rdSl {α : Type} (r : Rd α) : Rd (Sl α) :=
  ⟨fun s => [s.val], fun W s => s.l.length ≤ s.cap ∧ s.cap ≤ maxLen ∧ Cells W s.A (s.l.flatMap r.cells) ∧ ∀ x ∈ s.l, r.ok W x, fun hb h => ⟨h.1, h.2.1, h.2.2.1.carry hb, fun x hx => r.carry hb (h.2.2.2 x hx)⟩⟩
def rdPair {α β : Type} (r : Rd α) (s : Rd β) : Rd (α × β) := ⟨fun x => r.cells x.1 ++ s.cells x.2, fun W x => r.ok W x.1 ∧ s.ok W x.2, fun hb h => ⟨r.carry hb h.1, s.carry hb h.2⟩⟩
def rdEnd : Rd Unit := ⟨fun _ => [], fun _ _ => True, fun _ h => h⟩
def rdMap {α β : Type} (r : Rd α) (f : α → β) (g : β → α) (h : ∀ a, g (f a) = a) : Rd β := ⟨fun b => r.cells (g b), fun W b => r.ok W (g b), fun hb h => r.carry hb h⟩
section
variable {P : Program} {t : TypeId}
theorem rdInt_at {k : IntKind} (ht : P.underlying t = some (.int k)) : (rdInt k).At P t := by
  intro H enc W fuel cs x h
  obtain ⟨n, rfl, -, hw⟩ := DataW.trod_int ht h
  exact ⟨n, rfl, hw⟩
theorem rdStr_at (ht : P.underlying t = some .string) : rdStr.At P t := by
  intro H enc W fuel cs x h
  obtain ⟨n, rfl, -, hw⟩ := DataW.trod_string ht h
  exact ⟨n, rfl, hw⟩
theorem choose_list {α : Type} (n : Nat) (p : Nat → α → Prop) (h : ∀ i, i < n → ∃ a, p i a) : ∃ l : List α, l.length = n ∧ ∀ (i : Nat) (a : α), l[i]? = some a → p i a := by
  induction n with
  | zero => exact ⟨[], rfl, fun i a h => by simp at h⟩
  | succ n ih =>
    obtain ⟨l, hl, hp⟩ := ih fun i hi => h i (by omega)
    obtain ⟨a, ha⟩ := h n (by omega)
    refine ⟨l ++ [a], by simp [hl], fun i b hb => ?_⟩
    rw [List.getElem?_append] at hb
    split at hb
    · exact hp i b hb
    · rename_i hlt
      have hi : i = n := by
        have := (List.getElem?_eq_some_iff.1 hb).1
        simp at this
        omega
      subst hi
      rw [hl, Nat.sub_self] at hb
      simp at hb
      subst hb; exact ha
theorem flat_at {α : Type} (f : α → List Value) (n : Nat) (l : List α) (hn : ∀ x ∈ l, (f x).length = n) : ∀ (j : Nat) (u : Value), (l.flatMap f)[j]? = some u → ∃ (i k : Nat) (x : α), l[i]? = some x ∧ k < n ∧ j = i * n + k ∧ (f x)[k]? = some u := by
  induction l with
  | nil => intro j u h; simp at h
  | cons x l ih =>
    intro j u h
    rw [List.flatMap_cons, List.getElem?_append] at h
    have hx := hn x (by simp)
    split at h
    · rename_i hlt
      exact ⟨0, j, x, rfl, by omega, by omega, h⟩
    · rename_i hlt
      obtain ⟨i, k, y, h1, h2, h3, h4⟩ := ih (fun y hy => hn y (by simp [hy])) _ _ h
      refine ⟨i + 1, k, y, by simpa using h1, h2, ?_, h4⟩
      rw [Nat.add_mul, Nat.one_mul]
      omega
theorem rdSl_at {α : Type} {r : Rd α} {e : TypeId} {n : Nat} (ht : P.underlying t = some (.slice e)) (hc : P.cellsOf e = n) (hr : r.At P e) : (rdSl r).At P t := by
  intro H enc W fuel cs x h
  rcases Go.Deep.open_slice ht h with ⟨rfl, -⟩ | ⟨a, len, cap, m, n', D, Pl, rfl, -, hl, hm, hmm, -, hi⟩
  · exact ⟨⟨none, 0, []⟩, rfl, Nat.le_refl _, Nat.zero_le _, Cells.nil _ _, fun x hx => by cases hx⟩
  · have hml : len ≤ m := by rw [hmm]; split <;> omega
    obtain ⟨l, hll, hp⟩ := choose_list len (fun i x => r.ok W x ∧ W.cells? 0 (a.add (i * n)) n = some (r.cells x)) fun i hil => by
      obtain ⟨cs', h1, h2⟩ := hi i (by omega)
      obtain ⟨x, rfl, hx⟩ := hr h2
      rw [hc] at h1
      exact ⟨x, hx, h1⟩
    have hlen : ∀ x ∈ l, (r.cells x).length = n := fun x hx => by
      obtain ⟨i, hi'⟩ := List.getElem?_of_mem hx
      exact (World.cells?_some (hp i x hi').2).2.1
    refine ⟨⟨some a, cap, l⟩, by simp [rdSl, Sl.val, hll], by simpa [hll] using hl, hm, fun j u hj => ⟨a, rfl, ?_⟩, fun x hx => ?_⟩
    · obtain ⟨i, k, x, h1, h2, h3, h4⟩ := flat_at r.cells n l hlen j u hj
      have h5 := (World.cells?_some (hp i x h1).2).2.2 k h2
      rw [h4, Cells.add_add] at h5
      rw [h3]; exact h5
    · obtain ⟨i, hi'⟩ := List.getElem?_of_mem hx
      exact (hp i x hi').1
def Rd.Fs {α : Type} (r : Rd α) (P : Program) (fs : List Field) (off total : Nat) : Prop :=
  ∀ {H : Type} {enc : TypeId × Value → H} {W : World} {n : Nat} {cs : List Value}, (∀ f ∈ fs, ∃ y, DataW.trod enc P W 0 (fun _ => true) true n f.type ((cs.drop f.offset).take (P.cellsOf f.type)) = some y) → off + total = cs.length →
    ∃ a, cs.drop off = r.cells a ∧ r.ok W a
theorem rdEnd_fs (off : Nat) : rdEnd.Fs P [] off 0 := by
  intro H enc W n cs _ h
  exact ⟨(), by simp [rdEnd]; omega, trivial⟩
theorem rdPair_fs {α β : Type} {r : Rd α} {s : Rd β} {f : Field} {fs : List Field} {off size total : Nat} (hoff : f.offset = off) (hsz : P.cellsOf f.type = size) (hr : r.At P f.type) (hs : s.Fs P fs (off + size) total) : (rdPair r s).Fs P (f :: fs) off (size + total) := by
  intro H enc W n cs h hl
  obtain ⟨y, hy⟩ := h f (by simp)
  obtain ⟨a, ha, hoa⟩ := hr hy
  obtain ⟨b, hb, hob⟩ := hs (fun g hg => h g (by simp [hg])) (by omega)
  refine ⟨(a, b), ?_, hoa, hob⟩
  show cs.drop off = r.cells a ++ s.cells b
  rw [← ha, ← hb, hoff, hsz, ← List.drop_drop, List.take_append_drop]
theorem rdStruct_at {α β : Type} {r : Rd α} {fs : Array Field} {total : Nat} (ht : P.underlying t = some (.struct fs)) (hc : P.cellsOf t = total) (hr : r.Fs P fs.toList 0 total) (f : α → β) (g : β → α) (hg : ∀ a, g (f a) = a) : (rdMap r f g hg).At P t := by
  intro H enc W fuel cs x h
  obtain ⟨xs, n, -, -, hl, hxl, hf⟩ := DataW.trod_struct ht h
  obtain ⟨a, ha, hoa⟩ := hr (W := W) (n := n) (cs := cs) (fun fd hfd => by
    obtain ⟨i, hi⟩ := List.getElem?_of_mem hfd
    have hi' : fs[i]? = some fd := by simpa using hi
    have h1 := hf i fd hi'
    have hlt : i < xs.length := by rw [hxl]; exact (Array.getElem?_eq_some_iff.1 hi').1
    rw [List.getElem?_eq_getElem hlt] at h1
    exact ⟨_, h1⟩) (by omega)
  refine ⟨f a, ?_, ?_⟩
  · show cs = r.cells (g (f a))
    rw [hg, ← ha, List.drop_zero]
  · show r.ok W (g (f a))
    rw [hg]; exact hoa
theorem Rd.arg {α : Type} {r : Rd α} (hr : r.At P t) {H : Type} {enc : TypeId × Value → H} {W : World} {v : Value} {d0 : DataW H} {p : List MemPlace} (h0 : DataW.Trod enc P W 0 (fun _ => true) true t v d0 p) : ∃ a, v.cells.toList = r.cells a ∧ r.ok W a := by
  obtain ⟨fuel, hf⟩ := h0
  exact hr hf
theorem sl_arg {α : Type} {r : Rd α} {e : TypeId} {base : Nat} (ht : P.underlying t = some (.slice e)) (hr : (rdSl r).At P t) {H : Type} {enc : TypeId × Value → H} {W : World} {v : Value} {d0 : DataW H} {p : List MemPlace} (hv : Value.okWide P W .any base t v) (h0 : DataW.Trod enc P W 0 (fun _ => true) true t v d0 p) : ∃ s : Sl α, v = s.val ∧ (rdSl r).ok W s := by
  obtain ⟨a0, len, cap, rfl⟩ := okWide_slice ht hv
  obtain ⟨s, hs, ho⟩ := Rd.arg hr h0
  refine ⟨s, ?_, ho⟩
  have : [Value.slice a0 len cap] = [s.val] := hs
  simpa using this
end
end Go.Proofs.YtnpinegpajbkeaaGreatDoor
namespace Go.Proofs.YtnpinegpajbkeaaGreatDoor
open Go.RowKit HP
def Bytes (l : List Int) : Prop := ∀ x ∈ l, 0 ≤ x ∧ x ≤ 255
def strOf (l : List Int) : ByteArray := l.foldl (fun r n => r.push (UInt8.ofNat n.toNat)) ByteArray.empty
theorem strOf_go (l : List Int) : ∀ b : ByteArray, (l.foldl (fun r n => r.push (UInt8.ofNat n.toNat)) b).data.toList = b.data.toList ++ l.map fun n => UInt8.ofNat n.toNat := by
  induction l with
  | nil => intro b; simp
  | cons n l ih => intro b; rw [List.foldl_cons, ih]; simp [ByteArray.push]
theorem strOf_data (l : List Int) : (strOf l).data.toList = l.map fun n => UInt8.ofNat n.toNat := by
  rw [strOf, strOf_go]; rfl
theorem strOf_inj {a b : List Int} (ha : Bytes a) (hb : Bytes b) (h : strOf a = strOf b) : a = b := by
  have h1 : (a.map fun n => UInt8.ofNat n.toNat) = b.map fun n => UInt8.ofNat n.toNat := by rw [← strOf_data, ← strOf_data, h]
  have key : ∀ l : List Int, Bytes l → ((l.map fun n => UInt8.ofNat n.toNat).map fun u => (u.toNat : Int)) = l := by
    intro l hl
    rw [List.map_map]
    conv => rhs; rw [← List.map_id l]
    apply List.map_congr_left
    intro x hx
    have := hl x hx
    simp only [Function.comp_apply, id, UInt8.toNat_ofNat']
    omega
  rw [← key a ha, ← key b hb, h1]
theorem run_string {P : Program} {w : World} {src dst e : TypeId} {A : Option Addr} {l : List Int} {c : Nat} (hs : P.underlying src = some (.slice e)) (he : P.underlying e = some (.int .u8)) (hd : P.underlying dst = some .string)
    (h : Cells w A (b8s l)) : (convert src dst (.slice A l.length c)).run P w = .ok (.string (strOf l)) w := by
  rw [run_convert_bytes_string w src dst e A l.length c hs he hd]
  cases A with
  | none =>
    cases l with
    | nil => simp [Conv.bytesToString, strOf, Sem.run_pure]
    | cons x l =>
      obtain ⟨a, ha, _⟩ := h.at_ 0 (by simp [b8s])
      cases ha
  | some a =>
    refine run_bytesToString w a l.length c l ?_
    have := run_loadCells_list (P := P) (w := w) a (b8s l) (fun j u hj => h.some_ j u hj)
    simpa [b8s] using this
set_option maxHeartbeats 1000000 in
set_option maxRecDepth 100000 in
theorem bytesEqual_ok (A0 A1 : Option Addr) (l0 l1 : List Int) (c0 c1 : Nat) (w : World) (h0 : Cells w A0 (b8s l0)) (h1 : Cells w A1 (b8s l1)) (b0 : Bytes l0) (b1 : Bytes l1) :
    Calls Tryz.prog 21 #[.slice A0 l0.length c0, .slice A1 l1.length c1] w fun e w' => e = .returned (.bool (decide (l0 = l1))) ∧ w' = w := by
  have e0 := run_string (P := Tryz.prog) (c := c0) Tryz.underlying43 Tryz.underlying5 Tryz.underlying9 h0
  have e1 := run_string (P := Tryz.prog) (c := c1) Tryz.underlying43 Tryz.underlying5 Tryz.underlying9 h1
  have hd : ((strOf l0).toList == (strOf l1).toList) = decide (l0 = l1) := by
    rw [ByteArray.toList_eq, ByteArray.toList_eq]
    by_cases h : l0 = l1
    · simp [h]
    · have : ¬ (strOf l0).data.toList = (strOf l1).data.toList := fun h2 => h (strOf_inj b0 b1 (Go.WideShapes.bytes_inj h2))
      have h3 : ¬ (strOf l0).data = (strOf l1).data := fun h2 => this (by rw [h2])
      simp [h, h3]
  have HD := Aside.mk hd
  clear hd h0 h1
  go_enter Tryz.func21, Tryz.ntmps21
  go_wp2
  go_ret
  exact ⟨ret_bool HD.out, rfl⟩
theorem bytesEq_ok (A0 A1 : Option Addr) (l0 l1 : List Int) (n0 n1 c0 c1 : Nat) (w : World) (e0 : l0.length = n0) (e1 : l1.length = n1) (h0 : Cells w A0 (b8s l0)) (h1 : Cells w A1 (b8s l1)) (b0 : Bytes l0) (b1 : Bytes l1) :
    Calls Tryz.prog 21 #[.slice A0 n0 c0, .slice A1 n1 c1] w fun e w' => e = .returned (.bool (decide (l0 = l1))) ∧ w' = w := by
  subst e0
  subst e1
  exact bytesEqual_ok A0 A1 l0 l1 c0 c1 w h0 h1 b0 b1
theorem made_one (z : Value) (n : Nat) (h : z.cells = #[z]) : (madeCells z.cells n).toList = List.replicate n z := by
  rw [h]
  apply List.ext_getElem
  · simp [madeCells]
  · intro i h1 h2
    have e1 : i % 1 = 0 := Nat.mod_one i
    simp [madeCells, e1]
theorem run_make_row {P : Program} {E : Env} {q : HP} {w : World} {t e : TypeId} {z : Value} {bytes : Nat} (T : SlTy P t e z 1 bytes) (hz1 : z.cells = #[z]) (h : Sat E w q) (n : Nat) (hn : n ≤ maxLen) (hb : n * bytes ≤ 140737488355328) (kl kc : IntKind) :
    ∃ w', (Instr.makeSlice t (.int kl n) (.int kc n)).run P w = .ok (.slice (some ⟨w.heap.size, 0, none⟩) n n) w' ∧ Sat E w' (HP.row e 1 (.slice (some ⟨w.heap.size, 0, none⟩) n n) n (List.replicate n z) * q) := by
  obtain ⟨i, hi, hz, hsize, hby⟩ := info_parts T.info
  have hn' : (n : Int) ≤ 9223372036854775807 := by unfold maxLen at hn; omega
  have hr := run_make (P := P) w t e i z T.under hi hz kl kc n n (by omega) (Int.le_refl _) (by rw [hby]; have : ((bytes * n : Nat) : Int) ≤ 140737488355328 := by rw [Nat.mul_comm]; omega
                                                                                                rw [Int.natCast_mul] at this; omega) hn'
  simp only [Int.toNat_natCast, hsize, Nat.mul_one] at hr
  refine ⟨_, hr, ?_⟩
  have h1 := h.alloc (.cells (madeCells z.cells n) e)
  have h2 := Sat.row_mk (n := n) (cap := n) (off := 0) (size := 1) (cs := List.replicate n z) h1 (Nat.le_refl _) hn (by simp [size_madeCells]) (by rw [made_one z n hz1]; simp)
  simpa using h2
theorem run_copy_sat {P : Program} {E : Env} {q : HP} {w : World} {dT sT ty e : TypeId} {dA : Option Addr} {n c : Nat} {cs : List Value} (hu : P.underlying dT = some (.slice e)) (hs : (P.info? e).map (·.size) = some 1) (h : Sat E w (HP.row e 1 (.slice dA n c) n cs * q))
    {A : Option Addr} {m k : Nat} {src : List Value} (hm : src.length = m) (hsrc : Cells w A src) (h1 : src.all Value.oneCell' = true) :
    ∃ w', (Builtin.copy_ #[dT, sT] ty #[.slice dA n c, .slice A m k]).run P w = .ok (goInt (Nat.min m n)) w' ∧ Sat E w' (HP.row e 1 (.slice dA n c) n (src.take n ++ cs.drop m) * q) := by
  have hcl := h.row_cases.1
  rw [Nat.mul_one] at hcl
  obtain ⟨i, hi⟩ : ∃ i, P.info? e = some i := by
    cases hq : P.info? e with
    | none => simp [hq] at hs
    | some i => exact ⟨i, rfl⟩
  have hi1 : i.size = 1 := by simpa [hi] using hs
  rcases h.row_cases.2 with ⟨A', hv, hn, hq⟩ | ⟨g, off, cap, cur, hv, hnc, hcm, hsz, htk, hp⟩
  · cases hv
    have hz : cs = [] := List.eq_nil_of_length_eq_zero (by omega)
    subst hz
    refine ⟨w, ?_, by simpa using h⟩
    have hmin : Nat.min m 0 = 0 := Nat.min_zero m
    cases A with
    | none => cases dA <;> simp [Builtin.copy_, run_underlying hu, Builtin.lenOf, Builtin.firstCells, sizeOf, typeInfo, hi, hi1, hmin, storeCells, loadCells, loadCellsFrom]
    | some a => cases dA <;> simp [Builtin.copy_, run_underlying hu, Builtin.lenOf, Builtin.firstCells, sizeOf, typeInfo, hi, hi1, hmin, storeCells, loadCells, loadCellsFrom]
  · cases hv
    rw [Nat.mul_one] at *
    simp only [Nat.mul_one] at hsz htk
    cases A with
    | none =>
      have hs0 : src = [] := by
        cases src with
        | nil => rfl
        | cons x l => obtain ⟨a, ha, _⟩ := hsrc.at_ 0 (by simp); cases ha
      subst hs0
      obtain rfl : m = 0 := by simpa using hm.symm
      refine ⟨w, ?_, by simpa using h⟩
      have hmin : Nat.min 0 n = 0 := Nat.zero_min n
      simp [Builtin.copy_, run_underlying hu, Builtin.lenOf, Builtin.firstCells, sizeOf, typeInfo, hi, hi1, hmin, storeCells, loadCells, loadCellsFrom]
    | some a =>
      have hlt : (src.take n).length = Nat.min m n := by rw [List.length_take, hm, Nat.min_comm]
      have hle : (src.take n).length ≤ n := by rw [List.length_take]; omega
      have hr := run_copy_row (P := P) w dT sT ty e g off n c a m k cur e (src.take n) hu hs hp.get hlt (fun j u hj => (hsrc.take n).some_ j u hj) (by omega) (fun v hv => List.all_eq_true.1 h1 v (List.mem_of_mem_take hv))
      refine ⟨w.setRow g (splice cur.toList off (src.take n)).toArray, by rw [← hlt]; exact hr, ?_⟩
      have h2 := hp.splice (splice cur.toList off (src.take n))
      have hcur : cur.toList.length = cur.size := Array.length_toList
      have hlen : (splice cur.toList off (src.take n)).length = cur.size := by
        unfold splice
        simp only [List.length_append, List.length_take, List.length_drop, Array.length_toList]
        rw [List.length_take] at hle
        omega
      have h3 := Sat.row_mk (n := n) (cap := c) (off := off) (size := 1) (cs := src.take n ++ cs.drop m) h2 hnc hcm (by rw [List.size_toArray, hlen]; omega) (by
        rw [Nat.mul_one, Nat.mul_one]
        show ((splice cur.toList off (src.take n)).drop off).take n = _
        unfold splice
        rw [List.append_assoc, List.drop_append_of_le_length (by rw [List.length_take]; omega), List.drop_take, Nat.sub_self, List.take_zero, List.nil_append]
        rw [List.take_append]
        congr 1
        · rw [List.take_of_length_le hle]
        · rw [← htk, List.drop_take, List.drop_drop]
          by_cases hmn : m ≤ n
          · rw [List.length_take, Nat.min_eq_right (by omega), hm]
          · have e1 : (src.take n).length = n := by rw [List.length_take]; omega
            rw [e1, Nat.sub_self, List.take_zero, show n - m = 0 by omega, List.take_zero])
      rw [Nat.mul_one] at h3
      exact h3
structure StepV where
  op : Int
  i : Int
  at_ : Int
  n : Int
  name : ByteArray
  b : Sl Int
  mask : Int
  kept : Sl Kep
def rdKep : Rd Kep := rdMap (rdPair rdStr (rdPair (rdInt .i64) (rdPair (rdInt .i64) rdEnd))) (fun x => (⟨x.1, x.2.1, x.2.2.1⟩ : Kep)) (fun k => (k.name, k.index, k.bytes, ())) (fun a => rfl)
theorem rdKep_at : rdKep.At Tryz.prog 186 :=
  rdStruct_at Tryz.underlying186 (total := 1 + (1 + (1 + 0))) (by kernel_rfl) (rdPair_fs rfl (by kernel_rfl) (rdStr_at Tryz.underlying9) (rdPair_fs rfl (by kernel_rfl) (rdInt_at Tryz.underlying3) (rdPair_fs rfl (by kernel_rfl) (rdInt_at Tryz.underlying3) (rdEnd_fs _)))) _ _ _
def rdStep : Rd StepV := rdMap (rdPair (rdInt .i64) (rdPair (rdInt .i64) (rdPair (rdInt .i64) (rdPair (rdInt .i64) (rdPair rdStr (rdPair (rdSl (rdInt .u8)) (rdPair (rdInt .u8) (rdPair (rdSl rdKep) rdEnd))))))))
  (fun x => (⟨x.1, x.2.1, x.2.2.1, x.2.2.2.1, x.2.2.2.2.1, x.2.2.2.2.2.1, x.2.2.2.2.2.2.1, x.2.2.2.2.2.2.2.1⟩ : StepV)) (fun s => (s.op, s.i, s.at_, s.n, s.name, s.b, s.mask, s.kept, ())) (fun a => rfl)
theorem rdStep_at : rdStep.At Tryz.prog 46 :=
  rdStruct_at Tryz.underlying46 (total := 1 + (1 + (1 + (1 + (1 + (1 + (1 + (1 + 0)))))))) (by kernel_rfl) (rdPair_fs rfl (by kernel_rfl) (rdInt_at Tryz.underlying3) (rdPair_fs rfl (by kernel_rfl) (rdInt_at Tryz.underlying3) (rdPair_fs rfl (by kernel_rfl) (rdInt_at Tryz.underlying3) (rdPair_fs rfl (by kernel_rfl) (rdInt_at Tryz.underlying3)
    (rdPair_fs rfl (by kernel_rfl) (rdStr_at Tryz.underlying9) (rdPair_fs rfl (by kernel_rfl) (rdSl_at (n := 1) Tryz.underlying43 (by kernel_rfl) (rdInt_at Tryz.underlying5)) (rdPair_fs rfl (by kernel_rfl) (rdInt_at Tryz.underlying5) (rdPair_fs rfl (by kernel_rfl) (rdSl_at (n := 3) Tryz.underlying44 (by kernel_rfl) rdKep_at) (rdEnd_fs _))))))))) _ _ _
def StepV.vals (s : StepV) : List Value := [.int .i64 s.op, .int .i64 s.i, .int .i64 s.at_, .int .i64 s.n, .string s.name, s.b.val, .int .u8 s.mask, s.kept.val]
structure StepV.Ok (W : World) (s : StepV) : Prop where
  op : wf64 s.op
  i : wf64 s.i
  at_ : wf64 s.at_
  n : wf64 s.n
  name : s.name.size ≤ maxLen
  mask : 0 ≤ s.mask ∧ s.mask ≤ 255
  b : s.b.l.length ≤ s.b.cap ∧ s.b.cap ≤ maxLen ∧ Cells W s.b.A (b8s s.b.l) ∧ Bytes s.b.l
  kept : s.kept.l.length ≤ s.kept.cap ∧ s.kept.cap ≤ maxLen ∧ Cells W s.kept.A (kepCells s.kept.l) ∧ ∀ k ∈ s.kept.l, k.name.size ≤ maxLen ∧ wf64 k.index ∧ wf64 k.bytes
theorem wf64_of {i : Int} (h : (Lit.int .i64 i).wf = true) : wf64 i := by
  simp [Lit.wf, IntKind.min, IntKind.max, IntKind.signed, IntKind.bits] at h
  unfold wf64
  omega
theorem byte_of {i : Int} (h : (Lit.int .u8 i).wf = true) : 0 ≤ i ∧ i ≤ 255 := by
  simp [Lit.wf, IntKind.min, IntKind.max, IntKind.signed, IntKind.bits] at h
  omega
theorem int_cells (k : IntKind) (l : List Int) : l.flatMap (rdInt k).cells = l.map (Value.int k) := by
  induction l with
  | nil => rfl
  | cons x l ih => rw [List.flatMap_cons, ih]; rfl
theorem bytes_ok {W : World} {s : Sl Int} (h : (rdSl (rdInt .u8)).ok W s) : s.l.length ≤ s.cap ∧ s.cap ≤ maxLen ∧ Cells W s.A (b8s s.l) ∧ Bytes s.l := by
  obtain ⟨h1, h2, h3, h4⟩ := h
  rw [int_cells] at h3
  exact ⟨h1, h2, h3, fun x hx => byte_of (h4 x hx)⟩
theorem kept_ok {W : World} {s : Sl Kep} (h : (rdSl rdKep).ok W s) : s.l.length ≤ s.cap ∧ s.cap ≤ maxLen ∧ Cells W s.A (kepCells s.l) ∧ ∀ k ∈ s.l, k.name.size ≤ maxLen ∧ wf64 k.index ∧ wf64 k.bytes := by
  obtain ⟨h1, h2, h3, h4⟩ := h
  refine ⟨h1, h2, h3, fun k hk => ?_⟩
  obtain ⟨a, b, c, -⟩ := h4 k hk
  exact ⟨a, wf64_of b, wf64_of c⟩
theorem step_ok {W : World} {s : StepV} (h : rdStep.ok W s) : s.Ok W := by
  obtain ⟨h1, h2, h3, h4, h5, h6, h7, h8, -⟩ := h
  exact ⟨wf64_of h1, wf64_of h2, wf64_of h3, wf64_of h4, h5, byte_of h7, bytes_ok h6, kept_ok h8⟩
def fullOf (b : List Int) : List Int := b.take 128 ++ z128.drop b.length
theorem fullOf_length (b : List Int) : (fullOf b).length = 128 := by
  unfold fullOf z128
  simp only [List.length_append, List.length_take, List.length_drop, List.length_replicate]
  omega
theorem z128_bytes : Bytes z128 := fun x hx => by
  have := List.eq_of_mem_replicate hx
  omega
theorem fullOf_bytes {b : List Int} (h : Bytes b) : Bytes (fullOf b) := fun x hx => by
  rcases List.mem_append.1 hx with hx | hx
  · exact h x (List.mem_of_mem_take hx)
  · exact z128_bytes x (List.mem_of_mem_drop hx)
theorem full_cells (b : List Int) : (b8s b).take 128 ++ (List.replicate 128 (Value.int .u8 0)).drop b.length = b8s (fullOf b) := by
  unfold fullOf b8s z128
  rw [List.map_append, List.map_take, List.map_drop, List.map_replicate]
theorem wpList_make_row {P : Program} {E : Env} {q : HP} {ops : Array Oper} {rest : List Oper} {o : Oper} {a : Act} {w : World} {Q : Exit → Act → World → Prop} {t e : TypeId} {z : Value} {bytes : Nat} {x y : Operand} (T : SlTy P t e z 1 bytes) (hz1 : z.cells = #[z]) (hg : o.guard = none) (ho : o.op = .makeSlice t x y) {n : Nat} {kl kc : IntKind} (hx : a.eval x = .int kl n) (hy : a.eval y = .int kc n)
    (h : Sat E w q) (hn : n ≤ maxLen) (hb : n * bytes ≤ 140737488355328)
    (hk : ∀ (g : Nat) (w' : World), Sat E w' (HP.row e 1 (.slice (some ⟨g, 0, none⟩) n n) n (List.replicate n z) * q) → wpList P ops Q rest (a.put o.dst (.slice (some ⟨g, 0, none⟩) n n)) w') : wpList P ops Q (o :: rest) a w := by
  obtain ⟨w', hr, h2⟩ := run_make_row T hz1 h n hn hb kl kc
  refine wpList_plain hg fun K hK => ?_
  unfold Oper.wp execOp
  simp only [ho, hx, hy, Sem.run_bind, hr, Result.andThen_ok]
  exact hK _ _ (hk _ w' h2)
theorem wpList_copy_sat {P : Program} {E : Env} {q : HP} {ops : Array Oper} {rest : List Oper} {o : Oper} {a : Act} {w : World} {Q : Exit → Act → World → Prop} {dT sT e : TypeId} {x y : Operand} {dA : Option Addr} {n c : Nat} {cs : List Value} (hu : P.underlying dT = some (.slice e)) (hs : (P.info? e).map (·.size) = some 1) (hg : o.guard = none) (ho : o.op = .call { callee := .builtin .copy, args := #[x, y], argTypes := #[dT, sT] })
    {A : Option Addr} {m k : Nat} {src : List Value} (hx : a.eval x = .slice dA n c) (hy : a.eval y = .slice A m k) (h : Sat E w (HP.row e 1 (.slice dA n c) n cs * q)) (hm : src.length = m) (hsrc : Cells w A src) (h1 : src.all Value.oneCell' = true)
    (hk : ∀ w', Sat E w' (HP.row e 1 (.slice dA n c) n (src.take n ++ cs.drop m) * q) → wpList P ops Q rest (a.put o.dst (goInt (Nat.min m n))) w') : wpList P ops Q (o :: rest) a w := by
  obtain ⟨w', hr, h2⟩ := run_copy_sat (sT := sT) (ty := o.type) (k := k) hu hs h hm hsrc h1
  refine wpList_plain hg fun K hK => ?_
  exact wp_copy_run ho hx hy hr (hK _ _ (hk w' h2))
theorem wp_make_row {P : Program} {E : Env} {q : HP} {o : Oper} {a : Act} {w : World} {K : Act → World → Prop} {Q : Exit → Act → World → Prop} {t e : TypeId} {z : Value} {bytes : Nat} {x y : Operand} (T : SlTy P t e z 1 bytes) (hz1 : z.cells = #[z]) (ho : o.op = .makeSlice t x y) {n : Nat} {kl kc : IntKind} (hx : a.eval x = .int kl n) (hy : a.eval y = .int kc n)
    (h : Sat E w q) (hn : n ≤ maxLen) (hb : n * bytes ≤ 140737488355328)
    (hk : ∀ (g : Nat) (w' : World), Sat E w' (HP.row e 1 (.slice (some ⟨g, 0, none⟩) n n) n (List.replicate n z) * q) → K (a.put o.dst (.slice (some ⟨g, 0, none⟩) n n)) w') : o.wp P a w K Q := by
  obtain ⟨w', hr, h2⟩ := run_make_row T hz1 h n hn hb kl kc
  unfold Oper.wp execOp
  simp only [ho, hx, hy, Sem.run_bind, hr, Result.andThen_ok]
  exact hk _ w' h2
end Go.Proofs.YtnpinegpajbkeaaGreatDoor
namespace Go.Proofs.YtnpinegpajbkeaaGreatDoor
open Go.RowKit HP
def Dk.new (room : Int) : Dk := ⟨room, -1, []⟩
theorem Dk.new_fine {room : Int} (h : 0 ≤ room ∧ room ≤ 100000) : (Dk.new room).Fine :=
  ⟨List.Pairwise.nil, (fun x hx => by cases hx), (fun x hx => by cases hx), h, ⟨by show (-1 : Int) ≤ -1; omega, by show (-1 : Int) ≤ _; omega⟩, h.1⟩
theorem View.new {room : Int} (h : 0 ≤ room ∧ room ≤ 100000) : View (Dk.new room) #[] 0 [] :=
  ⟨⟨(fun x hx => by simp at hx), rfl, by simp, (fun x hx => by simp at hx), by simp⟩, fun s => rfl, Dk.new_fine h⟩
theorem disk_new_ok (E : Env) (q : HP) (room : Int) (w : World) (h : 0 ≤ room ∧ room ≤ 100000) (hw : Sat E w q) :
    Calls Tryz.prog 39 #[.int .i64 room] w fun e w' => ∃ d, e = .returned (.tuple #[.pointer (some ⟨d, 0, none⟩), .int .i64 0]) ∧ Sat E w' (HP.disk d (Dk.new room) * q) :=
  (disk_new E q room w h.1 h.2 hw).mono fun e w' ⟨d, m, he, hs⟩ => ⟨d, he, Sat.disk_close (m := m) (View.new h) (hs.perm (by
    unfold HP.dk
    simp only [List.map_nil, HP.all, HP.mul_emp]
    show _ = HP.dsk d room (-1) m * HP.pt m (.map #[] 0) * q
    rw [HP.mul_assoc]))⟩
section
variable {A : Dk} {s t : ByteArray} {i : Int} {b : List Int} {l : List Cel}
theorem at_set (hs : Sorted A.files) (l : List Cel) : (A.set s l).at t = if s = t then l else A.at t := by
  unfold Dk.at Dk.set
  rw [lk_put _ _ _ hs]
  split <;> rfl
theorem lk_set (hs : Sorted A.files) (l : List Cel) : lk (A.set s l).files t = if s = t then some l else lk A.files t := lk_put _ _ _ hs
end
theorem celAt_view {A : Dk} {es : Array MapEntry} {clock : Nat} {fs : List Fil} (hv : View A es clock fs) (s : ByteArray) (i : Int) : (celAt fs s i).map (·.2) = A.cel s i := by
  have h := hv.same s
  unfold celAt Dk.cel Dk.at
  unfold lkF at h
  cases hf : fs.find? (fun f => decide (f.name = s)) with
  | none =>
    rw [hf] at h
    rw [← h]
    simp
  | some f =>
    rw [hf] at h
    simp only [Option.map_some] at h
    rw [← h]
    simp only [Option.getD_some]
    by_cases h0 : 0 ≤ i
    · rw [if_pos h0]
      by_cases h1 : i < f.cels.length
      · rw [if_pos ⟨h0, h1⟩, Fil.cs, List.getElem?_map]
      · rw [if_neg (fun h => h1 h.2), Fil.cs, List.getElem?_map, List.getElem?_eq_none (by omega)]
    · rw [if_neg h0, if_neg (fun h => h0 h.1)]; rfl
def readEnd (E : Env) (q : HP) (r : Option Cel) (e : Ending) (w' : World) : Prop :=
  match r with
  | none => e = .returned (.tuple #[.slice none 0 0, .int .i64 30]) ∧ Sat E w' q
  | some c => ∃ v, e = .returned (.tuple #[v, .int .i64 0]) ∧ Sat E w' (HP.row 5 1 v 128 (b8s c.read) * q)
theorem disk_read_ok (E : Env) (q : HP) (d : Nat) (A : Dk) (name : ByteArray) (i : Int) (w : World) (hn : name.size ≤ maxLen) (hw : Sat E w (HP.disk d A * q)) :
    Calls Tryz.prog 36 #[.pointer (some ⟨d, 0, none⟩), .string name, .int .i64 i] w (readEnd E (HP.disk d A * q) (A.cel name i)) := by
  obtain ⟨m, es, clock, fs, hv, hd⟩ := hw.disk_open
  refine (disk_read E q d A.room A.fuse m es clock fs name i w hn hv.map hv.good hd).mono fun e w' h => ?_
  rw [← celAt_view hv]
  unfold readPost at h
  unfold readEnd
  cases hc : celAt fs name i with
  | none => rw [hc] at h; exact ⟨h.1, Sat.disk_close hv h.2⟩
  | some x =>
    rw [hc] at h
    obtain ⟨v, he, hs⟩ := h
    exact ⟨v, he, (Sat.disk_close (q := HP.row 5 1 v 128 (b8s x.2.read) * q) hv (hs.perm (HP.left_comm _ _ _))).perm (HP.left_comm _ _ _)⟩
theorem flat_get {α : Type} (f : α → List Value) (n : Nat) (l : List α) (hn : ∀ x, (f x).length = n) (i k : Nat) (x : α) (h : l[i]? = some x) (hk : k < n) : (l.flatMap f)[i * n + k]? = (f x)[k]? := by
  induction l generalizing i with
  | nil => simp at h
  | cons y l ih =>
    rw [List.flatMap_cons]
    cases i with
    | zero =>
      simp only [List.getElem?_cons_zero, Option.some.injEq] at h
      subst h
      rw [Nat.zero_mul, Nat.zero_add, List.getElem?_append_left (by rw [hn]; exact hk)]
    | succ i =>
      simp only [List.getElem?_cons_succ] at h
      rw [List.getElem?_append_right (by rw [hn, Nat.add_mul]; omega), hn, ← ih i h]
      congr 1
      rw [Nat.add_mul, Nat.one_mul]
      omega
theorem StepV.vals_length (s : StepV) : s.vals.length = 8 := rfl
end Go.Proofs.YtnpinegpajbkeaaGreatDoor
namespace Go.Proofs.YtnpinegpajbkeaaGreatDoor
open Go.RowKit HP
def HP.imgs (L : List (Value × List Int)) : HP := HP.all (L.map fun x => HP.row 5 1 x.1 128 (b8s x.2))
structure RC where
  c : Cel
  vr : Value
  vd : Value
  vs : Value
  vw : Value
def RC.vals (x : RC) : List Value := [x.vr, x.vd, x.vs, x.vw, .bool x.c.waits]
structure RF where
  name : ByteArray
  val : Value
  cs : List RC
def RF.vals (f : RF) : List Value := [.string f.name, f.val]
def HP.rcs (f : RF) : HP := HP.row 176 5 f.val f.cs.length (f.cs.flatMap RC.vals)
def RC.In (L : List (Value × List Int)) (x : RC) : Prop := (x.vr, x.c.read) ∈ L ∧ (x.vd, x.c.durable) ∈ L ∧ (x.vs, x.c.synced) ∈ L ∧ (x.vw, x.c.written) ∈ L
structure RView (A : Dk) (fs : List RF) (L : List (Value × List Int)) : Prop where
  same : fs.map (fun f => (f.name, f.cs.map (·.c))) = A.files
  imgs : ∀ f ∈ fs, ∀ x ∈ f.cs, x.In L
  fine : A.Fine
def HP.rdk (y : Nat) (room fuse : Int) (v : Value) (fs : List RF) (L : List (Value × List Int)) : HP :=
  HP.pt y (.cells #[.int .i64 room, v, .int .i64 fuse] 158) * (HP.row 174 2 v fs.length (fs.flatMap RF.vals) * (HP.all (fs.map HP.rcs) * HP.imgs L))
def HP.rdisk (y : Nat) (A : Dk) : HP := HP.ex fun x : Value × List RF × List (Value × List Int) => HP.fact (RView A x.2.1 x.2.2) * HP.rdk y A.room A.fuse x.1 x.2.1 x.2.2
section
variable {E : Env} {q : HP} {w : World} {y : Nat} {A : Dk} {fs : List RF} {L : List (Value × List Int)} {v : Value}
theorem Sat.rdisk_open (h : Sat E w (HP.rdisk y A * q)) : ∃ v fs L, RView A fs L ∧ Sat E w (HP.rdk y A.room A.fuse v fs L * q) := by
  obtain ⟨⟨v, fs, L⟩, h⟩ := h.ex_elim
  obtain ⟨hv, h⟩ := (h.perm (HP.mul_assoc _ _ _)).fact_elim
  exact ⟨v, fs, L, hv, h⟩
theorem Sat.rdisk_close (hv : RView A fs L) (h : Sat E w (HP.rdk y A.room A.fuse v fs L * q)) : Sat E w (HP.rdisk y A * q) := by
  refine Sat.ex_intro (v, fs, L) ?_
  exact (Sat.fact_intro hv h).perm (HP.mul_assoc _ _ _).symm
theorem Sat.rdk_parts {room fuse : Int} (h : Sat E w (HP.rdk y room fuse v fs L * q)) : Sat E w (HP.pt y (.cells #[.int .i64 room, v, .int .i64 fuse] 158) * (HP.row 174 2 v fs.length (fs.flatMap RF.vals) * (HP.all (fs.map HP.rcs) * (HP.imgs L * q)))) := by
  unfold HP.rdk at h
  exact h.perm (by ac_rfl)
theorem Sat.rdk_join {room fuse : Int} (h : Sat E w (HP.pt y (.cells #[.int .i64 room, v, .int .i64 fuse] 158) * (HP.row 174 2 v fs.length (fs.flatMap RF.vals) * (HP.all (fs.map HP.rcs) * (HP.imgs L * q))))) : Sat E w (HP.rdk y room fuse v fs L * q) := by
  unfold HP.rdk
  exact h.perm (by ac_rfl)
theorem all_mem {l : List HP} {p : HP} (h : p ∈ l) : ∃ r, HP.all l = p * r := by
  obtain ⟨j, hj⟩ := List.getElem?_of_mem h
  exact ⟨_, all_take hj⟩
theorem Sat.img {x : Value} {b : List Int} (hm : (x, b) ∈ L) (h : Sat E w (HP.imgs L * q)) : ∃ A c, x = .slice A 128 c ∧ 128 ≤ c ∧ c ≤ maxLen ∧ Cells w A (b8s b) := by
  obtain ⟨r, hr⟩ := all_mem (List.mem_map.2 ⟨_, hm, rfl⟩ : HP.row 5 1 x 128 (b8s b) ∈ L.map fun x => HP.row 5 1 x.1 128 (b8s x.2))
  unfold HP.imgs at h
  rw [hr] at h
  have h2 := h.perm (HP.mul_assoc _ _ _)
  obtain ⟨A, c, rfl, hc, hm⟩ := h2.row_slice
  exact ⟨A, c, rfl, hc, hm, h2.row_cells⟩
theorem Sat.img_push {x : Value} {b : List Int} (h : Sat E w (HP.row 5 1 x 128 (b8s b) * (HP.imgs L * q))) : Sat E w (HP.imgs ((x, b) :: L) * q) := by
  unfold HP.imgs at h ⊢
  rw [List.map_cons, HP.all_cons]
  exact h.perm (HP.mul_assoc _ _ _).symm
theorem RC.In.push {L : List (Value × List Int)} {x : RC} (h : x.In L) (z : Value × List Int) : x.In (z :: L) := ⟨List.mem_cons_of_mem _ h.1, List.mem_cons_of_mem _ h.2.1, List.mem_cons_of_mem _ h.2.2.1, List.mem_cons_of_mem _ h.2.2.2⟩
end
def strangeC (b : UInt8) : Bool := strangeB (b.toNat : Int)
theorem strange_high {c : Int} (h : 128 ≤ c) : strangeB c = true := by
  unfold strangeB
  simp
  omega
theorem runes_any (s : ByteArray) : ∀ (n pos : Nat) (acc : Array Value), s.size - pos ≤ n → ((Conv.runesFrom s n pos acc).toList.map intOf).any strangeB = ((acc.toList.map intOf).any strangeB || (s.data.toList.drop pos).any strangeC) := by
  intro n
  induction n with
  | zero =>
    intro pos acc h
    unfold Conv.runesFrom
    rw [List.drop_eq_nil_of_le (by rw [Array.length_toList]; show s.size ≤ pos; omega)]
    simp
  | succ n ih =>
    intro pos acc h
    unfold Conv.runesFrom
    by_cases hlt : pos < s.size
    · rw [if_pos hlt]
      have hd : s.data.toList.drop pos = s[pos] :: s.data.toList.drop (pos + 1) := by
        rw [List.drop_eq_getElem_cons (by rw [Array.length_toList]; exact hlt)]
        rfl
      rw [hd, List.any_cons]
      rcases Nat.lt_or_ge (s[pos]).toNat 128 with ha | ha
      · rw [decode_ascii s pos hlt ha]
        dsimp only
        rw [ih (pos + 1) _ (by omega), Array.toList_push, List.map_append, List.any_append]
        simp only [List.map_cons, List.map_nil, List.any_cons, List.any_nil, Bool.or_false, intOf, Int.ofNat_eq_natCast]
        rw [Bool.or_assoc]
        rfl
      · have hh := decode_high s pos hlt ha
        rw [ih _ _ (by omega), Array.toList_push, List.map_append, List.any_append]
        simp only [List.map_cons, List.map_nil, List.any_cons, List.any_nil, Bool.or_false, intOf, Int.ofNat_eq_natCast]
        rw [strange_high (by have := hh.1; omega)]
        have : strangeC s[pos] = true := strange_high (by omega)
        rw [this]
        simp
    · rw [if_neg hlt, List.drop_eq_nil_of_le (by rw [Array.length_toList]; show s.size ≤ pos; omega)]
      simp
theorem named_bytes (s : ByteArray) : namedB s = (decide (1 ≤ s.size) && decide (s.size ≤ 24) && !s.data.toList.any strangeC) := by
  unfold namedB runesOf
  rw [runes_any s s.size 0 #[] (by omega)]
  have e : (!s.toList.isEmpty) = decide (1 ≤ s.size) := by
    rw [ByteArray.toList_eq]
    have : s.data.toList.length = s.size := by rw [Array.length_toList]; rfl
    cases hd : s.data.toList with
    | nil => rw [hd] at this; simp at this; simp [← this]
    | cons a l => rw [hd] at this; simp at this; simp; omega
  rw [e]
  simp
end Go.Proofs.YtnpinegpajbkeaaGreatDoor
namespace Go.Proofs.YtnpinegpajbkeaaGreatDoor
open Go.RowKit HP
set_option maxHeartbeats 2000000 in
set_option maxRecDepth 100000 in
theorem ref_isName (s : ByteArray) (w : World) (hs : s.size ≤ maxLen) :
    Calls Tryz.prog 117 #[.string s] w fun e w' => e = .returned (.bool (namedB s)) ∧ w' = w := by
  obtain ⟨R, hR⟩ : ∃ R, R = namedB s := ⟨_, rfl⟩
  have HR : Aside (R = (decide (1 ≤ s.size) && decide (s.size ≤ 24) && !s.data.toList.any strangeC)) := ⟨by rw [hR, named_bytes]⟩
  rw [← hR]
  clear hR
  have hd : s.data.toList.length = s.size := by rw [Array.length_toList]; rfl
  have HD := Aside.mk hd
  unfold maxLen at hs
  clear hd
  go_enter Tryz.func117, Tryz.ntmps117
  go_wp2
  go_loopw [3] (fun v3 wr => ∃ k : Nat, k ≤ s.size ∧ v3 = .int .i64 k ∧ Aside ((s.data.toList.take k).any strangeC = false) ∧ wr = w) (fun i _ => s.size - (intOf i).toNat)
  case atStart => exact ⟨0, Nat.zero_le _, rfl, ⟨by simp⟩, rfl⟩
  case round =>
    obtain ⟨k, hk, rfl, HS, rfl⟩ := hrel
    by_cases hlt : k < s.size
    · have hlt2 : (k : Int) < (s.size : Int) := by omega
      have h0 : (0 : Int) ≤ (k : Int) := by omega
      have hsk : s.data.toList.take (k + 1) = s.data.toList.take k ++ [s[k]] := by
        rw [List.take_succ_eq_append_getElem (by rw [HD.out]; exact hlt)]
        rfl
      have HSK := Aside.mk hsk
      clear hsk
      go_wp2
      all_goals first
        | (refine ⟨⟨k + 1, by omega, by go_num, ⟨?_⟩, trivial⟩, by simp [intOf]; omega⟩
           rw [HSK.out, List.any_append, HS.out]
           have hst : strangeC s[k] = false := by
             unfold strangeC strangeB
             simp_all
             try omega
           simp [hst])
        | (go_ret
           refine ⟨?_, rfl⟩
           have hst : strangeC s[k] = true := by
             unfold strangeC strangeB
             simp_all
             try omega
           have hany : s.data.toList.any strangeC = true := by
             rw [← List.take_append_drop (k + 1) s.data.toList, HSK.out]
             simp [hst]
           rw [HR.out, hany]
           simp)
    · obtain rfl : k = s.size := by omega
      have hall : s.data.toList.any strangeC = false := by
        have h := HS.out
        rwa [List.take_of_length_le (by rw [HD.out]; exact Nat.le_refl _)] at h
      have HA := Aside.mk hall
      clear hall
      go_wp2
      all_goals
        go_ret
        refine ⟨?_, rfl⟩
        rw [HR.out, HA.out]
        first
          | (have h1 : 1 ≤ s.size := by omega
             have h1' : (1 : Int) ≤ (s.size : Int) := by omega
             by_cases h24 : s.size ≤ 24
             · have h24' : (s.size : Int) ≤ 24 := by omega
               simp [h1, h24, h24', h1']
             · have h24' : ¬ (s.size : Int) ≤ 24 := by omega
               simp [h1, h24, h24', h1'])
          | (have h1 : ¬ 1 ≤ s.size := by omega
             simp [h1])
set_option maxHeartbeats 1000000 in
set_option maxRecDepth 100000 in
theorem ref_new (E : Env) (q : HP) (room : Int) (w : World) (h : 0 ≤ room ∧ room ≤ 100000) (hw : Sat E w q) :
    Calls Tryz.prog 40 #[.int .i64 room] w fun e w' => ∃ y, e = .returned (.tuple #[.pointer (some ⟨y, 0, none⟩), .int .i64 0]) ∧ Sat E w' (HP.rdisk y (Dk.new room) * q) := by
  obtain ⟨h0, h1⟩ := h
  have hb := hw.alloc (.cells #[.int .i64 room, .slice none 0 0, .int .i64 (-1)] 158)
  have HB := Aside.mk hb
  have HR := Aside.mk (And.intro h0 h1)
  clear hb hw
  go_enter Tryz.func40, Tryz.ntmps40
  go_wp2
  go_ret2
  refine ⟨w.heap.size, rfl, ?_⟩
  have h2 := HB.out.row_nil 174 2 none
  refine Sat.rdisk_close (v := .slice none 0 0) (fs := []) (L := []) ⟨rfl, (fun f hf => by cases hf), Dk.new_fine HR.out⟩ (Sat.rdk_join ?_)
  refine h2.perm ?_
  show HP.row _ 2 _ 0 [] * (HP.pt _ _ * q) = HP.pt _ _ * (HP.row _ 2 _ 0 [] * (HP.emp * (HP.emp * q)))
  rw [HP.emp_mul, HP.emp_mul]
  ac_rfl
theorem ref_stops (E : Env) (q : HP) (y : Nat) (A : Dk) (v : Value) (fs : List RF) (L : List (Value × List Int)) (w : World) (hf : -1 ≤ A.fuse ∧ A.fuse ≤ 9223372036854775807) (hw : Sat E w (HP.rdk y A.room A.fuse v fs L * q)) :
    Calls Tryz.prog 118 #[.pointer (some ⟨y, 0, none⟩)] w fun e w' => e = .returned (.bool (!A.goes)) ∧ Sat E w' (HP.rdk y A.room A.burnt.fuse v fs L * q) := by
  have hp := hw.rdk_parts
  have c2 := hp.cell 2
  have z2 := hp.thaw 2
  have HP := Aside.mk hp
  simp only [List.getElem?_toArray, List.getElem?_cons_zero, List.getElem?_cons_succ] at c2
  clear hw hp
  go_enter Tryz.func118, Tryz.ntmps118
  by_cases h0 : A.fuse = 0
  · have hg : A.goes = false := by unfold Dk.goes burnI; simp [h0]
    have hb : A.burnt.fuse = A.fuse := by unfold Dk.burnt burnI; simp [h0]
    rw [hg, hb]
    rw [h0] at c2
    clear hg hb h0
    go_wp2
    go_ret
    exact ⟨rfl, HP.out.rdk_join⟩
  · by_cases h1 : 0 < A.fuse
    · have hg : A.goes = true := by unfold Dk.goes burnI; simp [h1]
      have hb : A.burnt.fuse = A.fuse - 1 := by unfold Dk.burnt burnI; simp [h1]
      rw [hg, hb]
      clear hg hb
      obtain ⟨fu, hfu⟩ : ∃ fu, fu = A.fuse := ⟨_, rfl⟩
      rw [← hfu] at c2 h0 h1 hf ⊢
      have HF := Aside.mk hfu
      clear hfu
      have hs := HP.out.set (i := 2) (.int .i64 (fu - 1))
      simp only [List.setIfInBounds_toArray, List.set_cons_zero, List.set_cons_succ] at hs
      have HS := Aside.mk hs
      have hz : ((fu - 1 : Int)) ≤ 9223372036854775807 := by omega
      have hz1 : (-9223372036854775808 : Int) ≤ fu - 1 := by omega
      clear hs
      go_wp2
      go_ret
      exact ⟨rfl, HS.out.rdk_join⟩
    · have hg : A.goes = true := by unfold Dk.goes burnI; simp [h1]; omega
      have hb : A.burnt.fuse = A.fuse := by unfold Dk.burnt burnI; simp [h1]
      rw [hg, hb]
      clear hg hb
      obtain ⟨fu, hfu⟩ : ∃ fu, fu = A.fuse := ⟨_, rfl⟩
      rw [← hfu] at c2 h0 h1 hf HP ⊢
      clear hfu
      go_wp2
      go_ret
      exact ⟨rfl, HP.out.rdk_join⟩
theorem putF_perm {α : Type} {s : ByteArray} {v : α} : ∀ {l : List (ByteArray × α)}, lk l s = none → (putF l s v).Perm ((s, v) :: l)
  | [], _ => List.Perm.refl _
  | (t, u) :: l, h => by
    rw [lk_cons] at h
    split at h
    · cases h
    · rename_i hne
      unfold putF
      rw [if_neg hne]
      split
      · exact List.Perm.refl _
      · exact ((putF_perm h).cons _).trans (List.Perm.swap _ _ _)
theorem sortF_perm {fs : List Fil} (hn : (fs.map (·.name)).Nodup) : (sortF fs).Perm (fs.map fun f => (f.name, f.cs)) := by
  induction fs with
  | nil => exact List.Perm.refl _
  | cons f fs ih =>
    simp only [List.map_cons, List.nodup_cons] at hn
    have h2 : lk (sortF fs) f.name = none := by
      rw [sortF_lk]
      unfold lkF
      rw [Option.map_eq_none_iff, List.find?_eq_none]
      intro x hx he
      simp only [decide_eq_true_eq] at he
      exact hn.1 (List.mem_map.2 ⟨x, hx, he⟩)
    exact (putF_perm h2).trans ((ih hn.2).cons _)
theorem files_perm {A : Dk} {es : Array MapEntry} {clock : Nat} {fs : List Fil} (hv : View A es clock fs) : (fs.map fun f => (f.name, f.cs)).Perm A.files := by
  have e : sortF fs = A.files := sorted_ext (sortF_sorted fs) hv.fine.sorted fun s => by rw [sortF_lk, hv.same]
  rw [← e]
  exact (sortF_perm hv.map.2.2.1).symm
def leftZ (es : Array MapEntry) (seen : Array Nat) (fs : List Fil) : List (MapEntry × Fil) := (es.toList.zip fs).filter fun x => !seen.contains x.1.born
theorem filter_out {α : Type} {b : α → Nat} : ∀ {l : List α} {x : α} {p : α → Bool}, (l.map b).Nodup → x ∈ l → p x = true → (l.filter p).Perm (x :: l.filter fun y => p y && !(b y == b x))
  | [], x, p, _, h, _ => by cases h
  | y :: l, x, p, hn, hx, hp => by
    simp only [List.map_cons, List.nodup_cons] at hn
    by_cases e : y = x
    · subst e
      rw [List.filter_cons_of_pos hp, List.filter_cons_of_neg (by simp)]
      refine List.Perm.cons _ (List.Perm.of_eq ?_)
      refine List.filter_congr fun z hz => ?_
      have : b z ≠ b y := fun h => hn.1 (by rw [← h]; exact List.mem_map.2 ⟨z, hz, rfl⟩)
      simp [this]
    · have hxl : x ∈ l := by
        rcases List.mem_cons.1 hx with h | h
        · exact absurd h.symm e
        · exact h
      have hb : b y ≠ b x := fun h => hn.1 (by rw [h]; exact List.mem_map.2 ⟨x, hxl, rfl⟩)
      have ih := filter_out hn.2 hxl hp
      by_cases hpy : p y = true
      · rw [List.filter_cons_of_pos hpy, List.filter_cons_of_pos (by simp [hpy, hb])]
        exact (ih.cons _).trans (List.Perm.swap _ _ _)
      · rw [List.filter_cons_of_neg hpy, List.filter_cons_of_neg (by simp [hpy])]
        exact ih
theorem leftZ_step {es : Array MapEntry} {seen : Array Nat} {fs : List Fil} {j : Nat} {e : MapEntry} {f : Fil} (hn : (es.toList.map (·.born)).Nodup) (hl : es.toList.length = fs.length) (hj : es.toList[j]? = some e) (hf : fs[j]? = some f) (he : seen.contains e.born = false) :
    (leftZ es seen fs).Perm ((e, f) :: leftZ es (seen.push e.born) fs) := by
  have hm : ((es.toList.zip fs).map fun x => x.1.born) = es.toList.map (·.born) := by
    rw [show (fun x : MapEntry × Fil => x.1.born) = (fun x : MapEntry => x.born) ∘ Prod.fst from rfl, ← List.map_map, List.map_fst_zip (by omega)]
  have hmem : (e, f) ∈ es.toList.zip fs := List.mem_of_getElem? (i := j) (by rw [List.getElem?_zip_eq_some]; exact ⟨hj, hf⟩)
  have := filter_out (b := fun x : MapEntry × Fil => x.1.born) (p := fun x => !seen.contains x.1.born) (by rw [hm]; exact hn) hmem (by show (!seen.contains e.born) = true; rw [he]; rfl)
  refine this.trans (List.Perm.of_eq ?_)
  unfold leftZ
  congr 1
  refine List.filter_congr fun z _ => ?_
  rw [Array.contains_push]
  simp [Bool.not_or]
theorem leftZ_start {es : Array MapEntry} {fs : List Fil} (hl : es.toList.length = fs.length) : (leftZ es #[] fs).map (·.2) = fs := by
  unfold leftZ
  rw [List.filter_eq_self.2 (by simp), List.map_snd_zip (by omega)]
theorem leftZ_end {es : Array MapEntry} {seen : Array Nat} {fs : List Fil} (h : leftL es seen = []) : leftZ es seen fs = [] := by
  unfold leftZ
  rw [List.filter_eq_nil_iff]
  rintro ⟨e, f⟩ hx
  have he := (List.of_mem_zip hx).1
  have := List.filter_eq_nil_iff.1 h e he
  simpa using this
end Go.Proofs.YtnpinegpajbkeaaGreatDoor
namespace Go.Proofs.YtnpinegpajbkeaaGreatDoor
open Go.RowKit
section
variable {P : Program} {ops : Array Oper} {Q : Exit → Act → World → Prop}
def BR (P : Program) (ops : Array Oper) (Q : Exit → Act → World → Prop) (effs keeps : List Nat) (T : World → Prop) (n : Nat) (l : Array Bool) (a : Act) (w : World) (i : Nat) : Prop :=
  ∃ oi, ops[i]? = some oi ∧ effs.contains i = true ∧ ∀ K : Act → World → Prop, (∀ a' w', (keeps.contains i = true → T w') → wpR P ops Q (RR effs keeps T) n (l.setIfInBounds i true) a' w' → K a' w') → if Region.wanted oi (yielded ops a.tmps) = true then Oper.wp P oi a w K Q else K (a.put oi.dst undef) w
theorem wpR_many {effs keeps : List Nat} {T : World → Prop} {n : Nat} {l : Array Bool} {a : Act} {w : World} (rs : List Nat) (hne : rs.isEmpty = false) (hc : (Region.ready .any ops l == rs) = true) (h : ∀ i ∈ rs, BR P ops Q effs keeps T n l a w i) :
    wpR P ops Q (RR effs keeps T) (n + 1) l a w := by
  have h1 : Region.ready .any ops l = rs := by simpa using hc
  refine ⟨fun h0 => (by rw [h1] at h0; subst h0; cases hne), fun j hj => ?_⟩
  rw [h1] at hj
  obtain ⟨oi, hi, he, hb⟩ := h j hj
  refine wpOp_step hi fun K hK => hb K fun a' w' hT h' => hK a' w' ⟨?_, h'⟩
  unfold RR
  rw [if_pos he]
  split
  · rename_i hk
    exact fun _ => hT hk
  · trivial
theorem br_keep {effs keeps : List Nat} {T : World → Prop} {i : Nat} {oi : Oper} {n : Nat} {l : Array Bool} {a : Act} {w : World} (l' : Array Bool) (hi : ops[i]? = some oi) (hc : (effs.contains i && (l.setIfInBounds i true == l')) = true)
    (h : ∀ K : Act → World → Prop, (∀ a' w', T w' → wpR P ops Q (RR effs keeps T) n l' a' w' → K a' w') → if Region.wanted oi (yielded ops a.tmps) = true then Oper.wp P oi a w K Q else K (a.put oi.dst undef) w) : BR P ops Q effs keeps T n l a w i := by
  simp only [Bool.and_eq_true, beq_iff_eq] at hc
  obtain ⟨h1, h3⟩ := hc
  subst h3
  by_cases hk : keeps.contains i = true
  · exact ⟨oi, hi, h1, fun K hK => h K fun a' w' hT h' => hK a' w' (fun _ => hT) h'⟩
  · exact ⟨oi, hi, h1, fun K hK => h K fun a' w' hT h' => hK a' w' (fun hk' => absurd hk' hk) h'⟩
end
theorem share {S G : Prop} (main : S → G) (pf : S) : G := main pf
end Go.Proofs.YtnpinegpajbkeaaGreatDoor
