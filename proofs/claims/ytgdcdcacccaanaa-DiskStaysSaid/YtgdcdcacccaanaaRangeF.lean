/- A disk's files gone through in any order, each turned as it comes. -/
import Derived.Test.YtgdcdcacccaanaaCrashA
namespace Go.Proofs.Ytgdcdcacccaanaa
open Go.RowKit HP
set_option linter.unusedSimpArgs false
set_option linter.unusedVariables false

theorem wpList_load_run {P : Program} {ops : Array Oper} {rest : List Oper} {o : Oper} {a : Act} {w : World} {Q : Exit → Act → World → Prop} {ty : TypeId} {p : Operand} {adr : Addr} {V : Value} (hg : o.guard = none) (ho : o.op = .load ty p) (hp : a.eval p = .pointer (some adr)) (hr : (loadVar ty adr).run P w = .ok V w)
    (h : wpList P ops Q rest (a.put o.dst V) w) : wpList P ops Q (o :: rest) a w := wpList_value hg (exec_load ho hp hr) h
theorem wpList_store_run {P : Program} {ops : Array Oper} {rest : List Oper} {o : Oper} {a : Act} {w w' : World} {Q : Exit → Act → World → Prop} {ty : TypeId} {p v : Operand} {adr : Addr} {V : Value} (hg : o.guard = none) (ho : o.op = .store ty p v) (hp : a.eval p = .pointer (some adr)) (hv : a.eval v = V) (hd : o.dst = none) (hr : (storeVar ty adr V).run P w = .ok () w')
    (h : wpList P ops Q rest a w') : wpList P ops Q (o :: rest) a w :=
  wpList_plain hg fun K' hK' => wp_store_run ho hp hv hd hr (hK' _ _ h)
theorem wp_copy_run {P : Program} {o : Oper} {a : Act} {w w' : World} {K : Act → World → Prop} {Q : Exit → Act → World → Prop} {x y : Operand} {t s : TypeId} {X Y V : Value} (ho : o.op = .call { callee := .builtin .copy, args := #[x, y], argTypes := #[t, s] }) (hx : a.eval x = X) (hy : a.eval y = Y)
    (hr : (Builtin.copy_ #[t, s] o.type #[X, Y]).run P w = .ok V w') (h : K (a.put o.dst V) w') : o.wp P a w K Q := by
  unfold Oper.wp execOp
  simp only [ho, resolve, invoke, builtin, Sem.run_bind, Sem.run_pure, Result.andThen_ok, List.map_toArray, List.map_cons, List.map_nil, hx, hy, hr]
  exact h

/-- The file at a place, and what becomes of the disk when its extents are laid anew. -/
theorem dk_file {E : Env} {q : HP} {w : World} {d m : Nat} {room fuse : Int} {es : Array MapEntry} {clock : Nat} {fs : List Fil} (hw : Sat E w (HP.dk d room fuse m es clock fs * q)) {j : Nat} {f : Fil} (hj : fs[j]? = some f) :
    ∃ R0 : HP, Sat E w (HP.row 77 1 f.val f.cels.length (celPtrs f.cels) * (HP.cels f.cels * (R0 * q))) ∧
      ∀ (w' : World) (cels' : List (Nat × Cel)), cels'.map (·.1) = f.cels.map (·.1) → Sat E w' (HP.row 77 1 f.val f.cels.length (celPtrs f.cels) * (HP.cels cels' * (R0 * q))) →
        Sat E w' (HP.dk d room fuse m es clock (fs.set j ⟨f.name, f.val, cels'⟩) * q) := by
  have h1 := dk_parts hw
  have h2 : Sat E w (HP.all (fs.map HP.fil) * (HP.dsk d room fuse m * (HP.pt m (.map es clock) * q))) := h1.perm (by ac_rfl)
  rw [all_take (l := fs.map HP.fil) (j := j) (p := HP.fil f) (by rw [List.getElem?_map, hj]; rfl)] at h2
  refine ⟨HP.all ((fs.map HP.fil).eraseIdx j) * (HP.dsk d room fuse m * HP.pt m (.map es clock)), h2.perm (by unfold HP.fil HP.cels Fil.ptrs celPtrs; ac_rfl), fun w' cels' hfst h => ?_⟩
  have hjl : j < fs.length := (List.getElem?_eq_some_iff.1 hj).1
  have hlen : cels'.length = f.cels.length := by simpa using congrArg List.length hfst
  unfold HP.dk
  rw [all_take (l := (fs.set j (⟨f.name, f.val, cels'⟩ : Fil)).map HP.fil) (j := j) (p := HP.fil ⟨f.name, f.val, cels'⟩) (by rw [List.getElem?_map, List.getElem?_set]; simp [hjl])]
  rw [List.map_set, List.eraseIdx_set_eq]
  have hp : (⟨f.name, f.val, cels'⟩ : Fil).ptrs = celPtrs f.cels := by
    show cels'.map (fun x => Value.pointer (some ⟨x.1, 0, none⟩)) = _
    unfold celPtrs
    have := congrArg (List.map fun b : Nat => Value.pointer (some ⟨b, 0, none⟩)) hfst
    simpa [List.map_map, Function.comp_def] using this
  have e1 : HP.fil ⟨f.name, f.val, cels'⟩ = HP.row 77 1 f.val f.cels.length (celPtrs f.cels) * HP.cels cels' := by
    unfold HP.fil HP.cels
    rw [hp]
    show HP.row 77 1 f.val cels'.length _ * _ = _
    rw [hlen]
  rw [e1]
  exact h.perm (by ac_rfl)

/-- The next file that comes, or the end. -/
theorem next_file {E : Env} {q : HP} {w : World} {d m g : Nat} {room fuse : Int} {es : Array MapEntry} {clock c0 : Nat} {seen : Array Nat} {fs : List Fil} (hm : MapOf es clock fs) (hc : clock ≤ c0) (h : Sat E w (HP.pt g (.mapIter (some m) clock seen c0) * (HP.dk d room fuse m es clock fs * q))) (ty : TypeId) :
    (leftL es seen = [] ∧ (Instr.next (.pointer (some ⟨g, 0, none⟩)) false ty).run Try.prog w = .ok (.tuple #[.bool false]) w) ∨
    ∃ (j : Nat) (f : Fil) (e : MapEntry) (w2 : World), fs[j]? = some f ∧ es.toList[j]? = some e ∧ e ∈ leftL es seen ∧ (Instr.next (.pointer (some ⟨g, 0, none⟩)) false ty).run Try.prog w = .ok (.tuple #[.bool true, .string f.name, f.val]) w2 ∧
      (Instr.entry (.pointer (some ⟨g, 0, none⟩))).run Try.prog w2 = .ok (.tuple #[.string f.name, f.val]) w2 ∧ Sat E w2 (HP.pt g (.mapIter (some m) clock (seen.push e.born) clock) * (HP.dk d room fuse m es clock fs * q)) := by
  have hb : w.heap[m]? = some (.map es clock) := by
    have h1 : Sat E w (HP.pt m (.map es clock) * (HP.pt g (.mapIter (some m) clock seen c0) * (HP.dsk d room fuse m * (HP.all (fs.map HP.fil) * q)))) := h.perm (by unfold HP.dk; ac_rfl)
    exact h1.get
  rcases run_next_at (P := Try.prog) w ty g m clock c0 seen es clock h.get hb hm.2.2.2.1 hc with ⟨hz, hnext⟩ | ⟨e, he, w2, hw2, hnext⟩
  · exact .inl ⟨by rw [← leftOf_eq]; exact List.eq_nil_of_length_eq_zero (by simpa using hz), hnext⟩
  · have he' : e ∈ leftL es seen := by rw [← leftOf_eq]; exact he
    have hes : e ∈ es.toList := (List.mem_filter.1 he').1
    have S2 : Sat E w2 (HP.pt g (.mapIter (some m) clock seen c0) * (HP.dk d room fuse m es clock fs * q)) := by
      rcases hw2 with rfl | rfl
      · exact h
      · exact h.drew
    have S3 := Sat.setBlock S2 (.mapIter (some m) clock (seen.push e.born) clock)
    have hb3 : (ChangeMaps.setBlock w2 g (.mapIter (some m) clock (seen.push e.born) clock)).heap[m]? = some (.map es clock) := by
      have h1 : Sat E _ (HP.pt m (.map es clock) * (HP.pt g (.mapIter (some m) clock (seen.push e.born) clock) * (HP.dsk d room fuse m * (HP.all (fs.map HP.fil) * q)))) := S3.perm (by unfold HP.dk; ac_rfl)
      exact h1.get
    have hent := run_entry_at (P := Try.prog) _ g m clock seen es clock e S3.get hb3 hes hm.2.2.2.2
    obtain ⟨j, hj⟩ := List.getElem?_of_mem hes
    have h6 := congrArg (fun l => l[j]?) hm.2.1
    simp only [List.getElem?_map, hj, Option.map_some] at h6
    cases hf : fs[j]? with
    | none => rw [hf] at h6; cases h6
    | some f =>
      rw [hf] at h6
      simp only [Option.map_some, Option.some.injEq, Prod.mk.injEq] at h6
      refine .inr ⟨j, f, e, _, hf, hj, he', ?_, ?_, S3⟩
      · rw [← h6.1, ← h6.2]; exact hnext
      · rw [← h6.1, ← h6.2]; exact hent

/-- The files, those that came turned. -/
def seenMap (es : Array MapEntry) (seen : Array Nat) (g : Fil → Fil) (fs : List Fil) : List Fil := List.zipWith (fun e f => if seen.contains e.born then g f else f) es.toList fs
theorem seenMap_start {es : Array MapEntry} {g : Fil → Fil} {fs : List Fil} (hl : es.toList.length = fs.length) : seenMap es #[] g fs = fs := by
  unfold seenMap
  apply List.ext_getElem?
  intro i
  rw [List.getElem?_zipWith]
  by_cases h : i < fs.length
  · rw [List.getElem?_eq_getElem (by omega : i < es.toList.length), List.getElem?_eq_getElem h]; simp
  · rw [List.getElem?_eq_none (by omega : fs.length ≤ i), List.getElem?_eq_none (by omega : es.toList.length ≤ i)]
theorem seenMap_end {es : Array MapEntry} {seen : Array Nat} {g : Fil → Fil} {fs : List Fil} (hl : es.toList.length = fs.length) (h : leftL es seen = []) : seenMap es seen g fs = fs.map g := by
  unfold seenMap
  apply List.ext_getElem?
  intro i
  rw [List.getElem?_zipWith, List.getElem?_map]
  by_cases hi : i < fs.length
  · have hie : i < es.toList.length := by omega
    rw [List.getElem?_eq_getElem hie, List.getElem?_eq_getElem hi]
    have : seen.contains (es.toList[i]).born = true := by
      have h1 := List.filter_eq_nil_iff.1 h _ (List.getElem_mem hie)
      simpa using h1
    simp only [this, if_true, Option.map_some]
  · rw [List.getElem?_eq_none (by omega : fs.length ≤ i), List.getElem?_eq_none (by omega : es.toList.length ≤ i)]; rfl
theorem seenMap_at {es : Array MapEntry} {seen : Array Nat} {g : Fil → Fil} {fs : List Fil} {j : Nat} {f' : Fil} {e : MapEntry} (hj : es.toList[j]? = some e) (he : e ∈ leftL es seen) (h : (seenMap es seen g fs)[j]? = some f') : fs[j]? = some f' := by
  unfold seenMap at h
  rw [List.getElem?_zipWith, hj] at h
  have hs := (List.mem_filter.1 he).2
  cases hf : fs[j]? with
  | none => rw [hf] at h; cases h
  | some f =>
    rw [hf] at h
    simp only [Bool.not_eq_true', Bool.not_eq_eq_eq_not, Bool.not_true] at hs
    simp only [hs, Bool.false_eq_true, if_false, Option.some.injEq] at h
    rw [h]
theorem seenMap_next {es : Array MapEntry} {seen : Array Nat} {g : Fil → Fil} {fs : List Fil} {j : Nat} {f : Fil} {e : MapEntry} (hn : (es.toList.map (·.born)).Nodup) (hl : es.toList.length = fs.length) (hj : es.toList[j]? = some e) (hf : fs[j]? = some f) (he : e ∈ leftL es seen) :
    (seenMap es seen g fs).set j (g f) = seenMap es (seen.push e.born) g fs := by
  have hjl : j < es.toList.length := (List.getElem?_eq_some_iff.1 hj).1
  unfold seenMap
  apply List.ext_getElem?
  intro i
  rw [List.getElem?_set, List.getElem?_zipWith, List.getElem?_zipWith]
  by_cases hij : j = i
  · subst hij
    rw [hj, hf]
    simp [List.length_zipWith, ← hl, hjl]
    simpa using hjl
  · rw [if_neg hij]
    by_cases hi : i < fs.length
    · have hie : i < es.toList.length := by omega
      rw [List.getElem?_eq_getElem hie, List.getElem?_eq_getElem hi]
      have hne : (es.toList[i]).born ≠ e.born := by
        intro h1
        have e1 : (es.toList.map (·.born))[i]? = some e.born := by rw [List.getElem?_map, List.getElem?_eq_getElem hie]; simpa using h1
        have e2 : (es.toList.map (·.born))[j]? = some e.born := by rw [List.getElem?_map, hj]; rfl
        exact hij ((List.getElem?_inj (by simpa using hjl) hn).1 (e2.trans e1.symm))
      simp only [Array.contains_push]
      have : ((es.toList[i]).born == e.born) = false := by simpa using hne
      rw [this, Bool.or_false]
    · rw [List.getElem?_eq_none (by omega : fs.length ≤ i), List.getElem?_eq_none (by omega : es.toList.length ≤ i)]
theorem seenMap_same {es : Array MapEntry} {seen : Array Nat} {g : Fil → Fil} (hg : ∀ f, (g f).name = f.name ∧ (g f).val = f.val) {clock : Nat} {fs : List Fil} (hm : MapOf es clock fs) : MapOf es clock (seenMap es seen g fs) := by
  obtain ⟨h1, h2, h3, h4, h5⟩ := hm
  have hl : es.toList.length = fs.length := by simpa using congrArg List.length h2
  have hat : ∀ i : Nat, ((seenMap es seen g fs)[i]?).map (fun f : Fil => (f.name, f.val)) = (fs[i]?).map (fun f : Fil => (f.name, f.val)) := by
    intro i
    unfold seenMap
    rw [List.getElem?_zipWith]
    by_cases hi : i < fs.length
    · rw [List.getElem?_eq_getElem (by omega : i < es.toList.length), List.getElem?_eq_getElem hi]
      simp only [Option.map_some]
      split
      · rw [(hg _).1, (hg _).2]
      · rfl
    · rw [List.getElem?_eq_none (by omega : fs.length ≤ i), List.getElem?_eq_none (by omega : es.toList.length ≤ i)]
  have hmap : (seenMap es seen g fs).map (fun f : Fil => (f.name, f.val)) = fs.map (fun f : Fil => (f.name, f.val)) := List.ext_getElem? fun i => by rw [List.getElem?_map, List.getElem?_map, hat]
  refine ⟨h1, ?_, ?_, h4, h5⟩
  · rw [h2]
    have := congrArg (List.map fun x : ByteArray × Value => (Value.string x.1, x.2)) hmap
    simpa [List.map_map, Function.comp_def] using this.symm
  · have := congrArg (List.map Prod.fst) hmap
    simp only [List.map_map, Function.comp_def] at this
    rw [this]; exact h3
theorem left_less {es : Array MapEntry} {seen : Array Nat} {e : MapEntry} (hn : (es.toList.map (·.born)).Nodup) (he : e ∈ leftL es seen) : (leftL es (seen.push e.born)).length < (leftL es seen).length := by
  have hnd : ((leftL es seen).map (·.born)).Nodup := hn.sublist ((List.filter_sublist).map _)
  obtain ⟨-, h2⟩ := sum_step hnd he
  rw [left_push]
  omega

/-- Extents turned, the first k of them. -/
def mapPre (g : Nat → Cel → Cel) (l : List (Nat × Cel)) (k : Nat) : List (Nat × Cel) := l.mapIdx fun i x => if i < k then (x.1, g i x.2) else x
theorem mapPre_at {g : Nat → Cel → Cel} {l : List (Nat × Cel)} {k : Nat} (h : k < l.length) : (mapPre g l k)[k]? = some l[k] := by
  unfold mapPre
  rw [List.getElem?_mapIdx, List.getElem?_eq_getElem h]
  simp
theorem mapPre_next {g : Nat → Cel → Cel} {l : List (Nat × Cel)} {k : Nat} (h : k < l.length) : (mapPre g l k).set k ((l[k]).1, g k (l[k]).2) = mapPre g l (k + 1) := by
  unfold mapPre
  apply List.ext_getElem?
  intro i
  rw [List.getElem?_set, List.getElem?_mapIdx, List.getElem?_mapIdx]
  by_cases hik : k = i
  · subst hik
    simp [h, List.length_mapIdx]
  · rw [if_neg hik]
    by_cases hlt : i < k
    · simp [hlt, show i < k + 1 by omega]
    · simp [hlt, show ¬ i < k + 1 by omega]
theorem mapPre_fst (g : Nat → Cel → Cel) (l : List (Nat × Cel)) (k : Nat) : (mapPre g l k).map (·.1) = l.map (·.1) := by
  unfold mapPre
  apply List.ext_getElem?
  intro i
  rw [List.getElem?_map, List.getElem?_mapIdx, List.getElem?_map, Option.map_map]
  congr 1
  funext x
  simp only [Function.comp_apply]
  split <;> rfl
theorem mapPre_zero (g : Nat → Cel → Cel) (l : List (Nat × Cel)) : mapPre g l 0 = l := by
  unfold mapPre
  apply List.ext_getElem?
  intro i
  rw [List.getElem?_mapIdx]
  cases l[i]? <;> simp
theorem mapPre_all (g : Nat → Cel → Cel) (l : List (Nat × Cel)) : mapPre g l l.length = l.mapIdx fun i x => (x.1, g i x.2) := by
  unfold mapPre
  apply List.ext_getElem?
  intro i
  rw [List.getElem?_mapIdx, List.getElem?_mapIdx]
  by_cases h : i < l.length
  · simp [h]
  · rw [List.getElem?_eq_none (by omega)]; rfl

def crashFil (K : List Kep) (f : Fil) : Fil := ⟨f.name, f.val, f.cels.mapIdx fun i x => (x.1, x.2.crashd (keepOf K f.name i))⟩
theorem lk_map {α β : Type} (h : ByteArray → α → β) (l : List (ByteArray × α)) (s : ByteArray) : lk (l.map fun x => (x.1, h x.1 x.2)) s = (lk l s).map (h s) := by
  induction l with
  | nil => rfl
  | cons x l ih =>
    obtain ⟨a, u⟩ := x
    rw [List.map_cons, lk_cons, lk_cons, ih]
    split
    · rename_i he; subst he; rfl
    · rfl
theorem lkF_map {g : Fil → Fil} {h : ByteArray → List Cel → List Cel} (hg : ∀ f, (g f).name = f.name ∧ (g f).cs = h f.name f.cs) (fs : List Fil) (s : ByteArray) : lkF (fs.map g) s = (lkF fs s).map (h s) := by
  unfold lkF
  induction fs with
  | nil => rfl
  | cons f fs ih =>
    rw [List.map_cons, List.find?_cons, List.find?_cons, (hg f).1]
    by_cases he : f.name = s
    · simp only [he, decide_true, Option.map_some]
      rw [(hg f).2, he]
    · simp only [he, decide_false]
      exact ih
theorem sorted_map {α β : Type} (h : ByteArray → α → β) {l : List (ByteArray × α)} (hs : Sorted l) : Sorted (l.map fun x => (x.1, h x.1 x.2)) := by
  unfold Sorted at hs ⊢
  rw [List.pairwise_map]
  exact hs
theorem crashL_length (K : List Kep) (s : ByteArray) (l : List Cel) : (crashL K s l).length = l.length := by simp [crashL]
theorem Dk.crash_fine {A : Dk} (h : A.Fine) (K : List Kep) : (A.crash K).Fine := by
  refine ⟨sorted_map (crashL K) h.sorted, fun x hx => ?_, fun x hx c hc => ?_, h.room, ⟨by show (-1 : Int) ≤ -1; omega, by show (-1 : Int) ≤ _; omega⟩, ?_⟩
  · obtain ⟨y, hy, rfl⟩ := List.mem_map.1 hx
    obtain ⟨h1, h2⟩ := h.named y hy
    refine ⟨h1, fun h0 => h2 ?_⟩
    have := crashL_length K y.1 y.2
    have h0 : crashL K y.1 y.2 = [] := h0
    rw [h0] at this
    exact List.eq_nil_of_length_eq_zero this.symm
  · obtain ⟨y, hy, rfl⟩ := List.mem_map.1 hx
    have hc : c ∈ crashL K y.1 y.2 := hc
    unfold crashL at hc
    obtain ⟨i, hi⟩ := List.getElem?_of_mem hc
    rw [List.getElem?_mapIdx] at hi
    obtain ⟨c0, hc0, rfl⟩ := Option.map_eq_some_iff.1 hi
    exact Cel.crashd_fine (h.cels y hy c0 (List.mem_of_getElem? hc0)) (keepOf_range _ _ _)
  · have : sizeF (A.crash K).files = sizeF A.files := by
      unfold Dk.crash sizeF
      simp only [List.map_map, Function.comp_def, crashL_length]
    rw [this]; exact h.fits
theorem crashFil_cs (K : List Kep) (f : Fil) : (crashFil K f).cs = crashL K f.name f.cs := by
  unfold Fil.cs crashFil crashL
  apply List.ext_getElem?
  intro i
  simp only [List.getElem?_map, List.getElem?_mapIdx, Option.map_map]
  rfl
theorem View.crash {A : Dk} {es : Array MapEntry} {clock : Nat} {fs : List Fil} (h : View A es clock fs) (K : List Kep) : View (A.crash K) es clock (fs.map (crashFil K)) := by
  refine ⟨?_, fun s => ?_, Dk.crash_fine h.fine K⟩
  · obtain ⟨h1, h2, h3, h4, h5⟩ := h.map
    refine ⟨h1, ?_, ?_, h4, h5⟩
    · rw [h2, List.map_map]; rfl
    · rw [List.map_map]; exact h3
  · rw [lkF_map (g := crashFil K) (h := crashL K) (fun f => ⟨rfl, crashFil_cs K f⟩), h.same]
    exact (lk_map (crashL K) A.files s).symm
theorem crash_splice {c : Cel} (h : c.Fine) {n : Nat} (hn : n ≤ 128) : splice c.vals 128 (b8s (c.written.take n)) = ({ c with durable := c.written.take n ++ c.durable.drop n } : Cel).vals := by
  have e : c.vals = b8s c.read ++ (b8s (c.durable.take n) ++ (b8s (c.durable.drop n) ++ (b8s c.synced ++ (b8s c.written ++ [.bool c.waits])))) := by
    unfold Cel.vals
    rw [← List.append_assoc (b8s (c.durable.take n))]
    have : b8s (c.durable.take n) ++ b8s (c.durable.drop n) = b8s c.durable := by
      unfold b8s
      rw [← List.map_append, List.take_append_drop]
    rw [this]
  rw [e, splice_mid _ _ _ _ (off := 128) (by rw [b8s_length, h.1]) (by simp [b8s_length, h.2.1, h.2.2.2])]
  simp [Cel.vals, b8s]
end Go.Proofs.Ytgdcdcacccaanaa
