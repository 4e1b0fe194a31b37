/- Maps whose keys are texts: a store, a delete; a disk's files behind them. -/
import Derived.Test.YtgdcdcacccaanaaImg
import Derived.Maps.OwnOps
namespace Go.Proofs.Ytgdcdcacccaanaa
open Go.RowKit HP
set_option linter.unusedSimpArgs false
set_option linter.unusedVariables false

theorem Sat.setBlk {E : Env} {p : HP} {w : World} {b : Nat} {o : Obj} (h : Sat E w (HP.pt b o * p)) (o' : Obj) : Sat E (ChangeMaps.setBlock w b o') (HP.pt b o' * p) := by
  have hlt := h.lt
  refine h.turn ⟨rfl, rfl, rfl, by simp [ChangeMaps.setBlock]⟩ (by simp [ChangeMaps.setBlock, hlt]) fun k hk _ => ?_
  simp only [ChangeMaps.setBlock]
  rw [Array.getElem?_setIfInBounds_ne (by omega)]

section
variable {P : Program} {t k e : TypeId} {w : World} {b : Nat} {es : Array MapEntry} {clock : Nat}
/-- The entries behind 'm[s] = v', and the clock. -/
def putE (es : Array MapEntry) (clock : Nat) (s : ByteArray) (v : Value) : Array MapEntry × Nat :=
  match es.toList.findIdx? (fun x => match x.key with | .string t => decide (t = s) | _ => false) with
  | some j => (es.modify j fun e => { e with key := .string s, val := v }, clock)
  | none => (es.push ⟨.string s, v, clock⟩, clock + 1)
theorem update_str (hk : P.underlying k = some .string) (ht : P.underlying t = some (.map k e)) (hb : w.heap[b]? = some (.map es clock)) (hes : StrKeys es) (s : ByteArray) (hs : s.size ≤ maxLen) (v : Value) :
    ((∀ x ∈ es.toList, x.key ≠ .string s) ∧ (Instr.mapUpdate t (.map (some b)) (.string s) v).run P w = .ok () (ChangeMaps.setBlock w b (.map (es.push ⟨.string s, v, clock⟩) (clock + 1)))) ∨
    ∃ (j : Nat) (x : MapEntry), es.toList[j]? = some x ∧ x.key = .string s ∧ (Instr.mapUpdate t (.map (some b)) (.string s) v).run P w = .ok () (ChangeMaps.setBlock w b (.map (es.modify j fun e => { e with key := .string s, val := v }) clock)) := by
  have K := WideMaps.string_law (P := P) (k := k) hk
  have hkey := WideMaps.keyOf_string_mk (P := P) (k := k) hk hs
  rcases K.find w hkey es.toList (fun x hx => by
    obtain ⟨t, ht, hl⟩ := hes x hx
    rw [ht]
    exact ⟨_, WideMaps.keyOf_string_mk hk hl⟩) with ⟨h1, h2⟩ | ⟨j, x, h1, h2, h3⟩
  · exact .inl ⟨h2, by simp [Instr.mapUpdate, run_underlying ht, MapKept.run_getObj_map hb, K.check w _ hkey, h1, MapKept.run_setObj_map _ hb, Result.andThen, ChangeMaps.setBlock]⟩
  · have hj : es[j]? = some x := by simpa using h2
    exact .inr ⟨j, x, h2, h3, by simp [Instr.mapUpdate, run_underlying ht, MapKept.run_getObj_map hb, K.check w _ hkey, h1, hj, h3, K.stays w hkey, MapKept.run_setObj_map _ hb, Result.andThen, ChangeMaps.setBlock]⟩
theorem delete_str {ty : TypeId} (hk : P.underlying k = some .string) (ht : P.underlying t = some (.map k e)) (hb : w.heap[b]? = some (.map es clock)) (hes : StrKeys es) (s : ByteArray) (hs : s.size ≤ maxLen) :
    ((∀ x ∈ es.toList, x.key ≠ .string s) ∧ (Builtin.delete_ #[t, k] ty #[.map (some b), .string s]).run P w = .ok (.tuple #[]) (ChangeMaps.setBlock w b (.map es clock))) ∨
    ∃ (j : Nat) (x : MapEntry), es.toList[j]? = some x ∧ x.key = .string s ∧ (Builtin.delete_ #[t, k] ty #[.map (some b), .string s]).run P w = .ok (.tuple #[]) (ChangeMaps.setBlock w b (.map (es.eraseIdxIfInBounds j) clock)) := by
  have K := WideMaps.string_law (P := P) (k := k) hk
  have hkey := WideMaps.keyOf_string_mk (P := P) (k := k) hk hs
  rcases K.find w hkey es.toList (fun x hx => by
    obtain ⟨t, ht, hl⟩ := hes x hx
    rw [ht]
    exact ⟨_, WideMaps.keyOf_string_mk hk hl⟩) with ⟨h1, h2⟩ | ⟨j, x, h1, h2, h3⟩
  · exact .inl ⟨h2, by simp [Builtin.delete_, run_underlying ht, MapKept.run_getObj_map hb, K.check w _ hkey, h1, MapKept.run_setObj_map _ hb, Result.andThen, ChangeMaps.setBlock]⟩
  · exact .inr ⟨j, x, h2, h3, by simp [Builtin.delete_, run_underlying ht, MapKept.run_getObj_map hb, K.check w _ hkey, h1, MapKept.run_setObj_map _ hb, Result.andThen, ChangeMaps.setBlock]⟩
end
/-- 'm[s] = v' at the operation. -/
theorem wpList_mapUpdate_run {P : Program} {ops : Array Oper} {rest : List Oper} {o : Oper} {a : Act} {w w' : World} {Q : Exit → Act → World → Prop} (hg : o.guard = none) {m x v : Operand} {t : TypeId} (hop : o.op = Op.mapUpdate t m x v)
    {M K V : Value} (hm : a.eval m = M) (hx : a.eval x = K) (hv : a.eval v = V) (hr : (Instr.mapUpdate t M K V).run P w = .ok () w')
    (h : wpList P ops Q rest (a.put o.dst undef) w') : wpList P ops Q (o :: rest) a w := by
  refine wpList_plain hg fun K' hK' => ?_
  unfold Oper.wp
  simp [execOp, hop, hm, hx, hv, hr, Result.andThen]
  exact hK' _ _ h
theorem wpList_delete_run {P : Program} {ops : Array Oper} {rest : List Oper} {o : Oper} {a : Act} {w w' : World} {Q : Exit → Act → World → Prop} (hg : o.guard = none) {m x : Operand} {t k : TypeId} (hop : o.op = Op.call { callee := Callee.builtin Builtin.delete, args := #[m, x], argTypes := #[t, k] })
    {M K : Value} (hm : a.eval m = M) (hx : a.eval x = K) (hr : (Builtin.delete_ #[t, k] o.type #[M, K]).run P w = .ok (.tuple #[]) w')
    (h : wpList P ops Q rest (a.put o.dst (.tuple #[])) w') : wpList P ops Q (o :: rest) a w := by
  refine wpList_plain hg fun K' hK' => ?_
  unfold Oper.wp
  simp [execOp, hop, resolve, invoke, builtin, hm, hx, hr, Result.andThen]
  exact hK' _ _ h

theorem map_erase {α β : Type} (f : α → β) (l : List α) (j : Nat) : (l.map f).eraseIdx j = (l.eraseIdx j).map f := by
  induction l generalizing j with
  | nil => rfl
  | cons x l ih => cases j <;> simp [ih]
/-- The files with one laid anew, or added. -/
theorem MapOf.set {es : Array MapEntry} {clock : Nat} {fs : List Fil} (h : MapOf es clock fs) {j : Nat} {f f' : Fil} (hj : fs[j]? = some f) (hn : f'.name = f.name) :
    MapOf (es.modify j fun e => { e with key := .string f.name, val := f'.val }) clock (fs.set j f') := by
  obtain ⟨h1, h2, h3, h4, h5⟩ := h
  have hjl : j < fs.length := (List.getElem?_eq_some_iff.1 hj).1
  have hel : es.toList.length = fs.length := by simpa using congrArg List.length h2
  have hje : j < es.toList.length := by omega
  have hej : es.toList[j]? = some es.toList[j] := List.getElem?_eq_getElem hje
  have hkv : ((es.toList[j]).key, (es.toList[j]).val) = (Value.string f.name, f.val) := by
    have := congrArg (fun l => l[j]?) h2
    simp only [List.getElem?_map, hj, hej, Option.map_some, Option.some.injEq] at this
    exact this
  have hmod : (es.modify j fun e => { e with key := Value.string f.name, val := f'.val }).toList = es.toList.set j ⟨.string f.name, f'.val, (es.toList[j]).born⟩ := by
    rw [Array.toList_modify]
    apply List.ext_getElem?
    intro i
    simp only [List.getElem?_modify, List.getElem?_set]
    by_cases hij : j = i
    · subst hij; simp [hej]; simpa using hje
    · simp [hij]
  have hmem : ∀ x ∈ es.toList.set j ⟨.string f.name, f'.val, (es.toList[j]).born⟩, x ∈ es.toList ∨ x = ⟨.string f.name, f'.val, (es.toList[j]).born⟩ := fun x hx => List.mem_or_eq_of_mem_set hx
  obtain ⟨s0, hs0, hl0⟩ := h1 _ (List.getElem_mem hje)
  have hs : s0 = f.name := by
    have := congrArg Prod.fst hkv
    simp only at this
    rw [hs0] at this
    injection this
  refine ⟨?_, ?_, ?_, ?_, ?_⟩
  · intro x hx
    rw [hmod] at hx
    rcases hmem x hx with hx | rfl
    · exact h1 x hx
    · exact ⟨f.name, rfl, hs ▸ hl0⟩
  · rw [hmod, List.map_set, List.map_set, h2, hn]
  · rw [List.map_set, hn]
    have : (fs.map (·.name)).set j f.name = fs.map (·.name) := by
      apply List.ext_getElem?
      intro i
      rw [List.getElem?_set]
      by_cases hij : j = i
      · subst hij; simp [hj]; simpa using hjl
      · simp [hij]
    rw [this]; exact h3
  · intro x hx
    rw [hmod] at hx
    rcases hmem x hx with hx | rfl
    · exact h4 x hx
    · show (es.toList[j]).born < clock
      exact h4 _ (List.getElem_mem hje)
  · rw [hmod, List.map_set]
    have : (es.toList.map (·.born)).set j (es.toList[j]).born = es.toList.map (·.born) := by
      apply List.ext_getElem?
      intro i
      rw [List.getElem?_set]
      by_cases hij : j = i
      · subst hij; simp [hej]; simpa using hje
      · simp [hij]
    rw [this]; exact h5
theorem MapOf.push {es : Array MapEntry} {clock : Nat} {fs : List Fil} (h : MapOf es clock fs) {f : Fil} (hn : ∀ x ∈ fs, x.name ≠ f.name) (hl : f.name.size ≤ maxLen) :
    MapOf (es.push ⟨.string f.name, f.val, clock⟩) (clock + 1) (fs ++ [f]) := by
  obtain ⟨h1, h2, h3, h4, h5⟩ := h
  refine ⟨?_, ?_, ?_, ?_, ?_⟩
  · intro x hx
    simp only [Array.toList_push, List.mem_append, List.mem_singleton] at hx
    rcases hx with hx | rfl
    · exact h1 x hx
    · exact ⟨f.name, rfl, hl⟩
  · simp [Array.toList_push, h2]
  · rw [List.map_append, List.nodup_append]
    refine ⟨h3, by simp, ?_⟩
    intro a ha b hb
    obtain ⟨x, hx, rfl⟩ := List.mem_map.1 ha
    simp only [List.map_cons, List.map_nil, List.mem_singleton] at hb
    subst hb
    exact hn x hx
  · intro x hx
    simp only [Array.toList_push, List.mem_append, List.mem_singleton] at hx
    rcases hx with hx | rfl
    · exact Nat.lt_succ_of_lt (h4 x hx)
    · exact Nat.lt_succ_self _
  · rw [Array.toList_push, List.map_append, List.nodup_append]
    refine ⟨h5, by simp, ?_⟩
    intro a ha b hb
    obtain ⟨x, hx, rfl⟩ := List.mem_map.1 ha
    simp only [List.map_cons, List.map_nil, List.mem_singleton] at hb
    subst hb
    exact Nat.ne_of_lt (h4 x hx)
theorem MapOf.erase {es : Array MapEntry} {clock : Nat} {fs : List Fil} (h : MapOf es clock fs) (j : Nat) (hj : j < fs.length) : MapOf (es.eraseIdxIfInBounds j) clock (fs.eraseIdx j) := by
  obtain ⟨h1, h2, h3, h4, h5⟩ := h
  have hel : es.toList.length = fs.length := by simpa using congrArg List.length h2
  have hjs : j < es.size := by rw [← Array.length_toList, hel]; exact hj
  have hsub : (es.eraseIdxIfInBounds j).toList = es.toList.eraseIdx j := by
    unfold Array.eraseIdxIfInBounds
    rw [dif_pos hjs]
    simp
  have hm : ∀ x ∈ es.toList.eraseIdx j, x ∈ es.toList := fun x hx => (List.eraseIdx_sublist _ _).subset hx
  refine ⟨?_, ?_, ?_, ?_, ?_⟩
  · intro x hx; rw [hsub] at hx; exact h1 x (hm x hx)
  · rw [hsub, ← map_erase, ← map_erase, h2]
  · rw [← map_erase]; exact h3.sublist (List.eraseIdx_sublist _ _)
  · intro x hx; rw [hsub] at hx; exact h4 x (hm x hx)
  · rw [hsub, ← map_erase]; exact h5.sublist (List.eraseIdx_sublist _ _)
end Go.Proofs.Ytgdcdcacccaanaa
