/- What lies beside: the rest of a world's memory, exactly; and what a range over a function asks of an invariant. -/
import Derived.Test.YtgdcdcacccaanaaRow
import Derived.RangeFuncNested
import Derived.OwnWalkIn
namespace Go.Proofs.Ytgdcdcacccaanaa
open Go.RowKit HP
set_option linter.unusedSimpArgs false
set_option linter.unusedVariables false

def HP.is (k : Nat → Option Obj) : HP := fun h => ∀ b, h b = k b
/-- All its blocks are rows of cells. -/
def HP.Celled (p : HP) : Prop := ∀ h, p h → ∀ b o, h b = some o → o.isCells = true
/-- Its blocks are rows of cells, or lie below B. -/
def HP.Solid (B : Nat) (p : HP) : Prop := ∀ h, p h → ∀ b o, h b = some o → o.isCells = true ∨ b < B

section
variable {E : Env} {w w' : World} {p q r : HP}
theorem HP.Celled.mul (hp : Celled p) (hq : Celled q) : Celled (p * q) := by
  rintro h ⟨h1, h2, hd, hu, a, b⟩ k o hk
  rw [hu k] at hk
  rcases Option.or_eq_some_iff.1 hk with e | ⟨_, e⟩
  · exact hp h1 a k o e
  · exact hq h2 b k o e
theorem HP.Celled.pt (b : Nat) (c : Array Value) (t : TypeId) (fr : Nat × Nat) : Celled (HP.pt b (.cells c t fr)) := by
  intro h hp k o hk
  rw [hp k] at hk
  split at hk
  · cases hk; rfl
  · cases hk
theorem HP.Celled.emp : Celled HP.emp := by
  intro h hp k o hk
  rw [hp k] at hk; cases hk
theorem HP.Celled.row (e : TypeId) (size : Nat) (v : Value) (n : Nat) (cs : List Value) : Celled (HP.row e size v n cs) := by
  rintro h ⟨_, ⟨_, _, _, he⟩ | ⟨g, off, cap, cur, _, _, _, _, _, hp⟩⟩ k o hk
  · exact Celled.emp h he k o hk
  · exact Celled.pt g cur e (0, 0) h hp k o hk
theorem HP.Celled.solid (h : Celled p) (B : Nat) : Solid B p := fun k hk b o hb => .inl (h k hk b o hb)
theorem HP.Solid.mul {B : Nat} (hp : Solid B p) (hq : Solid B q) : Solid B (p * q) := by
  rintro h ⟨h1, h2, hd, hu, a, b⟩ k o hk
  rw [hu k] at hk
  rcases Option.or_eq_some_iff.1 hk with e | ⟨_, e⟩
  · exact hp h1 a k o e
  · exact hq h2 b k o e
theorem HP.Solid.is {B : Nat} {k : Nat → Option Obj} (hk : ∀ b o, k b = some o → b < B) : Solid B (HP.is k) := fun h hh b o hb => .inr (hk b o (by rw [← hh b]; exact hb))

/-- The rest of the world's memory, exactly. -/
theorem Sat.exact (h : Sat E w (p * q)) (hc : Celled p) : ∃ k, (∀ b o, k b = some o → w.heap[b]? = some o) ∧ Sat E w (p * HP.is k) ∧
    (∀ w' p', Sat E w' (p' * HP.is k) → Sat E w' (p' * q)) ∧ (∀ b o, w.heap[b]? = some o → o.isCells = false → k b = some o) := by
  obtain ⟨he, m, hm, h1, h2, hd, hu, hp, hq⟩ := h
  refine ⟨fun b => if h1 b = none then w.heap[b]? else none, fun b o hb => ?_, ?_, ?_, fun b o hb ho => ?_⟩
  · dsimp only at hb
    split at hb
    · exact hb
    · cases hb
  · refine ⟨he, fun b => w.heap[b]?, fun _ _ h => h, h1, _, fun b => ?_, fun b => ?_, hp, fun _ => rfl⟩
    · cases e : h1 b with
      | none => exact .inl rfl
      | some o => right; simp
    · cases e : h1 b with
      | none => simp
      | some o => simpa using hm b o (by rw [hu b, e]; rfl)
  · rintro w' p' ⟨he', m', hm', k1, k2, hd', hu', hp', hk2⟩
    refine ⟨he', fun b => (k1 b).or (h2 b), fun b o hb => ?_, k1, h2, fun b => ?_, fun _ => rfl, hp', hq⟩
    · rcases Option.or_eq_some_iff.1 hb with e | ⟨e0, e⟩
      · exact hm' b o (by rw [hu' b, e]; rfl)
      · refine hm' b o ?_
        have e1 : h1 b = none := by
          rcases hd b with e2 | e2
          · exact e2
          · rw [e] at e2; cases e2
        have e3 : k2 b = some o := by
          rw [hk2 b]; simp only [e1, if_true]
          exact hm b o (by rw [hu b, e1, e]; rfl)
        rw [hu' b, e0, e3]; rfl
    · cases e : h2 b with
      | none => exact .inr rfl
      | some o =>
        left
        have e1 : h1 b = none := by
          rcases hd b with e2 | e2
          · exact e2
          · rw [e] at e2; cases e2
        have e3 : k2 b = some o := by
          rw [hk2 b]; simp only [e1, if_true]
          exact hm b o (by rw [hu b, e1, e]; rfl)
        rcases hd' b with e2 | e2
        · exact e2
        · rw [e3] at e2; cases e2
  · cases e : h1 b with
    | none => simp [e, hb]
    | some u =>
      have h3 := hm b u (by rw [hu b, e]; rfl)
      rw [hb] at h3; cases h3
      rw [hc h1 hp b o e] at ho; cases ho

/-- What is so abides the turn of a block that is no row of cells and lies from B on. -/
theorem Sat.own {B : Nat} (h : Sat E w p) (hs : Solid B p) {row : Option Nat} (hg : w.grownBy w' row) (hr : ∀ r, row = some r → B ≤ r ∧ ∃ o : Obj, w.heap[r]? = some o ∧ o.isCells = false) : Sat E w' p := by
  obtain ⟨he, k, hk, hp⟩ := h
  refine ⟨he.goes ⟨hg.os, hg.tape, hg.output, hg.size⟩, k, fun b o hb => ?_, hp⟩
  have h1 := hk b o hb
  rw [hg.block b (Array.getElem?_eq_some_iff.1 h1).1 (fun e => ?_)]
  · exact h1
  · obtain ⟨hB, u, hu, hn⟩ := hr b e.symm
    rw [h1] at hu; cases hu
    rcases hs k hp b o hb with e1 | e1
    · rw [hn] at e1; cases e1
    · omega

/-- All that is no row of cells is as it was. -/
theorem Sat.keeps {B : Nat} {k : Nat → Option Obj} (h : Sat E w' (r * HP.is k)) (hk : ∀ b o, w.heap[b]? = some o → o.isCells = false → k b = some o) (hs : w.heap.size ≤ w'.heap.size) : KeepsFrom B w w' := by
  refine ⟨hs, fun b o _ hb ho => ?_⟩
  obtain ⟨he, m, hm, h1, h2, hd, hu, hp, hq⟩ := h
  have e : h2 b = some o := by rw [hq b]; exact hk b o hb ho
  refine hm b o ?_
  rw [hu b]
  rcases hd b with e1 | e1
  · rw [e1, e]; rfl
  · rw [e1] at e; cases e
theorem Sat.is_get {k : Nat → Option Obj} {b : Nat} {o : Obj} (h : Sat E w (HP.is k)) (hk : k b = some o) : w.heap[b]? = some o := by
  obtain ⟨he, m, hm, hp⟩ := h
  exact hm b o (by rw [hp b]; exact hk)
theorem Sat.putObj {B D : Nat} {o : Obj} (h : Sat E w p) (hs : Solid B p) (hB : B ≤ D) (hD : w.heap[D]? = some o) (ho : o.isCells = false) (o' : Obj) : Sat E (w.putObj D o') p :=
  h.own hs (grownBy_putObj' w D o') (fun r e => by cases e; exact ⟨hB, o, hD, ho⟩)
theorem putObj_heap_ne (W : World) (r : Nat) (o : Obj) (k : Nat) (h : k ≠ r) : (W.putObj r o).heap[k]? = W.heap[k]? := World.putObj_heap_other h

variable {e : TypeId} {size n : Nat} {v : Value} {cs : List Value}
theorem wpListIn_append_row {F : Fence} {N : Nat} {P : Program} {ops : Array Oper} {rest : List Oper} {o : Oper} {a : Act} {Q : Exit → Act → World → Prop} {s x : Operand} {t : TypeId} {z : Value} {bytes : Nat}
    (T : SlTy P t e z size bytes) (hgd : o.guard = none)
    (ho : o.op = .call { callee := .builtin .append, args := #[s, x], argTypes := #[t, t] })
    {A : Option Addr} {m c : Nat} {news : List Value} (hs : a.eval s = v) (hx : a.eval x = .slice A m c)
    (h : Sat E w (row e size v n cs * q)) (hnews : Cells w A news) (hl : news.length = m * size) (h1 : news.all Value.oneCell' = true)
    (h63 : n + m ≤ maxLen) (hbytes : (n + m) * bytes ≤ 140737488355328)
    (hk : ∀ v' w', Sat E w' (row e size v' (n + m) (cs ++ news) * q) → wpListIn F N P ops Q rest (a.put o.dst v') w') : wpListIn F N P ops Q (o :: rest) a w := by
  refine wpListIn_plain hgd fun K hK => ?_
  obtain ⟨i, hi, hz, hsize, hby⟩ := info_parts T.info
  obtain ⟨v', w', hr, h2⟩ := run_append_row (P := P) (ty := o.type) T.under hi hz hsize hby T.cells h A m c news hl hnews (List.all_eq_true.1 h1) h63 hbytes (fun _ => T.pos)
  unfold Oper.wpIn
  refine ⟨?_, ?_⟩
  · simp [Oper.about, ho, resolve, Target.leads, Sem.run_pure]
  · rw [Oper.semAt_plain F _ _ (by rw [ho]; intro c hc'; cases hc')]
    simp [execOp, ho, resolve, invoke, builtin, hs, hx, hr, Result.andThen]
    exact hK _ _ (hk v' w' h2)
theorem wpListIn_append_new {F : Fence} {N : Nat} {P : Program} {ops : Array Oper} {rest : List Oper} {o : Oper} {a : Act} {Q : Exit → Act → World → Prop} {s x : Operand} {t : TypeId} {z : Value} {bytes : Nat}
    (T : SlTy P t e z size bytes) (hgd : o.guard = none)
    (ho : o.op = .call { callee := .builtin .append, args := #[s, x], argTypes := #[t, t] })
    {m c : Nat} {news : List Value} {tt : TypeId} {fr : Nat × Nat} (hs : a.eval s = v) (hx : a.eval x = .slice (some ⟨w.heap.size, 0, none⟩) m c)
    (h : Sat E w (row e size v n cs * q)) (hl : news.length = m * size) (h1 : news.all Value.oneCell' = true)
    (h63 : n + m ≤ maxLen) (hbytes : (n + m) * bytes ≤ 140737488355328)
    (hk : ∀ v' w', Sat E w' (row e size v' (n + m) (cs ++ news) * q) → wpListIn F N P ops Q rest (a.put o.dst v') w') : wpListIn F N P ops Q (o :: rest) a (w.alloc (.cells news.toArray tt fr)) :=
  wpListIn_append_row T hgd ho hs hx ((h.alloc _).perm (left_comm _ _ _)) (Cells.fresh w news tt fr) hl h1 h63 hbytes (fun v' w' hw => hk v' w' hw.drop2)
end
end Go.Proofs.Ytgdcdcacccaanaa
