/- Slices over an array of their own: what they hold, and what becomes of them by append. -/
import Derived.Test.YtgdcdcacccaanaaSep
import Derived.Laws.AppendOwn
namespace Go.Proofs.Ytgdcdcacccaanaa
open Go.RowKit HP
set_option linter.unusedSimpArgs false
set_option linter.unusedVariables false

/-- A slice of n elements, 'size' cells each, of type e, in a block that belongs to nobody else; cs: its cells. -/
def HP.row (e : TypeId) (size : Nat) (v : Value) (n : Nat) (cs : List Value) : HP := fun h =>
  cs.length = n * size ∧
  ((∃ A, v = .slice A 0 0 ∧ n = 0 ∧ HP.emp h) ∨
   ∃ g off cap cur, v = .slice (some ⟨g, off * size, none⟩) n cap ∧ n ≤ cap ∧ cap ≤ maxLen ∧ (off + cap) * size ≤ cur.size ∧ (cur.toList.drop (off * size)).take (n * size) = cs ∧ HP.pt g (.cells cur e) h)

/-- What a slice's cells hold, now. -/
def Cells (w : World) (A : Option Addr) (cs : List Value) : Prop := ∀ j u, cs[j]? = some u → ∃ a, A = some a ∧ w.cell? (a.add j) = some u

theorem addr_of_cell {w : World} {a : Addr} {v : Value} (h : w.cell? a = some v) : ∃ g o, a = ⟨g, o, none⟩ := by
  obtain ⟨g, o, s⟩ := a
  cases s with
  | none => exact ⟨g, o, rfl⟩
  | some x =>
    simp only [World.cell?] at h
    split at h <;> simp at h
theorem Cells.nil (w : World) (A : Option Addr) : Cells w A [] := fun j u h => by simp at h
theorem Cells.at_ {w : World} {A : Option Addr} {cs : List Value} (h : Cells w A cs) (j : Nat) (hj : j < cs.length) : ∃ a, A = some a ∧ w.cell? (a.add j) = some (cs[j]) :=
  h j _ (List.getElem?_eq_getElem hj)
theorem Cells.some_ {w : World} {a : Addr} {cs : List Value} (h : Cells w (some a) cs) (j : Nat) (u : Value) (hj : cs[j]? = some u) : w.cell? (a.add j) = some u := by
  obtain ⟨b, hb, hc⟩ := h j u hj
  cases hb; exact hc
theorem Cells.carry {w w' : World} {A : Option Addr} {cs : List Value} (h : Cells w A cs) (hb : ∀ k, k < w.heap.size → w'.heap[k]? = w.heap[k]?) : Cells w' A cs := fun j u hj => by
  obtain ⟨a, ha, hc⟩ := h j u hj
  exact ⟨a, ha, by rw [World.cell?_of_block (w := w) (hb _ (World.block_lt_of_cell? w _ hc))]; exact hc⟩
theorem Cells.alloc {w : World} {A : Option Addr} {cs : List Value} (h : Cells w A cs) (o : Obj) : Cells (w.alloc o) A cs := h.carry fun k hk => heap_alloc_old w o hk
theorem Cells.take {w : World} {A : Option Addr} {cs : List Value} (h : Cells w A cs) (n : Nat) : Cells w A (cs.take n) := fun j u hj => by
  rw [List.getElem?_take] at hj
  split at hj
  · exact h j u hj
  · cases hj
theorem Cells.add_add (a : Addr) (n j : Nat) : (a.add n).add j = a.add (n + j) := by
  unfold Addr.add
  by_cases h0 : n = 0 <;> by_cases h1 : j = 0 <;> simp [h0, h1, Nat.add_assoc]
theorem Cells.drop {w : World} {a : Addr} {cs : List Value} (h : Cells w (some a) cs) (n : Nat) : Cells w (some (a.add n)) (cs.drop n) := fun j u hj => by
  rw [List.getElem?_drop] at hj
  refine ⟨_, rfl, ?_⟩
  have := h.some_ _ _ hj
  rw [Cells.add_add]; exact this

section
variable {E : Env} {w : World} {q : HP} {e : TypeId} {size n : Nat} {v : Value} {cs : List Value}

theorem Sat.row_nil (h : Sat E w q) (e : TypeId) (size : Nat) (A : Option Addr) : Sat E w (row e size (.slice A 0 0) 0 [] * q) :=
  (h.emp_intro).of_mul_mono fun _ hk => ⟨by simp, .inl ⟨A, rfl, rfl, hk⟩⟩

/-- The two shapes of a row. -/
theorem Sat.row_cases (h : Sat E w (row e size v n cs * q)) : cs.length = n * size ∧
    ((∃ A, v = .slice A 0 0 ∧ n = 0 ∧ Sat E w q) ∨
     ∃ g off cap cur, v = .slice (some ⟨g, off * size, none⟩) n cap ∧ n ≤ cap ∧ cap ≤ maxLen ∧ (off + cap) * size ≤ cur.size ∧ (cur.toList.drop (off * size)).take (n * size) = cs ∧ Sat E w (pt g (.cells cur e) * q)) := by
  obtain ⟨he, k, hk, h1, h2, hd, hu, ⟨hl, hp⟩, hq⟩ := h
  refine ⟨hl, ?_⟩
  rcases hp with ⟨A, hv, hn, hp⟩ | ⟨g, off, cap, cur, hv, hnc, hcm, hs, ht, hp⟩
  · exact .inl ⟨A, hv, hn, Sat.right (p := emp) ⟨he, k, hk, h1, h2, hd, hu, hp, hq⟩⟩
  · exact .inr ⟨g, off, cap, cur, hv, hnc, hcm, hs, ht, he, k, hk, h1, h2, hd, hu, hp, hq⟩

theorem Sat.row_mk {g off cap : Nat} {cur : Array Value} (h : Sat E w (pt g (.cells cur e) * q)) (hnc : n ≤ cap) (hcm : cap ≤ maxLen) (hs : (off + cap) * size ≤ cur.size)
    (ht : (cur.toList.drop (off * size)).take (n * size) = cs) : Sat E w (row e size (.slice (some ⟨g, off * size, none⟩) n cap) n cs * q) :=
  h.of_mul_mono fun _ hk => ⟨by
    rw [← ht, List.length_take, List.length_drop, Array.length_toList]
    have h1 : (off + n) * size ≤ (off + cap) * size := Nat.mul_le_mul_right _ (by omega)
    simp only [Nat.add_mul] at h1 hs
    omega, .inr ⟨g, off, cap, cur, rfl, hnc, hcm, hs, ht, hk⟩⟩

theorem Sat.row_slice (h : Sat E w (row e size v n cs * q)) : ∃ A c, v = .slice A n c ∧ n ≤ c ∧ c ≤ maxLen := by
  rcases h.row_cases.2 with ⟨A, hv, hn, _⟩ | ⟨g, off, cap, cur, hv, hnc, hcm, _⟩
  · subst hn; exact ⟨A, 0, hv, Nat.le_refl _, by simp [maxLen]⟩
  · exact ⟨_, cap, hv, hnc, hcm⟩

theorem Sat.row_cells {A : Option Addr} {c : Nat} (h : Sat E w (row e size (.slice A n c) n cs * q)) : Cells w A cs := by
  intro j u hj
  rcases h.row_cases.2 with ⟨A', hv, hn, _⟩ | ⟨g, off, cap, cur, hv, hnc, hcm, hs, ht, hp⟩
  · have := h.row_cases.1
    subst hn
    have hnil : cs = [] := List.eq_nil_of_length_eq_zero (by omega)
    subst hnil
    simp at hj
  · cases hv
    refine ⟨_, rfl, ?_⟩
    rw [Addr.add_lit, hp.cell]
    rw [← ht, List.getElem?_take] at hj
    split at hj
    · rw [List.getElem?_drop] at hj
      simpa using hj
    · cases hj

/-- A cell of a row. -/
theorem Sat.row_cell {g o c : Nat} (h : Sat E w (row e size (.slice (some ⟨g, o, none⟩) n c) n cs * q)) (j : Nat) (u : Value) (hj : cs[j]? = some u) : w.cell? ⟨g, o + j, none⟩ = some u := by
  obtain ⟨a, ha, hc⟩ := h.row_cells j u hj
  cases ha
  rw [Addr.add_lit] at hc
  exact hc
theorem Sat.row_thaw {g o c : Nat} (h : Sat E w (row e size (.slice (some ⟨g, o, none⟩) n c) n cs * q)) (j : Nat) (hj : j < cs.length) : w.frozen? ⟨g, o + j, none⟩ = false := by
  rcases h.row_cases.2 with ⟨A', hv, hn, _⟩ | ⟨g', off, cap, cur, hv, hnc, hcm, hs, ht, hp⟩
  · have := h.row_cases.1
    subst hn
    omega
  · cases hv
    exact hp.thaw _
theorem Sat.row_set {g o c : Nat} (h : Sat E w (row e size (.slice (some ⟨g, o, none⟩) n c) n cs * q)) (j : Nat) (hj : j < cs.length) (u : Value) :
    Sat E (w.setCell ⟨g, o + j, none⟩ u) (row e size (.slice (some ⟨g, o, none⟩) n c) n (cs.set j u) * q) := by
  have hl := h.row_cases.1
  rcases h.row_cases.2 with ⟨A', hv, hn, _⟩ | ⟨g', off, cap, cur, hv, hnc, hcm, hs, ht, hp⟩
  · subst hn
    omega
  · cases hv
    have h1 := hp.set (i := off * size + j) u
    have hmul : off * size + n * size ≤ off * size + c * size := Nat.add_le_add_left (Nat.mul_le_mul_right _ hnc) _
    refine h1.row_mk hnc hcm ?_ ?_
    · simpa using hs
    · simp only [Array.toList_setIfInBounds]
      rw [← ht]
      apply List.ext_getElem
      · simp
      · intro i h2 h3
        simp only [List.length_take, List.length_drop, List.length_set, Array.length_toList] at h2
        simp only [List.getElem_take, List.getElem_drop, List.getElem_set]
        by_cases hij : j = i
        · subst hij; simp
        · have : ¬ (off * size + j = off * size + i) := by omega
          simp [hij]

theorem addr_add (g o k : Nat) : (⟨g, o, none⟩ : Addr).add k = ⟨g, o + k, none⟩ := Addr.add_lit g o k

theorem splice_take (cur news : List Value) (a m : Nat) (h : a + m + news.length ≤ cur.length) :
    (((cur.take (a + m)) ++ news ++ cur.drop (a + m + news.length)).drop a).take (m + news.length) = (cur.drop a).take m ++ news := by
  rw [List.append_assoc, List.drop_append_of_le_length (by simp; omega), List.drop_take, List.take_append]
  have e : ((cur.drop a).take (a + m - a)).length = m := by simp; omega
  rw [e, show m + news.length - m = news.length by omega, List.take_append_of_le_length (l₁ := news) (Nat.le_refl _), List.take_length, List.take_of_length_le (by rw [e]; omega)]
  rw [show a + m - a = m by omega]

/-- 'append(v, x...)' at a row of one's own: the row grows; all else is as it was. -/
theorem run_append_row {P : Program} {t ty : TypeId} {i : TypeInfo} {z : Value} {bytes : Nat} (ht : P.underlying t = some (.slice e)) (hi : P.info? e = some i) (hz : i.zero = some z)
    (hsize : i.size = size) (hby : i.bytes = bytes) (hzs : z.cells.size = size)
    (h : Sat E w (row e size v n cs * q)) (A : Option Addr) (m c : Nat) (news : List Value) (hl : news.length = m * size) (hnews : Cells w A news) (h1 : ∀ u ∈ news, u.oneCell' = true)
    (h63 : n + m ≤ maxLen) (hbytes : (n + m) * bytes ≤ 140737488355328) (hA : m ≠ 0 → 0 < size) :
    ∃ v' w', (Builtin.append_ #[t, t] ty #[v, .slice A m c]).run P w = .ok v' w' ∧ Sat E w' (row e size v' (n + m) (cs ++ news) * q) := by
  subst hsize
  subst hby
  have hsmall : n + m ≤ 9223372036854775807 := by simp only [maxLen] at h63; omega
  have hcl := h.row_cases.1
  have hlen : (cs ++ news).length = (n + m) * i.size := by rw [List.length_append, hcl, hl, Nat.add_mul]
  by_cases hm : m = 0
  · subst hm
    have hn : news = [] := List.eq_nil_of_length_eq_zero (by simpa using hl)
    subst hn
    obtain ⟨B, cc, hv, hnc, _⟩ := h.row_slice
    subst hv
    refine ⟨.slice B n cc, w, ?_, by simpa using h⟩
    cases A <;> cases B <;> simp [Builtin.append_, run_underlying ht, sizeOf, typeInfo, hi, Builtin.lenOf, Builtin.firstCells, loadCells, loadCellsFrom, hnc, storeCells]
  · have hsz := hA hm
    have hAs : ∃ a, A = some a := by
      have h0 : 0 < news.length := by rw [hl]; exact Nat.mul_pos (by omega) hsz
      obtain ⟨a, ha, _⟩ := hnews.at_ 0 h0
      exact ⟨a, ha⟩
    obtain ⟨a, rfl⟩ := hAs
    have hnews' : ∀ j u, news[j]? = some u → w.cell? (a.add j) = some u := fun j u hj => hnews.some_ j u hj
    have grown : ∀ (old : Nat), old < n + m → Sat E w q →
        Sat E (w.drew.alloc (.cells (cs.toArray ++ news.toArray ++ Builtin.zeroCells z.cells (grownCap w (n + m) old e - (n + m))) e)) (row e i.size (.slice (some ⟨w.heap.size, 0, none⟩) (n + m) (grownCap w (n + m) old e)) (n + m) (cs ++ news) * q) := by
      intro old ho hq
      have hge := grownCap_ge w (n + m) old e
      have hcm : grownCap w (n + m) old e ≤ maxLen := grownCap_le_maxLen w (n + m) old e h63
      have hs := Sat.row_mk (n := n + m) (cap := grownCap w (n + m) old e) (off := 0) (size := i.size) (cs := cs ++ news) (hq.drew.alloc (.cells (cs.toArray ++ news.toArray ++ Builtin.zeroCells z.cells (grownCap w (n + m) old e - (n + m))) e)) hge hcm ?_ ?_
      · simpa using hs
      · simp only [Array.size_append, List.size_toArray, size_zeroCells, hzs, hcl, hl, ← Nat.add_mul]
        apply Nat.mul_le_mul_right
        omega
      · simp only [Array.toList_append, Nat.zero_mul, List.drop_zero, ← hlen]
        exact List.take_left
    rcases h.row_cases.2 with ⟨B, hv, hn, hq⟩ | ⟨g, off, cap, cur, hv, hnc, hcm, hs, htk, hp⟩
    · subst hv
      subst hn
      have hx : cs = [] := List.eq_nil_of_length_eq_zero (by simpa using hcl)
      subst hx
      have hgr := grown 0 (by omega) hq
      cases B with
      | none =>
        have hr := run_append_nil (P := P) w t ty e i z ht hi hz a m c news hl hnews' (by omega) (by omega) (by have hb := hbytes; simp only [Nat.zero_add] at hb; omega)
        simp only [Nat.zero_add, List.nil_append, Array.empty_append] at hgr ⊢
        exact ⟨_, _, hr, hgr⟩
      | some b =>
        have hr := run_append_grow (P := P) w t ty e i z ht hi hz b 0 0 [] (by simp) (fun j v hj => by simp at hj) a m c news hl hnews' (by omega) (by omega) (growslice_fits (by omega) (by simpa using hbytes))
        simp only [Nat.zero_add, List.nil_append, Array.empty_append] at hgr hr ⊢
        exact ⟨_, _, hr, hgr⟩
    · subst hv
      have hcells : ∀ j u, cs[j]? = some u → w.cell? ((⟨g, off * i.size, none⟩ : Addr).add j) = some u := h.row_cells.some_
      by_cases hroom : n + m ≤ cap
      · have hfit : off * i.size + n * i.size + news.length ≤ cur.size := by
          rw [hl, ← Nat.add_mul, ← Nat.add_mul]; exact Nat.le_trans (Nat.mul_le_mul_right _ (by omega)) hs
        have hf := run_firstCells_some (P := P) w i.size m a m c news hl hnews'
        have hst := run_storeCells_at P g (off * i.size + n * i.size) e news 0 cur w hp.get (by simpa using hfit) h1
        simp only [Nat.add_zero] at hst
        refine ⟨.slice (some ⟨g, off * i.size, none⟩) (n + m) cap, w.setRow g (cur.toList.take (off * i.size + n * i.size) ++ news ++ cur.toList.drop (off * i.size + n * i.size + news.length)).toArray, ?_, ?_⟩
        · simp [Builtin.append_, run_underlying ht, sizeOf, typeInfo, hi, Builtin.lenOf, hroom, hf, Addr.add_lit, hst]
        · have ht' := hp.turn (w' := w.setRow g (cur.toList.take (off * i.size + n * i.size) ++ news ++ cur.toList.drop (off * i.size + n * i.size + news.length)).toArray) (o' := .cells (cur.toList.take (off * i.size + n * i.size) ++ news ++ cur.toList.drop (off * i.size + n * i.size + news.length)).toArray e) ⟨rfl, rfl, rfl, by simp⟩
            (setRow_heap w g cur _ e _ hp.get) (fun k hk _ => setRow_other w g k _ hk)
          refine ht'.row_mk hroom hcm ?_ ?_
          · simp only [List.size_toArray, List.length_append, List.length_take, List.length_drop, Array.length_toList]
            omega
          · rw [← htk, Nat.add_mul, ← hl]
            exact splice_take cur.toList news (off * i.size) (n * i.size) (by simpa using hfit)
      · have hr := run_append_grow (P := P) w t ty e i z ht hi hz ⟨g, off * i.size, none⟩ n cap cs hcl hcells a m c news hl hnews' (by omega) (by omega) (growslice_fits (by omega) hbytes)
        exact ⟨_, _, hr, grown cap (by omega) hp.right⟩

/-- What a slice's type says: its elements' type, their zero, cells and bytes. -/
structure SlTy (P : Program) (t e : TypeId) (z : Value) (size bytes : Nat) : Prop where
  under : P.underlying t = some (.slice e)
  info : (P.info? e).map (fun i => (i.zero, i.size, i.bytes)) = some (some z, size, bytes)
  cells : z.cells.size = size
  pos : 0 < size

theorem wpList_append_row {P : Program} {ops : Array Oper} {rest : List Oper} {o : Oper} {a : Act} {Q : Exit → Act → World → Prop} {s x : Operand} {t : TypeId} {z : Value} {bytes : Nat}
    (T : SlTy P t e z size bytes) (hgd : o.guard = none)
    (ho : o.op = .call { callee := .builtin .append, args := #[s, x], argTypes := #[t, t] })
    {A : Option Addr} {m c : Nat} {news : List Value} (hs : a.eval s = v) (hx : a.eval x = .slice A m c)
    (h : Sat E w (row e size v n cs * q)) (hnews : Cells w A news) (hl : news.length = m * size) (h1 : news.all Value.oneCell' = true)
    (h63 : n + m ≤ maxLen) (hbytes : (n + m) * bytes ≤ 140737488355328)
    (hk : ∀ v' w', Sat E w' (row e size v' (n + m) (cs ++ news) * q) → wpList P ops Q rest (a.put o.dst v') w') : wpList P ops Q (o :: rest) a w := by
  refine wpList_plain hgd fun K hK => ?_
  obtain ⟨i, hi, hz, hsize, hby⟩ := info_parts T.info
  obtain ⟨v', w', hr, h2⟩ := run_append_row (P := P) (ty := o.type) T.under hi hz hsize hby T.cells h A m c news hl hnews (List.all_eq_true.1 h1) h63 hbytes (fun _ => T.pos)
  unfold Oper.wp execOp
  simp only [ho, resolve, invoke, builtin, Sem.run_bind, Sem.run_pure, Result.andThen_ok, List.map_toArray, List.map_cons, List.map_nil, hs, hx, hr]
  exact hK _ _ (hk v' w' h2)

/-- Where a slice's cells lie: a place of the plain kind. -/
theorem slice_addr {w : World} {A : Option Addr} {cs : List Value} (h : Cells w A cs) {a : Addr} (ha : A = some a) {k : Nat} (hk : k < cs.length) : ∃ g o, a = ⟨g, o, none⟩ := by
  subst ha
  obtain ⟨b, hb, hc⟩ := h.at_ 0 (by omega)
  cases hb
  have h0 : a.add 0 = a := by simp [Addr.add]
  rw [h0] at hc
  exact addr_of_cell hc
theorem Cells.fresh (w : World) (l : List Value) (t : TypeId) (fr : Nat × Nat) : Cells (w.alloc (.cells l.toArray t fr)) (some ⟨w.heap.size, 0, none⟩) l := fun j u hj => by
  refine ⟨_, rfl, ?_⟩
  rw [addr_add, Nat.zero_add, cell_of_row _ w.heap.size j l.toArray t fr (heap_alloc_new w _)]
  simpa using hj
theorem Sat.drop2 {p r : HP} (h : Sat E w (p * (r * q))) : Sat E w (p * q) := (h.perm (left_comm p r q)).right

/-- 'append(v, x, ..)': what is appended has just been laid into a block of its own. -/
theorem wpList_append_new {P : Program} {ops : Array Oper} {rest : List Oper} {o : Oper} {a : Act} {Q : Exit → Act → World → Prop} {s x : Operand} {t : TypeId} {z : Value} {bytes : Nat}
    (T : SlTy P t e z size bytes) (hgd : o.guard = none)
    (ho : o.op = .call { callee := .builtin .append, args := #[s, x], argTypes := #[t, t] })
    {m c : Nat} {news : List Value} {tt : TypeId} {fr : Nat × Nat} (hs : a.eval s = v) (hx : a.eval x = .slice (some ⟨w.heap.size, 0, none⟩) m c)
    (h : Sat E w (row e size v n cs * q)) (hl : news.length = m * size) (h1 : news.all Value.oneCell' = true)
    (h63 : n + m ≤ maxLen) (hbytes : (n + m) * bytes ≤ 140737488355328)
    (hk : ∀ v' w', Sat E w' (row e size v' (n + m) (cs ++ news) * q) → wpList P ops Q rest (a.put o.dst v') w') : wpList P ops Q (o :: rest) a (w.alloc (.cells news.toArray tt fr)) :=
  wpList_append_row T hgd ho hs hx ((h.alloc _).perm (left_comm _ _ _)) (Cells.fresh w news tt fr) hl h1 h63 hbytes (fun v' w' hw => hk v' w' hw.drop2)
end
theorem ret_bool {a b : Bool} (h : a = b) : Ending.returned (.bool a) = .returned (.bool b) := by rw [h]
theorem ret_int {k : IntKind} {a b : Int} (h : a = b) : Ending.returned (.int k a) = .returned (.int k b) := by rw [h]
/-- A fact set aside: no rewriting by it. -/
structure Aside (p : Prop) : Prop where mk :: (out : p)
end Go.Proofs.Ytgdcdcacccaanaa
