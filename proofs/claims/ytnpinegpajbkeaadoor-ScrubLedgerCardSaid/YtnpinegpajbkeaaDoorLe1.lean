/- Texts of one claim, one behind the other: Sep, Row, Frame, DiskA, DiskN, MapS, DiskF, DiskV, Reg, DiskT, CloneB, Img, MapU, DiskR, DiskE, DiskG, DiskW, DiskH, DiskX, DiskY, DiskZ, DiskZ1, DiskZ2, DiskZ3, DiskWr, DiskS, DiskSy. -/
import Derived.WalkKit
import Derived.KernelRfl
import Derived.Deep.Draws
import Derived.Laws.AppendOwn
import Derived.RangeFuncNested
import Derived.OwnWalkIn
import Derived.Carry
import Derived.Laws.Cover3
import Derived.Test.YtnpinegpajbkeaaDoorProg
import Derived.Laws.IdiomStrings
import Derived.StringKeys
import Derived.WideKeyElems
import Derived.OrdersHeld
import Derived.RegionTactic
import Derived.OrdersIn
import Derived.Laws.BitsLemmas
import Derived.RangeFuncCalls
import Derived.TacticsIn
import Derived.Lib.SliceRun
import Derived.Laws.Rows
import Derived.Laws.CopyRow
import Derived.Maps.OwnOps
import Derived.Maps.RangeRun
set_option linter.unusedSimpArgs false
set_option linter.unusedVariables false
namespace Go.Proofs.YtnpinegpajbkeaaDoor
open Go.RowKit
structure Env where
  os : Os
  tape : Nat → Question → Nat
  output : Array (Nat × ByteArray)
  low : Nat
def envOf (w : World) : Env := ⟨w.os, w.tape, w.output, w.heap.size⟩
structure Env.Fits (E : Env) (w : World) : Prop where
  os : w.os = E.os
  tape : w.tape = E.tape
  output : w.output = E.output
  low : E.low ≤ w.heap.size
structure Goes (w w' : World) : Prop where
  os : w'.os = w.os
  tape : w'.tape = w.tape
  output : w'.output = w.output
  size : w.heap.size ≤ w'.heap.size
theorem Env.Fits.goes {E : Env} {w w' : World} (h : E.Fits w) (g : Goes w w') : E.Fits w' := ⟨g.os.trans h.os, g.tape.trans h.tape, g.output.trans h.output, Nat.le_trans h.low g.size⟩
def HP := (Nat → Option Obj) → Prop
namespace HP
def sep (p q : HP) : HP := fun h => ∃ h1 h2 : Nat → Option Obj, (∀ b, h1 b = none ∨ h2 b = none) ∧ (∀ b, h b = (h1 b).or (h2 b)) ∧ p h1 ∧ q h2
instance : Mul HP := ⟨sep⟩
def emp : HP := fun h => ∀ b, h b = none
def pt (b : Nat) (o : Obj) : HP := fun h => ∀ k, h k = if k = b then some o else none
def fact (φ : Prop) : HP := fun h => φ ∧ ∀ b, h b = none
def ex {α : Type} (p : α → HP) : HP := fun h => ∃ x, p x h
def all : List HP → HP
  | [] => emp
  | p :: l => p * all l
theorem mul_comm (p q : HP) : p * q = q * p := by
  have key : ∀ (p q : HP) h, (p * q) h → (q * p) h := by
    rintro p q h ⟨h1, h2, hd, hu, hp, hq⟩
    refine ⟨h2, h1, fun b => (hd b).symm, fun b => ?_, hq, hp⟩
    rw [hu b]
    rcases hd b with e | e <;> rw [e] <;> simp
  funext h
  exact propext ⟨key p q h, key q p h⟩
theorem mul_assoc (p q r : HP) : p * q * r = p * (q * r) := by
  funext h
  refine propext ⟨?_, ?_⟩
  · rintro ⟨h12, h3, hd, hu, ⟨h1, h2, hd', hu', hp, hq⟩, hr⟩
    refine ⟨h1, fun b => (h2 b).or (h3 b), fun b => ?_, fun b => ?_, hp, ⟨h2, h3, fun b => ?_, fun _ => rfl, hq, hr⟩⟩
    · have hb := hd b; rw [hu' b] at hb
      rcases hd' b with e | e <;> rcases hb with e' | e' <;> simp_all
    · rw [hu b, hu' b, Option.or_assoc]
    · have hb := hd b; rw [hu' b] at hb
      rcases hb with e' | e'
      · exact .inl (Option.or_eq_none_iff.1 e').2
      · exact .inr e'
  · rintro ⟨h1, h23, hd, hu, hp, ⟨h2, h3, hd', hu', hq, hr⟩⟩
    refine ⟨fun b => (h1 b).or (h2 b), h3, fun b => ?_, fun b => ?_, ⟨h1, h2, fun b => ?_, fun _ => rfl, hp, hq⟩, hr⟩
    · have hb := hd b; rw [hu' b] at hb
      rcases hd' b with e | e <;> rcases hb with e' | e' <;> simp_all
    · rw [hu b, hu' b, Option.or_assoc]
    · have hb := hd b; rw [hu' b] at hb
      rcases hb with e' | e'
      · exact .inl e'
      · exact .inr (Option.or_eq_none_iff.1 e').1
instance : Std.Associative (α := HP) (· * ·) := ⟨mul_assoc⟩
instance : Std.Commutative (α := HP) (· * ·) := ⟨mul_comm⟩
theorem emp_mul (p : HP) : emp * p = p := by
  funext h
  refine propext ⟨?_, fun hp => ⟨fun _ => none, h, fun _ => .inl rfl, fun _ => by simp, fun _ => rfl, hp⟩⟩
  rintro ⟨h1, h2, _, hu, he, hp⟩
  have : h = h2 := by funext b; rw [hu b, he b]; simp
  rw [this]; exact hp
theorem mul_emp (p : HP) : p * emp = p := by rw [mul_comm, emp_mul]
theorem left_comm (p q r : HP) : p * (q * r) = q * (p * r) := by rw [← mul_assoc, mul_comm p q, mul_assoc]
theorem all_append (l m : List HP) : all (l ++ m) = all l * all m := by
  induction l with
  | nil => simp [all, emp_mul]
  | cons p l ih => simp only [List.cons_append, all, ih, mul_assoc]
theorem all_cons (p : HP) (l : List HP) : all (p :: l) = p * all l := rfl
theorem all_nil : all [] = emp := rfl
end HP
open HP
structure Sat (E : Env) (w : World) (p : HP) : Prop where
  env : E.Fits w
  heap : ∃ h : Nat → Option Obj, (∀ b o, h b = some o → w.heap[b]? = some o) ∧ p h
namespace Sat
variable {E : Env} {w w' : World} {p q r : HP}
theorem mono (h : Sat E w p) (hpq : ∀ k, p k → q k) : Sat E w q := ⟨h.env, h.heap.imp fun _ hk => ⟨hk.1, hpq _ hk.2⟩⟩
theorem perm (h : Sat E w p) (e : p = q) : Sat E w q := e ▸ h
theorem left (h : Sat E w (p * q)) : Sat E w p := by
  obtain ⟨he, k, hk, h1, h2, hd, hu, hp, hq⟩ := h
  exact ⟨he, h1, fun b o hb => hk b o (by rw [hu b, hb]; rfl), hp⟩
theorem right (h : Sat E w (p * q)) : Sat E w q := left (h.perm (mul_comm p q))
theorem of_mul_mono {p' : HP} (h : Sat E w (p * q)) (hp : ∀ k, p k → p' k) : Sat E w (p' * q) :=
  h.mono fun _ ⟨h1, h2, hd, hu, a, b⟩ => ⟨h1, h2, hd, hu, hp _ a, b⟩
theorem s2 {a b : HP} (h : Sat E w (a * (b * q))) : Sat E w (b * (a * q)) := h.perm (left_comm a b q)
theorem s3 {a b c : HP} (h : Sat E w (a * (b * (c * q)))) : Sat E w (c * (a * (b * q))) := h.perm (by ac_rfl)
theorem ex_elim {α : Type} {f : α → HP} (h : Sat E w (HP.ex f * q)) : ∃ x, Sat E w (f x * q) := by
  obtain ⟨he, k, hk, h1, h2, hd, hu, ⟨x, hx⟩, hq⟩ := h
  exact ⟨x, he, k, hk, h1, h2, hd, hu, hx, hq⟩
theorem ex_intro {α : Type} {f : α → HP} (x : α) (h : Sat E w (f x * q)) : Sat E w (HP.ex f * q) := h.of_mul_mono fun _ hk => ⟨x, hk⟩
theorem fact_elim {φ : Prop} (h : Sat E w (HP.fact φ * q)) : φ ∧ Sat E w q := by
  refine ⟨?_, h.right⟩
  obtain ⟨he, k, hk, h1, h2, hd, hu, ⟨hx, _⟩, hq⟩ := h
  exact hx
theorem fact_intro {φ : Prop} (hφ : φ) (h : Sat E w q) : Sat E w (HP.fact φ * q) := by
  obtain ⟨he, k, hk, hq⟩ := h
  exact ⟨he, k, hk, fun _ => none, k, fun _ => .inl rfl, fun _ => by simp, ⟨hφ, fun _ => rfl⟩, hq⟩
theorem emp_intro (h : Sat E w q) : Sat E w (HP.emp * q) := by rw [emp_mul]; exact h
theorem nothing : Sat (envOf w) w HP.emp := ⟨⟨rfl, rfl, rfl, Nat.le_refl _⟩, fun _ => none, fun _ _ h => (by cases h), fun _ => rfl⟩
theorem get {b : Nat} {o : Obj} (h : Sat E w (pt b o * q)) : w.heap[b]? = some o := by
  obtain ⟨he, k, hk, h1, h2, hd, hu, hp, hq⟩ := h
  exact hk b o (by rw [hu b, hp b]; simp)
theorem lt {b : Nat} {o : Obj} (h : Sat E w (pt b o * q)) : b < w.heap.size := (Array.getElem?_eq_some_iff.1 h.get).1
theorem cell {b : Nat} {c : Array Value} {t : TypeId} {fr : Nat × Nat} (h : Sat E w (pt b (.cells c t fr) * q)) (i : Nat) : w.cell? ⟨b, i, none⟩ = c[i]? := by
  simp [World.cell?, h.get]
theorem cell1 {b : Nat} {v : Value} {t : TypeId} {fr : Nat × Nat} (h : Sat E w (pt b (.cells #[v] t fr) * q)) : w.cell? ⟨b, 0, none⟩ = some v := by rw [h.cell]; rfl
theorem thaw {b : Nat} {c : Array Value} {t : TypeId} (h : Sat E w (pt b (.cells c t) * q)) (i : Nat) : w.frozen? ⟨b, i, none⟩ = false := by
  simp [World.frozen?, h.get]
theorem ne {a b : Nat} {o u : Obj} (h : Sat E w (pt a o * (pt b u * q))) : a ≠ b := by
  obtain ⟨he, k, hk, h1, h2, hd, hu, hp, ⟨h3, h4, hd', hu', hq, _⟩⟩ := h
  rintro rfl
  have e1 : h1 a = some o := by rw [hp a]; simp
  have e2 : h2 a = some u := by rw [hu' a, hq a]; simp
  rcases hd a with e | e
  · rw [e1] at e; cases e
  · rw [e2] at e; cases e
theorem carry (h : Sat E w p) (he : Goes w w') (hb : ∀ k, k < w.heap.size → w'.heap[k]? = w.heap[k]?) : Sat E w' p := by
  obtain ⟨e, k, hk, hp⟩ := h
  exact ⟨e.goes he, k, fun b o hb' => by
    have h1 := hk b o hb'
    rw [hb b (Array.getElem?_eq_some_iff.1 h1).1]; exact h1, hp⟩
theorem drew (h : Sat E w p) : Sat E w.drew p := h.carry ⟨rfl, rfl, rfl, Nat.le_refl _⟩ fun _ _ => rfl
theorem drewN {n : Nat} (h : Sat E w p) : Sat E (w.drewN n) p := h.carry ⟨rfl, rfl, rfl, Nat.le_refl _⟩ fun _ _ => rfl
theorem below (h : Sat E w p) (hb : Below w.heap.size w w') : Sat E w' p := h.carry ⟨hb.os, hb.tape, hb.output, hb.size⟩ hb.block
theorem alloc (h : Sat E w p) (o : Obj) : Sat E (w.alloc o) (pt w.heap.size o * p) := by
  obtain ⟨e, k, hk, hp⟩ := h
  have hn : k w.heap.size = none := by
    cases hks : k w.heap.size with
    | none => rfl
    | some u => have := (Array.getElem?_eq_some_iff.1 (hk _ _ hks)).1; omega
  refine ⟨e.goes ⟨rfl, rfl, rfl, by simp⟩, fun b => if b = w.heap.size then some o else k b, fun b u hb => ?_, fun b => if b = w.heap.size then some o else none, k, fun b => ?_, fun b => ?_, fun b => rfl, hp⟩
  · by_cases hbs : b = w.heap.size
    · subst hbs; simp at hb; subst hb; exact heap_alloc_new w o
    · simp [hbs] at hb
      have h1 := hk b u hb
      rw [heap_alloc_old w o (Array.getElem?_eq_some_iff.1 h1).1]; exact h1
  · by_cases hbs : b = w.heap.size
    · subst hbs; exact .inr hn
    · simp [hbs]
  · by_cases hbs : b = w.heap.size
    · subst hbs; simp
    · simp [hbs]
theorem turn {b : Nat} {o o' : Obj} (h : Sat E w (pt b o * p)) (he : Goes w w') (hb : w'.heap[b]? = some o') (ho : ∀ k, k ≠ b → k < w.heap.size → w'.heap[k]? = w.heap[k]?) : Sat E w' (pt b o' * p) := by
  obtain ⟨e, k, hk, h1, h2, hd, hu, hp, hq⟩ := h
  have hn : h2 b = none := by
    rcases hd b with e1 | e1
    · rw [hp b] at e1; simp at e1
    · exact e1
  refine ⟨e.goes he, fun c => if c = b then some o' else k c, fun c u hc => ?_, fun c => if c = b then some o' else none, h2, fun c => ?_, fun c => ?_, fun c => rfl, hq⟩
  · by_cases hcb : c = b
    · subst hcb; simp at hc; subst hc; exact hb
    · simp [hcb] at hc
      have h3 := hk c u hc
      rw [ho c hcb (Array.getElem?_eq_some_iff.1 h3).1]; exact h3
  · by_cases hcb : c = b
    · subst hcb; exact .inr hn
    · simp [hcb]
  · by_cases hcb : c = b
    · subst hcb; simp
    · simp only [hcb, if_false]
      rw [hu c, hp c]; simp [hcb]
theorem set {b i : Nat} {c : Array Value} {t : TypeId} {fr : Nat × Nat} (h : Sat E w (pt b (.cells c t fr) * p)) (v : Value) : Sat E (w.setCell ⟨b, i, none⟩ v) (pt b (.cells (c.setIfInBounds i v) t fr) * p) := by
  refine h.turn ⟨rfl, rfl, rfl, by simp [World.setCell]⟩ ?_ fun k hk _ => Below.heap_setCell w ⟨b, i, none⟩ v k hk
  simp [World.setCell, Array.getElem?_modify, h.get]
theorem set1 {b : Nat} {u : Value} {t : TypeId} {fr : Nat × Nat} (h : Sat E w (pt b (.cells #[u] t fr) * p)) (v : Value) : Sat E (w.setCell ⟨b, 0, none⟩ v) (pt b (.cells #[v] t fr) * p) := h.set (i := 0) v
def _root_.Go.Proofs.YtnpinegpajbkeaaDoor.HP.old (w0 : World) : HP := fun h => ∀ b, h b = w0.heap[b]?
theorem start : Sat (envOf w) w (HP.old w) := ⟨⟨rfl, rfl, rfl, Nat.le_refl _⟩, fun b => w.heap[b]?, fun _ _ h => h, fun _ => rfl⟩
theorem old_block {w0 : World} (h : Sat E w (HP.old w0 * p)) (b : Nat) (hb : b < w0.heap.size) : w.heap[b]? = w0.heap[b]? := by
  obtain ⟨e, k, hk, h1, h2, hd, hu, hp, hq⟩ := h
  have h0 : w0.heap[b]? = some w0.heap[b] := Array.getElem?_eq_getElem hb
  rw [h0]
  exact hk b _ (by rw [hu b, hp b, h0]; rfl)
theorem old_below {w0 : World} (h : Sat (envOf w0) w (HP.old w0 * p)) : Below w0.heap.size w0 w := by
  exact ⟨h.env.os, h.env.tape, h.env.output, h.env.low, fun k hk => h.old_block k hk⟩
end Sat
end Go.Proofs.YtnpinegpajbkeaaDoor
namespace Go.Proofs.YtnpinegpajbkeaaDoor
open Go.RowKit HP
def HP.row (e : TypeId) (size : Nat) (v : Value) (n : Nat) (cs : List Value) : HP := fun h =>
  cs.length = n * size ∧
  ((∃ A, v = .slice A 0 0 ∧ n = 0 ∧ HP.emp h) ∨
   ∃ g off cap cur, v = .slice (some ⟨g, off * size, none⟩) n cap ∧ n ≤ cap ∧ cap ≤ maxLen ∧ (off + cap) * size ≤ cur.size ∧ (cur.toList.drop (off * size)).take (n * size) = cs ∧ HP.pt g (.cells cur e) h)
def Cells (w : World) (A : Option Addr) (cs : List Value) : Prop := ∀ j u, cs[j]? = some u → ∃ a, A = some a ∧ w.cell? (a.add j) = some u
theorem addr_of_cell {w : World} {a : Addr} {v : Value} (h : w.cell? a = some v) : ∃ g o, a = ⟨g, o, none⟩ := by
  obtain ⟨g, o, s⟩ := a
  cases s with
  | none => exact ⟨g, o, rfl⟩
  | some x =>
    simp only [World.cell?] at h
    split at h <;> simp at h
theorem Cells.nil (w : World) (A : Option Addr) : Cells w A [] := fun j u h => by simp at h
theorem Cells.at_ {w : World} {A : Option Addr} {cs : List Value} (h : Cells w A cs) (j : Nat) (hj : j < cs.length) : ∃ a, A = some a ∧ w.cell? (a.add j) = some (cs[j]) :=
  h j _ (List.getElem?_eq_getElem hj)
theorem Cells.some_ {w : World} {a : Addr} {cs : List Value} (h : Cells w (some a) cs) (j : Nat) (u : Value) (hj : cs[j]? = some u) : w.cell? (a.add j) = some u := by
  obtain ⟨b, hb, hc⟩ := h j u hj
  cases hb; exact hc
theorem Cells.carry {w w' : World} {A : Option Addr} {cs : List Value} (h : Cells w A cs) (hb : ∀ k, k < w.heap.size → w'.heap[k]? = w.heap[k]?) : Cells w' A cs := fun j u hj => by
  obtain ⟨a, ha, hc⟩ := h j u hj
  exact ⟨a, ha, by rw [World.cell?_of_block (w := w) (hb _ (World.block_lt_of_cell? w _ hc))]; exact hc⟩
theorem Cells.alloc {w : World} {A : Option Addr} {cs : List Value} (h : Cells w A cs) (o : Obj) : Cells (w.alloc o) A cs := h.carry fun k hk => heap_alloc_old w o hk
theorem Cells.take {w : World} {A : Option Addr} {cs : List Value} (h : Cells w A cs) (n : Nat) : Cells w A (cs.take n) := fun j u hj => by
  rw [List.getElem?_take] at hj
  split at hj
  · exact h j u hj
  · cases hj
theorem Cells.add_add (a : Addr) (n j : Nat) : (a.add n).add j = a.add (n + j) := by
  unfold Addr.add
  by_cases h0 : n = 0 <;> by_cases h1 : j = 0 <;> simp [h0, h1, Nat.add_assoc]
theorem Cells.drop {w : World} {a : Addr} {cs : List Value} (h : Cells w (some a) cs) (n : Nat) : Cells w (some (a.add n)) (cs.drop n) := fun j u hj => by
  rw [List.getElem?_drop] at hj
  refine ⟨_, rfl, ?_⟩
  have := h.some_ _ _ hj
  rw [Cells.add_add]; exact this
section
variable {E : Env} {w : World} {q : HP} {e : TypeId} {size n : Nat} {v : Value} {cs : List Value}
theorem Sat.row_nil (h : Sat E w q) (e : TypeId) (size : Nat) (A : Option Addr) : Sat E w (row e size (.slice A 0 0) 0 [] * q) :=
  (h.emp_intro).of_mul_mono fun _ hk => ⟨by simp, .inl ⟨A, rfl, rfl, hk⟩⟩
theorem Sat.row_cases (h : Sat E w (row e size v n cs * q)) : cs.length = n * size ∧
    ((∃ A, v = .slice A 0 0 ∧ n = 0 ∧ Sat E w q) ∨
     ∃ g off cap cur, v = .slice (some ⟨g, off * size, none⟩) n cap ∧ n ≤ cap ∧ cap ≤ maxLen ∧ (off + cap) * size ≤ cur.size ∧ (cur.toList.drop (off * size)).take (n * size) = cs ∧ Sat E w (pt g (.cells cur e) * q)) := by
  obtain ⟨he, k, hk, h1, h2, hd, hu, ⟨hl, hp⟩, hq⟩ := h
  refine ⟨hl, ?_⟩
  rcases hp with ⟨A, hv, hn, hp⟩ | ⟨g, off, cap, cur, hv, hnc, hcm, hs, ht, hp⟩
  · exact .inl ⟨A, hv, hn, Sat.right (p := emp) ⟨he, k, hk, h1, h2, hd, hu, hp, hq⟩⟩
  · exact .inr ⟨g, off, cap, cur, hv, hnc, hcm, hs, ht, he, k, hk, h1, h2, hd, hu, hp, hq⟩
theorem Sat.row_mk {g off cap : Nat} {cur : Array Value} (h : Sat E w (pt g (.cells cur e) * q)) (hnc : n ≤ cap) (hcm : cap ≤ maxLen) (hs : (off + cap) * size ≤ cur.size)
    (ht : (cur.toList.drop (off * size)).take (n * size) = cs) : Sat E w (row e size (.slice (some ⟨g, off * size, none⟩) n cap) n cs * q) :=
  h.of_mul_mono fun _ hk => ⟨by
    rw [← ht, List.length_take, List.length_drop, Array.length_toList]
    have h1 : (off + n) * size ≤ (off + cap) * size := Nat.mul_le_mul_right _ (by omega)
    simp only [Nat.add_mul] at h1 hs
    omega, .inr ⟨g, off, cap, cur, rfl, hnc, hcm, hs, ht, hk⟩⟩
theorem Sat.row_slice (h : Sat E w (row e size v n cs * q)) : ∃ A c, v = .slice A n c ∧ n ≤ c ∧ c ≤ maxLen := by
  rcases h.row_cases.2 with ⟨A, hv, hn, _⟩ | ⟨g, off, cap, cur, hv, hnc, hcm, _⟩
  · subst hn; exact ⟨A, 0, hv, Nat.le_refl _, by simp [maxLen]⟩
  · exact ⟨_, cap, hv, hnc, hcm⟩
theorem Sat.row_cells {A : Option Addr} {c : Nat} (h : Sat E w (row e size (.slice A n c) n cs * q)) : Cells w A cs := by
  intro j u hj
  rcases h.row_cases.2 with ⟨A', hv, hn, _⟩ | ⟨g, off, cap, cur, hv, hnc, hcm, hs, ht, hp⟩
  · have := h.row_cases.1
    subst hn
    have hnil : cs = [] := List.eq_nil_of_length_eq_zero (by omega)
    subst hnil
    simp at hj
  · cases hv
    refine ⟨_, rfl, ?_⟩
    rw [Addr.add_lit, hp.cell]
    rw [← ht, List.getElem?_take] at hj
    split at hj
    · rw [List.getElem?_drop] at hj
      simpa using hj
    · cases hj
theorem Sat.row_thaw {g o c : Nat} (h : Sat E w (row e size (.slice (some ⟨g, o, none⟩) n c) n cs * q)) (j : Nat) (hj : j < cs.length) : w.frozen? ⟨g, o + j, none⟩ = false := by
  rcases h.row_cases.2 with ⟨A', hv, hn, _⟩ | ⟨g', off, cap, cur, hv, hnc, hcm, hs, ht, hp⟩
  · have := h.row_cases.1
    subst hn
    omega
  · cases hv
    exact hp.thaw _
theorem Sat.row_set {g o c : Nat} (h : Sat E w (row e size (.slice (some ⟨g, o, none⟩) n c) n cs * q)) (j : Nat) (hj : j < cs.length) (u : Value) :
    Sat E (w.setCell ⟨g, o + j, none⟩ u) (row e size (.slice (some ⟨g, o, none⟩) n c) n (cs.set j u) * q) := by
  have hl := h.row_cases.1
  rcases h.row_cases.2 with ⟨A', hv, hn, _⟩ | ⟨g', off, cap, cur, hv, hnc, hcm, hs, ht, hp⟩
  · subst hn
    omega
  · cases hv
    have h1 := hp.set (i := off * size + j) u
    have hmul : off * size + n * size ≤ off * size + c * size := Nat.add_le_add_left (Nat.mul_le_mul_right _ hnc) _
    refine h1.row_mk hnc hcm ?_ ?_
    · simpa using hs
    · simp only [Array.toList_setIfInBounds]
      rw [← ht]
      apply List.ext_getElem
      · simp
      · intro i h2 h3
        simp only [List.length_take, List.length_drop, List.length_set, Array.length_toList] at h2
        simp only [List.getElem_take, List.getElem_drop, List.getElem_set]
        by_cases hij : j = i
        · subst hij; simp
        · have : ¬ (off * size + j = off * size + i) := by omega
          simp [hij]
theorem addr_add (g o k : Nat) : (⟨g, o, none⟩ : Addr).add k = ⟨g, o + k, none⟩ := Addr.add_lit g o k
theorem splice_take (cur news : List Value) (a m : Nat) (h : a + m + news.length ≤ cur.length) :
    (((cur.take (a + m)) ++ news ++ cur.drop (a + m + news.length)).drop a).take (m + news.length) = (cur.drop a).take m ++ news := by
  rw [List.append_assoc, List.drop_append_of_le_length (by simp; omega), List.drop_take, List.take_append]
  have e : ((cur.drop a).take (a + m - a)).length = m := by simp; omega
  rw [e, show m + news.length - m = news.length by omega, List.take_append_of_le_length (l₁ := news) (Nat.le_refl _), List.take_length, List.take_of_length_le (by rw [e]; omega)]
  rw [show a + m - a = m by omega]
theorem run_append_row {P : Program} {t ty : TypeId} {i : TypeInfo} {z : Value} {bytes : Nat} (ht : P.underlying t = some (.slice e)) (hi : P.info? e = some i) (hz : i.zero = some z)
    (hsize : i.size = size) (hby : i.bytes = bytes) (hzs : z.cells.size = size)
    (h : Sat E w (row e size v n cs * q)) (A : Option Addr) (m c : Nat) (news : List Value) (hl : news.length = m * size) (hnews : Cells w A news) (h1 : ∀ u ∈ news, u.oneCell' = true)
    (h63 : n + m ≤ maxLen) (hbytes : (n + m) * bytes ≤ 140737488355328) (hA : m ≠ 0 → 0 < size) :
    ∃ v' w', (Builtin.append_ #[t, t] ty #[v, .slice A m c]).run P w = .ok v' w' ∧ Sat E w' (row e size v' (n + m) (cs ++ news) * q) := by
  subst hsize
  subst hby
  have hsmall : n + m ≤ 9223372036854775807 := by simp only [maxLen] at h63; omega
  have hcl := h.row_cases.1
  have hlen : (cs ++ news).length = (n + m) * i.size := by rw [List.length_append, hcl, hl, Nat.add_mul]
  by_cases hm : m = 0
  · subst hm
    have hn : news = [] := List.eq_nil_of_length_eq_zero (by simpa using hl)
    subst hn
    obtain ⟨B, cc, hv, hnc, _⟩ := h.row_slice
    subst hv
    refine ⟨.slice B n cc, w, ?_, by simpa using h⟩
    cases A <;> cases B <;> simp [Builtin.append_, run_underlying ht, sizeOf, typeInfo, hi, Builtin.lenOf, Builtin.firstCells, loadCells, loadCellsFrom, hnc, storeCells]
  · have hsz := hA hm
    have hAs : ∃ a, A = some a := by
      have h0 : 0 < news.length := by rw [hl]; exact Nat.mul_pos (by omega) hsz
      obtain ⟨a, ha, _⟩ := hnews.at_ 0 h0
      exact ⟨a, ha⟩
    obtain ⟨a, rfl⟩ := hAs
    have hnews' : ∀ j u, news[j]? = some u → w.cell? (a.add j) = some u := fun j u hj => hnews.some_ j u hj
    have grown : ∀ (old : Nat), old < n + m → Sat E w q →
        Sat E (w.drew.alloc (.cells (cs.toArray ++ news.toArray ++ Builtin.zeroCells z.cells (grownCap w (n + m) old e - (n + m))) e)) (row e i.size (.slice (some ⟨w.heap.size, 0, none⟩) (n + m) (grownCap w (n + m) old e)) (n + m) (cs ++ news) * q) := by
      intro old ho hq
      have hge := grownCap_ge w (n + m) old e
      have hcm : grownCap w (n + m) old e ≤ maxLen := grownCap_le_maxLen w (n + m) old e h63
      have hs := Sat.row_mk (n := n + m) (cap := grownCap w (n + m) old e) (off := 0) (size := i.size) (cs := cs ++ news) (hq.drew.alloc (.cells (cs.toArray ++ news.toArray ++ Builtin.zeroCells z.cells (grownCap w (n + m) old e - (n + m))) e)) hge hcm ?_ ?_
      · simpa using hs
      · simp only [Array.size_append, List.size_toArray, size_zeroCells, hzs, hcl, hl, ← Nat.add_mul]
        apply Nat.mul_le_mul_right
        omega
      · simp only [Array.toList_append, Nat.zero_mul, List.drop_zero, ← hlen]
        exact List.take_left
    rcases h.row_cases.2 with ⟨B, hv, hn, hq⟩ | ⟨g, off, cap, cur, hv, hnc, hcm, hs, htk, hp⟩
    · subst hv
      subst hn
      have hx : cs = [] := List.eq_nil_of_length_eq_zero (by simpa using hcl)
      subst hx
      have hgr := grown 0 (by omega) hq
      cases B with
      | none =>
        have hr := run_append_nil (P := P) w t ty e i z ht hi hz a m c news hl hnews' (by omega) (by omega) (by have hb := hbytes; simp only [Nat.zero_add] at hb; omega)
        simp only [Nat.zero_add, List.nil_append, Array.empty_append] at hgr ⊢
        exact ⟨_, _, hr, hgr⟩
      | some b =>
        have hr := run_append_grow (P := P) w t ty e i z ht hi hz b 0 0 [] (by simp) (fun j v hj => by simp at hj) a m c news hl hnews' (by omega) (by omega) (growslice_fits (by omega) (by simpa using hbytes))
        simp only [Nat.zero_add, List.nil_append, Array.empty_append] at hgr hr ⊢
        exact ⟨_, _, hr, hgr⟩
    · subst hv
      have hcells : ∀ j u, cs[j]? = some u → w.cell? ((⟨g, off * i.size, none⟩ : Addr).add j) = some u := h.row_cells.some_
      by_cases hroom : n + m ≤ cap
      · have hfit : off * i.size + n * i.size + news.length ≤ cur.size := by
          rw [hl, ← Nat.add_mul, ← Nat.add_mul]; exact Nat.le_trans (Nat.mul_le_mul_right _ (by omega)) hs
        have hf := run_firstCells_some (P := P) w i.size m a m c news hl hnews'
        have hst := run_storeCells_at P g (off * i.size + n * i.size) e news 0 cur w hp.get (by simpa using hfit) h1
        simp only [Nat.add_zero] at hst
        refine ⟨.slice (some ⟨g, off * i.size, none⟩) (n + m) cap, w.setRow g (cur.toList.take (off * i.size + n * i.size) ++ news ++ cur.toList.drop (off * i.size + n * i.size + news.length)).toArray, ?_, ?_⟩
        · simp [Builtin.append_, run_underlying ht, sizeOf, typeInfo, hi, Builtin.lenOf, hroom, hf, Addr.add_lit, hst]
        · have ht' := hp.turn (w' := w.setRow g (cur.toList.take (off * i.size + n * i.size) ++ news ++ cur.toList.drop (off * i.size + n * i.size + news.length)).toArray) (o' := .cells (cur.toList.take (off * i.size + n * i.size) ++ news ++ cur.toList.drop (off * i.size + n * i.size + news.length)).toArray e) ⟨rfl, rfl, rfl, by simp⟩
            (setRow_heap w g cur _ e _ hp.get) (fun k hk _ => setRow_other w g k _ hk)
          refine ht'.row_mk hroom hcm ?_ ?_
          · simp only [List.size_toArray, List.length_append, List.length_take, List.length_drop, Array.length_toList]
            omega
          · rw [← htk, Nat.add_mul, ← hl]
            exact splice_take cur.toList news (off * i.size) (n * i.size) (by simpa using hfit)
      · have hr := run_append_grow (P := P) w t ty e i z ht hi hz ⟨g, off * i.size, none⟩ n cap cs hcl hcells a m c news hl hnews' (by omega) (by omega) (growslice_fits (by omega) hbytes)
        exact ⟨_, _, hr, grown cap (by omega) hp.right⟩
structure SlTy (P : Program) (t e : TypeId) (z : Value) (size bytes : Nat) : Prop where
  under : P.underlying t = some (.slice e)
  info : (P.info? e).map (fun i => (i.zero, i.size, i.bytes)) = some (some z, size, bytes)
  cells : z.cells.size = size
  pos : 0 < size
theorem wpList_append_row {P : Program} {ops : Array Oper} {rest : List Oper} {o : Oper} {a : Act} {Q : Exit → Act → World → Prop} {s x : Operand} {t : TypeId} {z : Value} {bytes : Nat}
    (T : SlTy P t e z size bytes) (hgd : o.guard = none)
    (ho : o.op = .call { callee := .builtin .append, args := #[s, x], argTypes := #[t, t] })
    {A : Option Addr} {m c : Nat} {news : List Value} (hs : a.eval s = v) (hx : a.eval x = .slice A m c)
    (h : Sat E w (row e size v n cs * q)) (hnews : Cells w A news) (hl : news.length = m * size) (h1 : news.all Value.oneCell' = true)
    (h63 : n + m ≤ maxLen) (hbytes : (n + m) * bytes ≤ 140737488355328)
    (hk : ∀ v' w', Sat E w' (row e size v' (n + m) (cs ++ news) * q) → wpList P ops Q rest (a.put o.dst v') w') : wpList P ops Q (o :: rest) a w := by
  refine wpList_plain hgd fun K hK => ?_
  obtain ⟨i, hi, hz, hsize, hby⟩ := info_parts T.info
  obtain ⟨v', w', hr, h2⟩ := run_append_row (P := P) (ty := o.type) T.under hi hz hsize hby T.cells h A m c news hl hnews (List.all_eq_true.1 h1) h63 hbytes (fun _ => T.pos)
  unfold Oper.wp execOp
  simp only [ho, resolve, invoke, builtin, Sem.run_bind, Sem.run_pure, Result.andThen_ok, List.map_toArray, List.map_cons, List.map_nil, hs, hx, hr]
  exact hK _ _ (hk v' w' h2)
theorem slice_addr {w : World} {A : Option Addr} {cs : List Value} (h : Cells w A cs) {a : Addr} (ha : A = some a) {k : Nat} (hk : k < cs.length) : ∃ g o, a = ⟨g, o, none⟩ := by
  subst ha
  obtain ⟨b, hb, hc⟩ := h.at_ 0 (by omega)
  cases hb
  have h0 : a.add 0 = a := by simp [Addr.add]
  rw [h0] at hc
  exact addr_of_cell hc
theorem Cells.fresh (w : World) (l : List Value) (t : TypeId) (fr : Nat × Nat) : Cells (w.alloc (.cells l.toArray t fr)) (some ⟨w.heap.size, 0, none⟩) l := fun j u hj => by
  refine ⟨_, rfl, ?_⟩
  rw [addr_add, Nat.zero_add, cell_of_row _ w.heap.size j l.toArray t fr (heap_alloc_new w _)]
  simpa using hj
theorem Sat.drop2 {p r : HP} (h : Sat E w (p * (r * q))) : Sat E w (p * q) := (h.perm (left_comm p r q)).right
theorem wpList_append_new {P : Program} {ops : Array Oper} {rest : List Oper} {o : Oper} {a : Act} {Q : Exit → Act → World → Prop} {s x : Operand} {t : TypeId} {z : Value} {bytes : Nat}
    (T : SlTy P t e z size bytes) (hgd : o.guard = none)
    (ho : o.op = .call { callee := .builtin .append, args := #[s, x], argTypes := #[t, t] })
    {m c : Nat} {news : List Value} {tt : TypeId} {fr : Nat × Nat} (hs : a.eval s = v) (hx : a.eval x = .slice (some ⟨w.heap.size, 0, none⟩) m c)
    (h : Sat E w (row e size v n cs * q)) (hl : news.length = m * size) (h1 : news.all Value.oneCell' = true)
    (h63 : n + m ≤ maxLen) (hbytes : (n + m) * bytes ≤ 140737488355328)
    (hk : ∀ v' w', Sat E w' (row e size v' (n + m) (cs ++ news) * q) → wpList P ops Q rest (a.put o.dst v') w') : wpList P ops Q (o :: rest) a (w.alloc (.cells news.toArray tt fr)) :=
  wpList_append_row T hgd ho hs hx ((h.alloc _).perm (left_comm _ _ _)) (Cells.fresh w news tt fr) hl h1 h63 hbytes (fun v' w' hw => hk v' w' hw.drop2)
end
structure Aside (p : Prop) : Prop where mk :: (out : p)
end Go.Proofs.YtnpinegpajbkeaaDoor
namespace Go.Proofs.YtnpinegpajbkeaaDoor
open Go.RowKit HP
def HP.is (k : Nat → Option Obj) : HP := fun h => ∀ b, h b = k b
def HP.Celled (p : HP) : Prop := ∀ h, p h → ∀ b o, h b = some o → o.isCells = true
def HP.Solid (B : Nat) (p : HP) : Prop := ∀ h, p h → ∀ b o, h b = some o → o.isCells = true ∨ b < B
section
variable {E : Env} {w w' : World} {p q r : HP}
theorem HP.Celled.pt (b : Nat) (c : Array Value) (t : TypeId) (fr : Nat × Nat) : Celled (HP.pt b (.cells c t fr)) := by
  intro h hp k o hk
  rw [hp k] at hk
  split at hk
  · cases hk; rfl
  · cases hk
theorem HP.Celled.emp : Celled HP.emp := by
  intro h hp k o hk
  rw [hp k] at hk; cases hk
theorem HP.Celled.row (e : TypeId) (size : Nat) (v : Value) (n : Nat) (cs : List Value) : Celled (HP.row e size v n cs) := by
  rintro h ⟨_, ⟨_, _, _, he⟩ | ⟨g, off, cap, cur, _, _, _, _, _, hp⟩⟩ k o hk
  · exact Celled.emp h he k o hk
  · exact Celled.pt g cur e (0, 0) h hp k o hk
theorem HP.Celled.solid (h : Celled p) (B : Nat) : Solid B p := fun k hk b o hb => .inl (h k hk b o hb)
theorem HP.Solid.is {B : Nat} {k : Nat → Option Obj} (hk : ∀ b o, k b = some o → b < B) : Solid B (HP.is k) := fun h hh b o hb => .inr (hk b o (by rw [← hh b]; exact hb))
theorem Sat.exact (h : Sat E w (p * q)) (hc : Celled p) : ∃ k, (∀ b o, k b = some o → w.heap[b]? = some o) ∧ Sat E w (p * HP.is k) ∧
    (∀ w' p', Sat E w' (p' * HP.is k) → Sat E w' (p' * q)) ∧ (∀ b o, w.heap[b]? = some o → o.isCells = false → k b = some o) := by
  obtain ⟨he, m, hm, h1, h2, hd, hu, hp, hq⟩ := h
  refine ⟨fun b => if h1 b = none then w.heap[b]? else none, fun b o hb => ?_, ?_, ?_, fun b o hb ho => ?_⟩
  · dsimp only at hb
    split at hb
    · exact hb
    · cases hb
  · refine ⟨he, fun b => w.heap[b]?, fun _ _ h => h, h1, _, fun b => ?_, fun b => ?_, hp, fun _ => rfl⟩
    · cases e : h1 b with
      | none => exact .inl rfl
      | some o => right; simp
    · cases e : h1 b with
      | none => simp
      | some o => simpa using hm b o (by rw [hu b, e]; rfl)
  · rintro w' p' ⟨he', m', hm', k1, k2, hd', hu', hp', hk2⟩
    refine ⟨he', fun b => (k1 b).or (h2 b), fun b o hb => ?_, k1, h2, fun b => ?_, fun _ => rfl, hp', hq⟩
    · rcases Option.or_eq_some_iff.1 hb with e | ⟨e0, e⟩
      · exact hm' b o (by rw [hu' b, e]; rfl)
      · refine hm' b o ?_
        have e1 : h1 b = none := by
          rcases hd b with e2 | e2
          · exact e2
          · rw [e] at e2; cases e2
        have e3 : k2 b = some o := by
          rw [hk2 b]; simp only [e1, if_true]
          exact hm b o (by rw [hu b, e1, e]; rfl)
        rw [hu' b, e0, e3]; rfl
    · cases e : h2 b with
      | none => exact .inr rfl
      | some o =>
        left
        have e1 : h1 b = none := by
          rcases hd b with e2 | e2
          · exact e2
          · rw [e] at e2; cases e2
        have e3 : k2 b = some o := by
          rw [hk2 b]; simp only [e1, if_true]
          exact hm b o (by rw [hu b, e1, e]; rfl)
        rcases hd' b with e2 | e2
        · exact e2
        · rw [e3] at e2; cases e2
  · cases e : h1 b with
    | none => simp [e, hb]
    | some u =>
      have h3 := hm b u (by rw [hu b, e]; rfl)
      rw [hb] at h3; cases h3
      rw [hc h1 hp b o e] at ho; cases ho
theorem Sat.own {B : Nat} (h : Sat E w p) (hs : Solid B p) {row : Option Nat} (hg : w.grownBy w' row) (hr : ∀ r, row = some r → B ≤ r ∧ ∃ o : Obj, w.heap[r]? = some o ∧ o.isCells = false) : Sat E w' p := by
  obtain ⟨he, k, hk, hp⟩ := h
  refine ⟨he.goes ⟨hg.os, hg.tape, hg.output, hg.size⟩, k, fun b o hb => ?_, hp⟩
  have h1 := hk b o hb
  rw [hg.block b (Array.getElem?_eq_some_iff.1 h1).1 (fun e => ?_)]
  · exact h1
  · obtain ⟨hB, u, hu, hn⟩ := hr b e.symm
    rw [h1] at hu; cases hu
    rcases hs k hp b o hb with e1 | e1
    · rw [hn] at e1; cases e1
    · omega
theorem Sat.keeps {B : Nat} {k : Nat → Option Obj} (h : Sat E w' (r * HP.is k)) (hk : ∀ b o, w.heap[b]? = some o → o.isCells = false → k b = some o) (hs : w.heap.size ≤ w'.heap.size) : KeepsFrom B w w' := by
  refine ⟨hs, fun b o _ hb ho => ?_⟩
  obtain ⟨he, m, hm, h1, h2, hd, hu, hp, hq⟩ := h
  have e : h2 b = some o := by rw [hq b]; exact hk b o hb ho
  refine hm b o ?_
  rw [hu b]
  rcases hd b with e1 | e1
  · rw [e1, e]; rfl
  · rw [e1] at e; cases e
theorem Sat.putObj {B D : Nat} {o : Obj} (h : Sat E w p) (hs : Solid B p) (hB : B ≤ D) (hD : w.heap[D]? = some o) (ho : o.isCells = false) (o' : Obj) : Sat E (w.putObj D o') p :=
  h.own hs (grownBy_putObj' w D o') (fun r e => by cases e; exact ⟨hB, o, hD, ho⟩)
theorem putObj_heap_ne (W : World) (r : Nat) (o : Obj) (k : Nat) (h : k ≠ r) : (W.putObj r o).heap[k]? = W.heap[k]? := World.putObj_heap_other h
variable {e : TypeId} {size n : Nat} {v : Value} {cs : List Value}
end
end Go.Proofs.YtnpinegpajbkeaaDoor
namespace Go.Proofs.YtnpinegpajbkeaaDoor
open Go.RowKit HP
def HP.dsk (d : Nat) (room fuse : Int) (m : Nat) : HP := HP.pt d (.cells #[.int .i64 room, .map (some m), .int .i64 fuse] 38)
set_option maxHeartbeats 1000000 in
set_option maxRecDepth 100000 in
theorem disk_new_no (room : Int) (w : World) (h : room < 0 ∨ 100000 < room) :
    Calls Tryd.prog 16 #[.int .i64 room] w fun e w' => e = .returned (.tuple #[.pointer none, .int .i64 1]) ∧ w' = w := by
  go_enter Tryd.func16, Tryd.ntmps16
  by_cases h0 : room < 0
  · clear h
    go_wp2
    go_ret2
    exact ⟨rfl, rfl⟩
  · have h1 : 100000 < room := by omega
    clear h
    go_wp2
    go_ret2
    exact ⟨rfl, rfl⟩
set_option maxHeartbeats 1000000 in
set_option maxRecDepth 100000 in
theorem disk_new (E : Env) (q : HP) (room : Int) (w : World) (h0 : 0 ≤ room) (h1 : room ≤ 100000) (hw : Sat E w q) :
    Calls Tryd.prog 16 #[.int .i64 room] w fun e w' => ∃ d m, e = .returned (.tuple #[.pointer (some ⟨d, 0, none⟩), .int .i64 0]) ∧ Sat E w' (HP.dsk d room (-1) m * (HP.pt m (.map #[] 0) * q)) := by
  have HW := Aside.mk hw
  clear hw
  have hmm := @run_makeMap Tryd.prog
  go_enter Tryd.func16, Tryd.ntmps16
  have h2 : ¬ room < 0 := by omega
  have h3 : ¬ 100000 < room := by omega
  go_wp2
  go_ret2
  have h4 := (HW.out.alloc (.map #[] 0)).alloc (.cells #[.int .i64 room, .map (some w.heap.size), .int .i64 (-1)] 38)
  have e1 : (w.alloc (.map #[] 0)).heap.size = w.heap.size + 1 := by
    show (w.heap.push _).size = _
    exact Array.size_push _
  rw [e1] at h4
  first
    | exact ⟨w.heap.size + 1, rfl, w.heap.size, h4⟩
    | exact ⟨w.heap.size + 1, w.heap.size, rfl, h4⟩
theorem run_map_nil {P : Program} {t k e : TypeId} (h : P.underlying t = some (.map k e)) (r : Option Nat) (w : World) : (binOp .eql t (.map r) (.map none)).run P w = .ok (.bool r.isNone) w := by
  simp only [binOp]
  simp [run_equal_map_nil w t k e r h]
set_option maxHeartbeats 1000000 in
set_option maxRecDepth 100000 in
theorem disk_none (E : Env) (q : HP) (d : Nat) (room fuse : Int) (m : Nat) (w : World) (hw : Sat E w (HP.dsk d room fuse m * q)) :
    Calls Tryd.prog 61 #[.pointer (some ⟨d, 0, none⟩)] w fun e w' => e = .returned (.bool false) ∧ w' = w := by
  have c1 := hw.cell 1
  simp only [List.getElem?_toArray, List.getElem?_cons_zero, List.getElem?_cons_succ] at c1
  clear hw
  have hmn := fun r => run_map_nil (P := Tryd.prog) Tryd.underlying36 r w
  go_enter Tryd.func61, Tryd.ntmps61
  go_wp2
  go_ret
  exact ⟨rfl, rfl⟩
def burnI (fuse : Int) : Int × Bool := if fuse > 0 then (fuse - 1, true) else (fuse, decide (fuse < 0))
set_option maxHeartbeats 1000000 in
set_option maxRecDepth 100000 in
theorem disk_fuse (E : Env) (q : HP) (d : Nat) (room fuse : Int) (m : Nat) (n : Int) (w : World) (hw : Sat E w (HP.dsk d room fuse m * q)) :
    Calls Tryd.prog 38 #[.pointer (some ⟨d, 0, none⟩), .int .i64 n] w fun e w' => (n < 0 ∧ e = .returned (.int .i64 1) ∧ w' = w) ∨ (0 ≤ n ∧ e = .returned (.int .i64 0) ∧ Sat E w' (HP.dsk d room n m * q)) := by
  go_enter Tryd.func38, Tryd.ntmps38
  go_wp2_with fail
  refine (disk_none E q d room fuse m w hw).mono ?_
  rintro e w1 ⟨rfl, rfl⟩
  have f2 := hw.thaw 2
  have c2 := hw.cell 2
  simp only [List.getElem?_toArray, List.getElem?_cons_zero, List.getElem?_cons_succ] at c2
  have HT := Aside.mk (hw.set (i := 2) (.int .i64 n))
  clear hw
  by_cases h : n < 0
  · go_wp2
    go_ret
    exact .inl ⟨h, rfl, rfl⟩
  · go_wp2
    go_ret
    exact .inr ⟨by omega, rfl, HT.out⟩
def strangeB (c : Int) : Bool := decide (c ≠ 46) && (decide (c < 97) || decide (122 < c)) && (decide (c < 48) || decide (57 < c))
def runesOf (s : ByteArray) : List Int := (Conv.runesFrom s s.size 0 #[]).toList.map intOf
def namedB (s : ByteArray) : Bool := !s.toList.isEmpty && decide (s.size ≤ 24) && !(runesOf s).any strangeB
def StrKeys (es : Array MapEntry) : Prop := ∀ x ∈ es.toList, ∃ s : ByteArray, x.key = .string s ∧ s.size ≤ maxLen
def valAt (es : Array MapEntry) (s : ByteArray) : Option Value := (es.toList.find? fun x => match x.key with | .string t => decide (t = s) | _ => false).map (·.val)
theorem lookup_str {P : Program} {t k e : TypeId} {w : World} {b : Nat} {es : Array MapEntry} {clock : Nat} (hk : P.underlying k = some .string) (ht : P.underlying t = some (.map k e)) {z : Value} (hz : (zeroValue e).run P w = .ok z w)
    (hb : w.heap[b]? = some (.map es clock)) (hes : StrKeys es) (s : ByteArray) (hs : s.size ≤ maxLen) :
    ((Instr.lookup t (.map (some b)) (.string s) false).run P w = .ok z w ∧ (Instr.lookup t (.map (some b)) (.string s) true).run P w = .ok (.tuple #[z, .bool false]) w ∧ ∀ x ∈ es.toList, x.key ≠ .string s) ∨
    ∃ (j : Nat) (x : MapEntry), es.toList[j]? = some x ∧ x.key = .string s ∧ (Instr.lookup t (.map (some b)) (.string s) false).run P w = .ok x.val w ∧ (Instr.lookup t (.map (some b)) (.string s) true).run P w = .ok (.tuple #[x.val, .bool true]) w := by
  have K := WideMaps.string_law (P := P) (k := k) hk
  have hkey := WideMaps.keyOf_string_mk (P := P) (k := k) hk hs
  rcases K.find w hkey es.toList (fun x hx => by
    obtain ⟨t, ht, hl⟩ := hes x hx
    rw [ht]
    exact ⟨_, WideMaps.keyOf_string_mk hk hl⟩) with ⟨h1, h2⟩ | ⟨j, x, h1, h2, h3⟩
  · refine .inl ⟨?_, ?_, h2⟩
    · simp [Instr.lookup, run_underlying ht, MapKept.run_getObj_map hb, K.check w _ hkey, h1, hz, Result.andThen]
    · simp [Instr.lookup, run_underlying ht, MapKept.run_getObj_map hb, K.check w _ hkey, h1, hz, Result.andThen]
  · refine .inr ⟨j, x, h2, h3, ?_, ?_⟩
    · simp [Instr.lookup, run_underlying ht, MapKept.run_getObj_map hb, K.check w _ hkey, h1, Result.andThen]
    · simp [Instr.lookup, run_underlying ht, MapKept.run_getObj_map hb, K.check w _ hkey, h1, Result.andThen]
def b8s (l : List Int) : List Value := l.map (Value.int .u8)
structure Cel where
  read : List Int
  durable : List Int
  synced : List Int
  written : List Int
  waits : Bool
def Cel.vals (c : Cel) : List Value := b8s c.read ++ (b8s c.durable ++ (b8s c.synced ++ (b8s c.written ++ [.bool c.waits])))
def HP.cel (b : Nat) (c : Cel) : HP := HP.pt b (.cells c.vals.toArray 114)
structure Fil where
  name : ByteArray
  val : Value
  cels : List (Nat × Cel)
def Fil.ptrs (f : Fil) : List Value := f.cels.map fun x => .pointer (some ⟨x.1, 0, none⟩)
def HP.fil (f : Fil) : HP := HP.row 110 1 f.val f.cels.length f.ptrs * HP.all (f.cels.map fun x => HP.cel x.1 x.2)
def MapOf (es : Array MapEntry) (clock : Nat) (fs : List Fil) : Prop := StrKeys es ∧ es.toList.map (fun x => (x.key, x.val)) = fs.map (fun f => (Value.string f.name, f.val)) ∧ (fs.map (·.name)).Nodup ∧ (∀ x ∈ es.toList, x.born < clock) ∧ (es.toList.map (·.born)).Nodup
def cellAt (fs : List Fil) (name : ByteArray) (i : Int) : Option Addr :=
  match fs.find? (fun f => decide (f.name = name)) with
  | none => none
  | some f => if 0 ≤ i ∧ i < f.cels.length then (f.cels[i.toNat]?).map fun x => ⟨x.1, 0, none⟩ else none
theorem find_at {fs : List Fil} (hn : (fs.map (·.name)).Nodup) {j : Nat} {f : Fil} (h : fs[j]? = some f) : fs.find? (fun x => decide (x.name = f.name)) = some f := by
  induction fs generalizing j with
  | nil => simp at h
  | cons g fs ih =>
    simp only [List.map_cons, List.nodup_cons] at hn
    cases j with
    | zero =>
      simp only [List.getElem?_cons_zero, Option.some.injEq] at h
      subst h
      simp
    | succ j =>
      simp only [List.getElem?_cons_succ] at h
      have hm : f ∈ fs := List.mem_of_getElem? h
      rw [List.find?_cons_of_neg (by
        simp only [decide_eq_true_eq]
        intro he
        exact hn.1 (by rw [he]; exact List.mem_map.2 ⟨f, hm, rfl⟩))]
      exact ih hn.2 h
theorem all_take {l : List HP} {j : Nat} {p : HP} (h : l[j]? = some p) : HP.all l = p * HP.all (l.eraseIdx j) := by
  induction l generalizing j with
  | nil => simp at h
  | cons x l ih =>
    cases j with
    | zero =>
      simp only [List.getElem?_cons_zero, Option.some.injEq] at h
      subst h
      rfl
    | succ j =>
      simp only [List.getElem?_cons_succ] at h
      rw [HP.all_cons, ih h]
      simp only [List.eraseIdx_cons_succ, HP.all_cons]
      ac_rfl
theorem zero_cells (w : World) : (zeroValue 109).run Tryd.prog w = .ok (.slice none 0 0) w := by
  kernel_rfl
end Go.Proofs.YtnpinegpajbkeaaDoor
namespace Go.Proofs.YtnpinegpajbkeaaDoor
def ltN (a b : ByteArray) : Bool := Go.Op.bytesLess a.toList b.toList
theorem bytesLess_irrefl : ∀ l : List UInt8, Go.Op.bytesLess l l = false
  | [] => rfl
  | a :: l => by simp [Go.Op.bytesLess, bytesLess_irrefl l]
theorem bytesLess_trans : ∀ {a b c : List UInt8}, Go.Op.bytesLess a b = true → Go.Op.bytesLess b c = true → Go.Op.bytesLess a c = true
  | [], _ :: _, _ :: _, _, _ => by simp [Go.Op.bytesLess]
  | x :: a, y :: b, z :: c, h1, h2 => by
    simp only [Go.Op.bytesLess, Bool.or_eq_true, decide_eq_true_eq, Bool.and_eq_true, beq_iff_eq] at h1 h2 ⊢
    rcases h1 with h1 | ⟨rfl, h1⟩ <;> rcases h2 with h2 | ⟨rfl, h2⟩
    · exact .inl (UInt8.lt_trans h1 h2)
    · exact .inl h1
    · exact .inl h2
    · exact .inr ⟨rfl, bytesLess_trans h1 h2⟩
  | _, [], _, h1, _ => by simp [Go.Op.bytesLess] at h1
  | _ :: _, _ :: _, [], _, h2 => by simp [Go.Op.bytesLess] at h2
  | [], _ :: _, [], _, h2 => by simp [Go.Op.bytesLess] at h2
theorem bytesLess_total : ∀ {a b : List UInt8}, Go.Op.bytesLess a b = false → a ≠ b → Go.Op.bytesLess b a = true
  | [], [], _, h => (h rfl).elim
  | [], _ :: _, h, _ => by simp [Go.Op.bytesLess] at h
  | _ :: _, [], _, _ => by simp [Go.Op.bytesLess]
  | x :: a, y :: b, h1, h2 => by
    simp only [Go.Op.bytesLess, Bool.or_eq_false_iff, decide_eq_false_iff_not, Bool.and_eq_false_iff, beq_eq_false_iff_ne, Bool.or_eq_true, decide_eq_true_eq, Bool.and_eq_true, beq_iff_eq] at h1 ⊢
    by_cases hxy : x = y
    · subst hxy
      have h3 := h1.2.resolve_left (by simp)
      exact .inr ⟨rfl, bytesLess_total h3 (fun he => h2 (by rw [he]))⟩
    · refine .inl ?_
      have h3 : ¬ x < y := h1.1
      have h4 : y ≤ x := UInt8.not_lt.1 h3
      rcases UInt8.lt_or_eq_of_le h4 with h5 | h5
      · exact h5
      · exact absurd h5.symm hxy
theorem toList_inj {a b : ByteArray} (h : a.toList = b.toList) : a = b := by
  have e : ∀ s : ByteArray, s.toList = s.data.toList := fun s => ByteArray.toList_eq s
  rw [e, e] at h
  cases a; cases b
  simp only [Array.toList_inj] at h
  subst h; rfl
theorem ltN_irrefl (a : ByteArray) : ltN a a = false := bytesLess_irrefl _
theorem ltN_trans {a b c : ByteArray} (h : ltN a b = true) (h' : ltN b c = true) : ltN a c = true := bytesLess_trans h h'
theorem ltN_total {a b : ByteArray} (h : ltN a b = false) (hne : a ≠ b) : ltN b a = true := bytesLess_total h fun he => hne (toList_inj he)
section
variable {α : Type}
def lk (l : List (ByteArray × α)) (s : ByteArray) : Option α := (l.find? fun x => decide (x.1 = s)).map (·.2)
def Sorted (l : List (ByteArray × α)) : Prop := l.Pairwise fun x y => ltN x.1 y.1 = true
def putF : List (ByteArray × α) → ByteArray → α → List (ByteArray × α)
  | [], s, v => [(s, v)]
  | (t, u) :: l, s, v => if t = s then (s, v) :: l else if ltN s t = true then (s, v) :: (t, u) :: l else (t, u) :: putF l s v
def delF (l : List (ByteArray × α)) (s : ByteArray) : List (ByteArray × α) := l.filter fun x => decide (x.1 ≠ s)
theorem lk_nil (s : ByteArray) : lk ([] : List (ByteArray × α)) s = none := rfl
theorem lk_cons (t : ByteArray) (u : α) (l : List (ByteArray × α)) (s : ByteArray) : lk ((t, u) :: l) s = if t = s then some u else lk l s := by
  unfold lk
  by_cases h : t = s <;> simp [List.find?_cons, h]
theorem lk_none_of_lt {l : List (ByteArray × α)} {s : ByteArray} (h : ∀ x ∈ l, ltN s x.1 = true) : lk l s = none := by
  induction l with
  | nil => rfl
  | cons x l ih =>
    obtain ⟨t, u⟩ := x
    rw [lk_cons]
    have h1 : ltN s t = true := h (t, u) (by simp)
    have h2 : t ≠ s := fun he => by rw [he, ltN_irrefl] at h1; cases h1
    rw [if_neg h2]
    exact ih fun x hx => h x (by simp [hx])
theorem lk_mem {l : List (ByteArray × α)} {s : ByteArray} {v : α} (h : lk l s = some v) : (s, v) ∈ l := by
  induction l with
  | nil => cases h
  | cons x l ih =>
    obtain ⟨t, u⟩ := x
    rw [lk_cons] at h
    split at h
    · rename_i he
      cases h; subst he; simp
    · exact List.mem_cons_of_mem _ (ih h)
theorem lk_put {l : List (ByteArray × α)} (s : ByteArray) (v : α) (t : ByteArray) (hs : Sorted l) : lk (putF l s v) t = if s = t then some v else lk l t := by
  induction l with
  | nil => rw [putF, lk_cons]
  | cons x l ih =>
    obtain ⟨a, u⟩ := x
    rw [Sorted, List.pairwise_cons] at hs
    unfold putF
    split
    · rename_i he
      subst he
      rw [lk_cons, lk_cons]
      split <;> rfl
    · rename_i hne
      split
      · rw [lk_cons]
      · rw [lk_cons, lk_cons, ih hs.2]
        by_cases h1 : a = t
        · subst h1
          simp [Ne.symm hne]
        · simp [h1]
theorem mem_put {l : List (ByteArray × α)} {s : ByteArray} {v : α} {x : ByteArray × α} (h : x ∈ putF l s v) : x = (s, v) ∨ x ∈ l := by
  induction l with
  | nil => simpa [putF] using h
  | cons y l ih =>
    obtain ⟨a, u⟩ := y
    unfold putF at h
    split at h
    · rcases List.mem_cons.1 h with h | h
      · exact .inl h
      · exact .inr (List.mem_cons_of_mem _ h)
    · split at h
      · rcases List.mem_cons.1 h with h | h
        · exact .inl h
        · exact .inr h
      · rcases List.mem_cons.1 h with h | h
        · exact .inr (by rw [h]; simp)
        · rcases ih h with h | h
          · exact .inl h
          · exact .inr (List.mem_cons_of_mem _ h)
theorem sorted_put {l : List (ByteArray × α)} (s : ByteArray) (v : α) (hs : Sorted l) : Sorted (putF l s v) := by
  induction l with
  | nil => simp [putF, Sorted]
  | cons x l ih =>
    obtain ⟨a, u⟩ := x
    rw [Sorted, List.pairwise_cons] at hs
    unfold putF
    split
    · rename_i he
      subst he
      exact List.pairwise_cons.2 ⟨hs.1, hs.2⟩
    · rename_i hne
      split
      · rename_i hlt
        refine List.pairwise_cons.2 ⟨fun y hy => ?_, List.pairwise_cons.2 ⟨hs.1, hs.2⟩⟩
        rcases List.mem_cons.1 hy with rfl | hy
        · exact hlt
        · exact ltN_trans hlt (hs.1 y hy)
      · rename_i hlt
        refine List.pairwise_cons.2 ⟨fun y hy => ?_, ih hs.2⟩
        rcases mem_put hy with rfl | hy
        · exact ltN_total (by simpa using hlt) (Ne.symm hne)
        · exact hs.1 y hy
theorem sorted_ext {l m : List (ByteArray × α)} (hl : Sorted l) (hm : Sorted m) (h : ∀ s, lk l s = lk m s) : l = m := by
  induction l generalizing m with
  | nil =>
    cases m with
    | nil => rfl
    | cons y m =>
      have := h y.1
      rw [lk_nil, lk_cons, if_pos rfl] at this
      cases this
  | cons x l ih =>
    cases m with
    | nil =>
      have := h x.1
      rw [lk_nil, lk_cons, if_pos rfl] at this
      cases this
    | cons y m =>
      obtain ⟨a, u⟩ := x
      obtain ⟨b, v⟩ := y
      rw [Sorted, List.pairwise_cons] at hl hm
      have hab : a = b := by
        by_cases he : a = b
        · exact he
        have h1 := h a
        have h2 := h b
        rw [lk_cons, if_pos rfl, lk_cons, if_neg (Ne.symm he)] at h1
        rw [lk_cons, if_neg he, lk_cons, if_pos rfl] at h2
        have h3 := hm.1 _ (lk_mem h1.symm)
        have h4 := hl.1 _ (lk_mem h2)
        have := ltN_trans h3 h4
        rw [ltN_irrefl] at this; cases this
      subst hab
      have h1 := h a
      rw [lk_cons, if_pos rfl, lk_cons, if_pos rfl] at h1
      cases h1
      rw [ih hl.2 hm.2 fun s => ?_]
      have h2 := h s
      rw [lk_cons, lk_cons] at h2
      by_cases he : a = s
      · subst he
        rw [lk_none_of_lt hl.1, lk_none_of_lt hm.1]
      · rwa [if_neg he, if_neg he] at h2
end
def sizeF (l : List (ByteArray × List Cel)) : Nat := (l.map fun x => x.2.length).sum
structure Dk where
  room : Int
  fuse : Int
  files : List (ByteArray × List Cel)
def Cel.Fine (c : Cel) : Prop := c.read.length = 128 ∧ c.durable.length = 128 ∧ c.synced.length = 128 ∧ c.written.length = 128
def z128 : List Int := List.replicate 128 0
def Cel.zero : Cel := ⟨z128, z128, z128, z128, false⟩
structure Dk.Fine (A : Dk) : Prop where
  sorted : Sorted A.files
  named : ∀ x ∈ A.files, namedB x.1 = true ∧ x.2 ≠ []
  cels : ∀ x ∈ A.files, ∀ c ∈ x.2, c.Fine
  room : 0 ≤ A.room ∧ A.room ≤ 100000
  fuse : -1 ≤ A.fuse ∧ A.fuse ≤ 9223372036854775807
  fits : sizeF A.files ≤ A.room
def Dk.at (A : Dk) (s : ByteArray) : List Cel := (lk A.files s).getD []
def Dk.free (A : Dk) : Int := A.room - sizeF A.files
def Dk.burnt (A : Dk) : Dk := { A with fuse := (burnI A.fuse).1 }
def Dk.goes (A : Dk) : Bool := (burnI A.fuse).2
def Dk.set (A : Dk) (s : ByteArray) (l : List Cel) : Dk := { A with files := putF A.files s l }
def Cel.wrote (c : Cel) (b : List Int) : Cel := { c with read := b, written := b, waits := true }
def Cel.syncd (c : Cel) : Cel := if c.waits then ⟨c.written, c.written, c.written, c.written, false⟩ else c
def Dk.write (A : Dk) (s : ByteArray) (i : Int) (b : List Int) : Int × Dk :=
  if namedB s = false ∨ b.length ≠ 128 ∨ i < 0 ∨ (A.at s).length < i then (1, A)
  else if A.goes = false then (31, A.burnt)
  else if i = (A.at s).length ∧ A.free ≤ 0 then (4, A.burnt)
  else if i = (A.at s).length then (0, A.burnt.set s (A.at s ++ [Cel.zero.wrote b]))
  else (0, A.burnt.set s ((A.at s).modify i.toNat fun c => c.wrote b))
def Dk.sync (A : Dk) (s : ByteArray) : Int × Dk :=
  match lk A.files s with
  | none => (30, A)
  | some l => if A.goes = false then (31, A.burnt) else (0, A.burnt.set s (l.map Cel.syncd))
def Dk.remove (A : Dk) (s : ByteArray) : Int × Dk :=
  match lk A.files s with
  | none => (30, A)
  | some _ => if A.goes = false then (31, A.burnt) else (0, { A.burnt with files := delF A.files s })
def Dk.cel (A : Dk) (s : ByteArray) (i : Int) : Option Cel := if 0 ≤ i then (A.at s)[i.toNat]? else none
end Go.Proofs.YtnpinegpajbkeaaDoor
namespace Go.Proofs.YtnpinegpajbkeaaDoor
open Go.RowKit
def OnlyN (Q : Exit → Act → World → Prop) : Exit → Act → World → Prop
  | .normal, a, w => Q .normal a w
  | _, _, _ => False
theorem OnlyN.imp {Q : Exit → Act → World → Prop} : ∀ (e : Exit) (a : Act) (w : World), OnlyN Q e a w → Q e a w := fun e a w h => by
  cases e <;> first | exact h | exact (h : False).elim
section
variable {P : Program} {ops : Array Oper} {Q : Exit → Act → World → Prop} {R : Nat → World → World → Prop}
def waitsB (ops : Array Oper) (i : Nat) : Nat → Nat → Bool
  | 0, _ => false
  | fuel + 1, d => match ops[d]? with
    | some o => o.after.any fun e => Region.binds .any e && (e.on == i || waitsB ops i fuel e.on)
    | none => false
def closedB (ops : Array Oper) (l : Array Bool) : Bool :=
  (List.range ops.size).all fun j => !l.getD j false || match ops[j]? with
    | some o => o.after.all fun e => !Region.binds .any e || l.getD e.on false
    | none => true
def Closed (ops : Array Oper) (l : Array Bool) : Prop :=
  ∀ j oj, ops[j]? = some oj → l.getD j false = true → ∀ e ∈ oj.after, Region.binds .any e = true → l.getD e.on false = true
theorem closedB_spec {l : Array Bool} (h : closedB ops l = true) : Closed ops l := by
  intro j oj hj hl e he hb
  have hlt : j < ops.size := (Array.getElem?_eq_some_iff.1 hj).1
  have h1 := List.all_eq_true.1 h j (List.mem_range.2 hlt)
  simp only [hl, hj, Bool.not_true, Bool.false_or] at h1
  have h2 := Array.all_eq_true_iff_forall_mem.1 h1 e he
  simpa [hb] using h2
theorem Closed.set {l : Array Bool} {i : Nat} (h : Closed ops l) (hi : i ∈ Region.ready .any ops l) : Closed ops (l.setIfInBounds i true) := by
  obtain ⟨_, oi, hoi, hall⟩ := mem_ready.1 hi
  intro j oj hj hl e he hb
  by_cases hij : i = j
  · subst hij
    have : oj = oi := Option.some.inj (hj.symm.trans hoi)
    subst this
    exact getD_set_true (hall e he hb)
  · rw [getD_set_ne false hij] at hl
    exact getD_set_true (h j oj hj hl e he hb)
theorem waits_listed {l : Array Bool} {i : Nat} (hc : Closed ops l) : ∀ (fuel d : Nat), waitsB ops i fuel d = true → l.getD d false = true → l.getD i false = true
  | 0, _, h, _ => by simp [waitsB] at h
  | fuel + 1, d, h, hl => by
    unfold waitsB at h
    cases ho : ops[d]? with
    | none => rw [ho] at h; simp at h
    | some o =>
      rw [ho] at h
      obtain ⟨e, he, h1⟩ := Array.any_eq_true'.1 h
      simp only [Bool.and_eq_true, Bool.or_eq_true, beq_iff_eq] at h1
      have hle := hc d o ho hl e he h1.1
      rcases h1.2 with h2 | h2
      · rw [← h2]; exact hle
      · exact waits_listed hc fuel e.on h2 hle
theorem waits_not_ready {l : Array Bool} {i d fuel : Nat} (hc : Closed ops l) (hr : waitsB ops i fuel d = true) (hun : l.getD i true = false) : d ∉ Region.ready .any ops l := by
  intro hd
  obtain ⟨_, o, ho, hall⟩ := mem_ready.1 hd
  have hi : l.getD i false = true := by
    cases fuel with
    | zero => simp [waitsB] at hr
    | succ n =>
      unfold waitsB at hr
      rw [ho] at hr
      obtain ⟨e, he, h1⟩ := Array.any_eq_true'.1 hr
      simp only [Bool.and_eq_true, Bool.or_eq_true, beq_iff_eq] at h1
      have hle := hall e he h1.1
      rcases h1.2 with h2 | h2
      · rw [← h2]; exact hle
      · exact waits_listed hc n e.on h2 hle
  rcases Nat.lt_or_ge i l.size with h' | h'
  · simp [h'] at hun hi
    rw [hun] at hi
    cases hi
  · simp [Array.getElem?_eq_none h'] at hun
def wpR (P : Program) (ops : Array Oper) (Q : Exit → Act → World → Prop) (R : Nat → World → World → Prop) : Nat → Array Bool → Act → World → Prop
  | 0, l, a, w => Region.ready .any ops l = [] ∧ Q .normal a w
  | n + 1, l, a, w =>
    (Region.ready .any ops l = [] → Q .normal a w) ∧
    ∀ i ∈ Region.ready .any ops l, wpOp P ops Q i (fun a' w' => R i w w' ∧ wpR P ops Q R n (l.setIfInBounds i true) a' w') a w
theorem wpAny_of_R : ∀ (n : Nat) (l : Array Bool) (a : Act) (w : World), wpR P ops Q R n l a w → wpAny P .any ops Q n l a w
  | 0, _, _, _, h => h
  | n + 1, _, _, _, h => ⟨h.1, fun i hi => wpOp_mono (fun a' w' h' => wpAny_of_R n _ a' w' h'.2) (h.2 i hi)⟩
theorem wpR_first {C : World → Prop} {i : Nat} {oi : Oper} {v : Value} (hi : ops[i]? = some oi) (hsel : ∀ (j : Nat) (o : Oper) cs b, ops[j]? = some o → o.op ≠ .select cs b)
    (hQ : ∀ c a w, ¬ Q (.panic c) a w) (hRi : ∀ w, R i w w) (N : Nat) :
    ∀ (n : Nat) (l : Array Bool) (a : Act) (w : World),
      (∀ j oj, ops[j]? = some oj → j ≠ i → l.getD j true = false → (∀ e ∈ oj.after, Region.binds .any e = true → e.on ≠ i) → oi.apart ops oj = true) →
      Closed ops l → (∀ j, l.getD j true = false → j ≠ i → waitsB ops i N j = false → ∀ w w', C w → R j w w' → C w') →
      i ∈ Region.ready .any ops l → YieldsIf P ops C oi v a → C w →
      wpR P ops Q R n (l.setIfInBounds i true) (a.put oi.dst v) w → wpR P ops Q R (n + 1) l a w := by
  intro n
  induction n with
  | zero =>
    intro l a w _ _ _ hr hy hC H
    refine ⟨fun h => (by rw [h] at hr; cases hr), fun j hj => ?_⟩
    by_cases hji : j = i
    · subst hji; exact hy.wpOp hi hC ⟨hRi w, H⟩
    · have := ready_mono hj hji
      rw [H.1] at this
      cases this
  | succ n ih =>
    intro l a w hfree hc hkeep hr hy hC H
    refine ⟨fun h => (by rw [h] at hr; cases hr), fun j hj => ?_⟩
    by_cases hji : j = i
    · subst hji; exact hy.wpOp hi hC ⟨hRi w, H⟩
    · have h1 := H.2 j (ready_mono hj hji)
      obtain ⟨hjun, oj, hoj, hall⟩ := mem_ready.1 hj
      have hiun := (mem_ready.1 hr).1
      have hnot : ∀ e ∈ oj.after, Region.binds .any e = true → e.on ≠ i := fun e he hb heq => by
        have h1 := hall e he hb
        rw [heq] at h1
        rcases Nat.lt_or_ge i l.size with h' | h'
        · simp [h'] at hiun h1; rw [hiun] at h1; cases h1
        · simp [Array.getElem?_eq_none h'] at h1
      have hnw : waitsB ops i N j = false := by
        cases hw : waitsB ops i N j with
        | false => rfl
        | true => exact absurd hj (waits_not_ready hc hw hiun)
      have h2 := wpOp_putIf hoj (hfree j oj hoj hji hjun hnot) (fun cs b => hsel i oi cs b hi) (fun cs b => hsel j oj cs b hoj) (fun c a w h => absurd h (hQ c _ w)) hy h1
      have hfree' : ∀ k ok, ops[k]? = some ok → k ≠ i → (l.setIfInBounds j true).getD k true = false →
          (∀ e ∈ ok.after, Region.binds .any e = true → e.on ≠ i) → oi.apart ops ok = true := fun k ok hk hki hun hno => by
        refine hfree k ok hk hki ?_ hno
        by_cases hjk : j = k
        · subst hjk; exact hjun
        · rw [getD_set_ne true hjk] at hun; exact hun
      have hkeep' : ∀ k, (l.setIfInBounds j true).getD k true = false → k ≠ i → waitsB ops i N k = false → ∀ w w', C w → R k w w' → C w' := fun k hun hki hw => by
        refine hkeep k ?_ hki hw
        by_cases hjk : j = k
        · subst hjk; exact hjun
        · rw [getD_set_ne true hjk] at hun; exact hun
      refine wpOp_mono (fun a' w' h3 => ⟨h3.2.1, ih (l.setIfInBounds j true) a' w' hfree' (hc.set hj) hkeep' (ready_mono hr (Ne.symm hji)) h3.1 (hkeep j hjun hji hnw _ _ hC h3.2.1) ?_⟩) h2
      rw [Array.setIfInBounds_comm _ _ hji]
      exact h3.2.2
theorem wpR_done {l : Array Bool} {a : Act} {w : World} (hr : (Region.ready .any ops l == []) = true) (h : Q .normal a w) : ∀ n, wpR P ops Q R n l a w
  | 0 => ⟨by simpa using hr, h⟩
  | _ + 1 => ⟨fun _ => h, by rw [show Region.ready .any ops l = [] by simpa using hr]; simp⟩
def RR (effs keeps : List Nat) (T : World → Prop) (i : Nat) (w w' : World) : Prop :=
  if effs.contains i then (if keeps.contains i then T w → T w' else True) else w' = w
theorem RR_self (effs keeps : List Nat) (T : World → Prop) {i : Nat} (w : World) : RR effs keeps T i w w := by
  unfold RR
  split
  · split
    · exact id
    · trivial
  · rfl
def readB (ops : Array Oper) (effs : List Nat) (l l' : Array Bool) (i : Nat) : Bool :=
  Region.noSelect ops && Region.free .any ops l i && (Region.ready .any ops l).contains i && closedB ops l && effs.all (fun d => d == i || l.getD d true || waitsB ops i ops.size d) && (l.setIfInBounds i true == l')
theorem wpR_read {effs keeps : List Nat} {T : World → Prop} {i : Nat} {oi : Oper} {v : Value} {n : Nat} {l : Array Bool} {a : Act} {w : World} (l' : Array Bool) (hi : ops[i]? = some oi)
    (hQ : ∀ c a w, ¬ Q (.panic c) a w) (hc : readB ops effs l l' i = true)
    (hy : (Region.wanted oi (yielded ops a.tmps) = true ∧ (execOp a.eval oi).run P w = .ok (.value v) w) ∨ (Region.wanted oi (yielded ops a.tmps) = false ∧ v = undef))
    (h : wpR P ops Q (RR effs keeps T) n l' (a.put oi.dst v) w) : wpR P ops Q (RR effs keeps T) (n + 1) l a w := by
  simp only [readB, Bool.and_eq_true, beq_iff_eq] at hc
  obtain ⟨⟨⟨⟨⟨h1, h2⟩, h3⟩, h4⟩, h5⟩, h6⟩ := hc
  subst h6
  refine wpR_first (C := fun w' => w' = w) hi (Region.noSelect_spec h1) hQ (RR_self _ _ _) ops.size n l a w (Region.free_spec hi h2) (closedB_spec h4) ?_ (by simpa using h3) ?_ rfl h
  · rintro j hj hji hw w1 w2 rfl hR
    unfold RR at hR
    split at hR
    · rename_i hm
      have := List.all_eq_true.1 h5 j (by simpa using hm)
      rw [hj, hw] at this
      simp [hji] at this
    · exact hR
  · rcases hy with ⟨hw, hv⟩ | ⟨hw, hv⟩
    · exact .inl ⟨hw, fun w' e => by subst e; exact hv⟩
    · exact .inr ⟨hw, hv⟩
def heldB (ops : Array Oper) (effs keeps : List Nat) (l l' : Array Bool) (i : Nat) : Bool :=
  Region.noSelect ops && Region.free .any ops l i && (Region.ready .any ops l).contains i && closedB ops l && effs.all (fun d => d == i || l.getD d true || keeps.contains d || waitsB ops i ops.size d) && (l.setIfInBounds i true == l')
theorem wpR_held {effs keeps : List Nat} {T : World → Prop} {i : Nat} {oi : Oper} {v : Value} {n : Nat} {l : Array Bool} {a : Act} {w : World} (l' : Array Bool) (hi : ops[i]? = some oi)
    (hQ : ∀ c a w, ¬ Q (.panic c) a w) (hc : heldB ops effs keeps l l' i = true) (hT : T w)
    (hy : (Region.wanted oi (yielded ops a.tmps) = true ∧ ∀ w', T w' → (execOp a.eval oi).run P w' = .ok (.value v) w') ∨ (Region.wanted oi (yielded ops a.tmps) = false ∧ v = undef))
    (h : wpR P ops Q (RR effs keeps T) n l' (a.put oi.dst v) w) : wpR P ops Q (RR effs keeps T) (n + 1) l a w := by
  simp only [heldB, Bool.and_eq_true, beq_iff_eq] at hc
  obtain ⟨⟨⟨⟨⟨h1, h2⟩, h3⟩, h4⟩, h5⟩, h6⟩ := hc
  subst h6
  refine wpR_first (C := T) hi (Region.noSelect_spec h1) hQ (RR_self _ _ _) ops.size n l a w (Region.free_spec hi h2) (closedB_spec h4) ?_ (by simpa using h3) hy hT h
  rintro j hj hji hw w1 w2 hT1 hR
  unfold RR at hR
  split at hR
  · rename_i hm
    split at hR
    · exact hR hT1
    · rename_i hk
      have := List.all_eq_true.1 h5 j (by simpa using hm)
      rw [hj, hw] at this
      simp [hji] at this
      exact absurd (by simpa using this) hk
  · rw [hR]; exact hT1
def oneB (ops : Array Oper) (effs : List Nat) (l l' : Array Bool) (i : Nat) : Bool := (Region.ready .any ops l == [i]) && effs.contains i && (l.setIfInBounds i true == l')
theorem wpR_eff {effs keeps : List Nat} {T : World → Prop} {i : Nat} {oi : Oper} {n : Nat} {l : Array Bool} {a : Act} {w : World} (l' : Array Bool) (hi : ops[i]? = some oi) (hc : (oneB ops effs l l' i && !keeps.contains i) = true)
    (h : ∀ K : Act → World → Prop, (∀ a' w', wpR P ops Q (RR effs keeps T) n l' a' w' → K a' w') → if Region.wanted oi (yielded ops a.tmps) = true then Oper.wp P oi a w K Q else K (a.put oi.dst undef) w) :
    wpR P ops Q (RR effs keeps T) (n + 1) l a w := by
  simp only [oneB, Bool.and_eq_true, beq_iff_eq] at hc
  obtain ⟨⟨⟨h1, h2⟩, h3⟩, h4⟩ := hc
  subst h3
  refine ⟨fun h0 => (by rw [h0] at h1; cases h1), fun j hj => ?_⟩
  rw [h1] at hj
  obtain rfl : j = i := by simpa using hj
  refine wpOp_step hi fun K hK => h K fun a' w' h' => hK a' w' ⟨?_, h'⟩
  unfold RR
  rw [if_pos h2, if_neg (by simpa using h4)]
  trivial
theorem wpR_keep {effs keeps : List Nat} {T : World → Prop} {i : Nat} {oi : Oper} {n : Nat} {l : Array Bool} {a : Act} {w : World} (l' : Array Bool) (hi : ops[i]? = some oi) (hc : oneB ops effs l l' i = true)
    (h : ∀ K : Act → World → Prop, (∀ a' w', T w' → wpR P ops Q (RR effs keeps T) n l' a' w' → K a' w') → if Region.wanted oi (yielded ops a.tmps) = true then Oper.wp P oi a w K Q else K (a.put oi.dst undef) w) :
    wpR P ops Q (RR effs keeps T) (n + 1) l a w := by
  simp only [oneB, Bool.and_eq_true, beq_iff_eq] at hc
  obtain ⟨⟨h1, h2⟩, h3⟩ := hc
  subst h3
  refine ⟨fun h0 => (by rw [h0] at h1; cases h1), fun j hj => ?_⟩
  rw [h1] at hj
  obtain rfl : j = i := by simpa using hj
  refine wpOp_step hi fun K hK => h K fun a' w' hT h' => hK a' w' ⟨?_, h'⟩
  unfold RR
  rw [if_pos h2]
  split
  · exact fun _ => hT
  · trivial
theorem region_R {id n : Nat} {a : Act} {w : World} (effs keeps : List Nat) (T : World → Prop) (l : Array Bool) (hm : P.follows .mixedOrders = true) (hn : ops.size = n) (hl : Array.replicate n false = l)
    (h : wpR P ops (OnlyN Q) (RR effs keeps T) n l a w.drew) : (Code.region id ops true).wp P Q a w := by
  subst hn
  subst hl
  exact Code.wp_mono OnlyN.imp (wp_region_any hm (wpAny_of_R _ _ _ _ h))
def noDefer (ops : Array Oper) : Bool := ops.all fun o => match o.op with | .defer _ => false | _ => true
theorem wpR_rd {effs keeps : List Nat} {T : World → Prop} (i : Nat) {oi : Oper} {n : Nat} {l : Array Bool} {a : Act} {w : World} (l' : Array Bool) (hi : ops[i]? = some oi)
    (hQ : ∀ c a w, ¬ Q (.panic c) a w) (hc : readB ops effs l l' i = true)
    (h : ∀ K : Act → Prop, (∀ a', wpR P ops Q (RR effs keeps T) n l' a' w → K a') → if Region.wanted oi (yielded ops a.tmps) then (∃ v, (execOp a.eval oi).run P w = .ok (.value v) w ∧ K (a.put oi.dst v)) else K (a.put oi.dst undef)) :
    wpR P ops Q (RR effs keeps T) (n + 1) l a w := by
  have h1 := h _ (fun _ h => h)
  by_cases hw : Region.wanted oi (yielded ops a.tmps) = true
  · rw [if_pos hw] at h1
    obtain ⟨v, hv, hk⟩ := h1
    exact wpR_read l' hi hQ hc (.inl ⟨hw, hv⟩) hk
  · rw [if_neg hw] at h1
    exact wpR_read l' hi hQ hc (.inr ⟨by simpa using hw, rfl⟩) h1
def pureB (ops : Array Oper) (l l' : Array Bool) (i : Nat) : Bool :=
  Region.noSelect ops && Region.free .any ops l i && (Region.ready .any ops l).contains i && closedB ops l && (l.setIfInBounds i true == l')
theorem wpR_pu {effs keeps : List Nat} {T : World → Prop} (i : Nat) {oi : Oper} {n : Nat} {l : Array Bool} {a : Act} {w : World} (l' : Array Bool) (hi : ops[i]? = some oi)
    (hQ : ∀ c a w, ¬ Q (.panic c) a w) (hc : pureB ops l l' i = true)
    (h : ∀ K : Act → Prop, (∀ a', wpR P ops Q (RR effs keeps T) n l' a' w → K a') → if Region.wanted oi (yielded ops a.tmps) then (∃ v, (∀ w', (execOp a.eval oi).run P w' = .ok (.value v) w') ∧ K (a.put oi.dst v)) else K (a.put oi.dst undef)) :
    wpR P ops Q (RR effs keeps T) (n + 1) l a w := by
  simp only [pureB, Bool.and_eq_true, beq_iff_eq] at hc
  obtain ⟨⟨⟨⟨h1, h2⟩, h3⟩, h4⟩, h6⟩ := hc
  subst h6
  have hh := h _ (fun _ h => h)
  by_cases hw : Region.wanted oi (yielded ops a.tmps) = true
  · rw [if_pos hw] at hh
    obtain ⟨v, hv, hk⟩ := hh
    exact wpR_first (C := fun _ => True) hi (Region.noSelect_spec h1) hQ (RR_self _ _ _) ops.size n l a w (Region.free_spec hi h2) (closedB_spec h4) (fun _ _ _ _ _ _ _ _ => trivial) (by simpa using h3) (.inl ⟨hw, fun w' _ => hv w'⟩) trivial hk
  · rw [if_neg hw] at hh
    exact wpR_first (C := fun _ => True) hi (Region.noSelect_spec h1) hQ (RR_self _ _ _) ops.size n l a w (Region.free_spec hi h2) (closedB_spec h4) (fun _ _ _ _ _ _ _ _ => trivial) (by simpa using h3) (.inr ⟨by simpa using hw, rfl⟩) trivial hh
theorem onlyN_noPanic : ∀ c a w, ¬ OnlyN Q (.panic c) a w := fun _ _ _ h => h
end
end Go.Proofs.YtnpinegpajbkeaaDoor
namespace Go.Proofs.YtnpinegpajbkeaaDoor
open Go.RowKit HP
def HP.dk (d : Nat) (room fuse : Int) (m : Nat) (es : Array MapEntry) (clock : Nat) (fs : List Fil) : HP := HP.dsk d room fuse m * (HP.pt m (.map es clock) * HP.all (fs.map HP.fil))
theorem lookup_file {E : Env} {q : HP} {w : World} {d : Nat} {room fuse : Int} {m : Nat} {es : Array MapEntry} {clock : Nat} {fs : List Fil} (hm : MapOf es clock fs) (hw : Sat E w (HP.dk d room fuse m es clock fs * q)) (name : ByteArray) (hn : name.size ≤ maxLen) :
    (fs.find? (fun f => decide (f.name = name)) = none ∧ (Instr.lookup 36 (.map (some m)) (.string name) false).run Tryd.prog w = .ok (.slice none 0 0) w ∧ (Instr.lookup 36 (.map (some m)) (.string name) true).run Tryd.prog w = .ok (.tuple #[.slice none 0 0, .bool false]) w) ∨
    ∃ (j : Nat) (f : Fil), fs[j]? = some f ∧ f.name = name ∧ fs.find? (fun f => decide (f.name = name)) = some f ∧ (Instr.lookup 36 (.map (some m)) (.string name) false).run Tryd.prog w = .ok f.val w ∧ (Instr.lookup 36 (.map (some m)) (.string name) true).run Tryd.prog w = .ok (.tuple #[f.val, .bool true]) w := by
  have hb : w.heap[m]? = some (.map es clock) := by
    have h1 : Sat E w (HP.pt m (.map es clock) * (HP.dsk d room fuse m * (HP.all (fs.map HP.fil) * q))) := hw.perm (by unfold HP.dk; ac_rfl)
    exact h1.get
  rcases lookup_str (P := Tryd.prog) (t := 36) Tryd.underlying9 Tryd.underlying36 (zero_cells w) hb hm.1 name hn with ⟨h1, h2, h3⟩ | ⟨j, x, h1, h2, h3, h4⟩
  · refine .inl ⟨?_, h1, h2⟩
    rw [List.find?_eq_none]
    intro f hf he
    simp only [decide_eq_true_eq] at he
    have hmem : (Value.string f.name, f.val) ∈ fs.map (fun f => (Value.string f.name, f.val)) := List.mem_map.2 ⟨f, hf, rfl⟩
    rw [← hm.2.1] at hmem
    obtain ⟨x, hx, hxe⟩ := List.mem_map.1 hmem
    simp only [Prod.mk.injEq] at hxe
    exact h3 x hx (by rw [hxe.1, he])
  · have hj : (es.toList.map (fun x => (x.key, x.val)))[j]? = some (x.key, x.val) := by rw [List.getElem?_map, h1]; rfl
    rw [hm.2.1, List.getElem?_map] at hj
    obtain ⟨f, hf, hfe⟩ := Option.map_eq_some_iff.1 hj
    simp only [Prod.mk.injEq] at hfe
    have hname : f.name = name := by
      have := hfe.1.trans h2
      injection this
    refine .inr ⟨j, f, hf, hname, ?_, by rw [hfe.2]; exact h3, by rw [hfe.2]; exact h4⟩
    rw [← hname]
    exact find_at hm.2.2.1 hf
def celAt (fs : List Fil) (name : ByteArray) (i : Int) : Option (Nat × Cel) :=
  match fs.find? (fun f => decide (f.name = name)) with
  | none => none
  | some f => if 0 ≤ i ∧ i < f.cels.length then f.cels[i.toNat]? else none
def Good (fs : List Fil) : Prop := ∀ f ∈ fs, ∀ x ∈ f.cels, x.2.read.length = 128 ∧ x.2.durable.length = 128 ∧ x.2.synced.length = 128 ∧ x.2.written.length = 128
end Go.Proofs.YtnpinegpajbkeaaDoor
namespace Go.Proofs.YtnpinegpajbkeaaDoor
open Go.RowKit HP
def aggD : TypeDesc → Bool
  | .struct _ => true
  | .array _ _ => true
  | _ => false
structure AgTy (P : Program) (ty : TypeId) (n : Nat) : Prop where
  under : ∃ d, P.underlying ty = some d ∧ aggD d = true
  info : (P.info? ty).map (·.size) = some n
section
variable {P : Program} {w : World} {ty : TypeId} {n : Nat}
theorem run_isAgg (T : AgTy P ty n) (w : World) : (isAgg ty).run P w = .ok true w := by
  obtain ⟨d, hu, hd⟩ := T.under
  unfold isAgg
  rw [Sem.run_bind, run_underlying hu w]
  cases d <;> simp_all [aggD]
theorem run_sizeOf' (T : AgTy P ty n) (w : World) : (sizeOf ty).run P w = .ok n w := by
  have h := T.info
  cases hq : P.info? ty with
  | none => simp [hq] at h
  | some i =>
    have hs : i.size = n := by simpa [hq] using h
    simp [sizeOf, typeInfo, hq, hs]
theorem run_loadAgg (T : AgTy P ty n) {a : Addr} {cs : List Value} (hl : cs.length = n) (hc : Cells w (some a) cs) : (loadVar ty a).run P w = .ok (.agg cs.toArray) w := by
  have hl' : (loadCells a cs.length).run P w = .ok cs.toArray w := run_loadCells_list (P := P) w a cs (fun j v hv => hc.some_ j v hv)
  rw [hl] at hl'
  simp [loadVar, Sem.run_bind, run_isAgg T, run_sizeOf' T, hl']
def splice (l : List Value) (off : Nat) (cs : List Value) : List Value := l.take off ++ cs ++ l.drop (off + cs.length)
theorem Sat.splice {E : Env} {q : HP} {g : Nat} {t : TypeId} {cur : Array Value} (h : Sat E w (pt g (.cells cur t) * q)) (l : List Value) : Sat E (w.setRow g l.toArray) (pt g (.cells l.toArray t) * q) :=
  h.turn ⟨rfl, rfl, rfl, by simp⟩ (setRow_heap w g cur _ t _ h.get) (fun k hk _ => setRow_other w g k _ hk)
end
section
variable {E : Env} {q : HP} {w : World} {b : Nat} {c : Cel}
end
end Go.Proofs.YtnpinegpajbkeaaDoor
namespace Go.Proofs.YtnpinegpajbkeaaDoor
open Go.RowKit HP
section
variable {P : Program} {t k e : TypeId} {w : World} {b : Nat} {es : Array MapEntry} {clock : Nat}
def putE (es : Array MapEntry) (clock : Nat) (s : ByteArray) (v : Value) : Array MapEntry × Nat :=
  match es.toList.findIdx? (fun x => match x.key with | .string t => decide (t = s) | _ => false) with
  | some j => (es.modify j fun e => { e with key := .string s, val := v }, clock)
  | none => (es.push ⟨.string s, v, clock⟩, clock + 1)
end
theorem MapOf.set {es : Array MapEntry} {clock : Nat} {fs : List Fil} (h : MapOf es clock fs) {j : Nat} {f f' : Fil} (hj : fs[j]? = some f) (hn : f'.name = f.name) :
    MapOf (es.modify j fun e => { e with key := .string f.name, val := f'.val }) clock (fs.set j f') := by
  obtain ⟨h1, h2, h3, h4, h5⟩ := h
  have hjl : j < fs.length := (List.getElem?_eq_some_iff.1 hj).1
  have hel : es.toList.length = fs.length := by simpa using congrArg List.length h2
  have hje : j < es.toList.length := by omega
  have hej : es.toList[j]? = some es.toList[j] := List.getElem?_eq_getElem hje
  have hkv : ((es.toList[j]).key, (es.toList[j]).val) = (Value.string f.name, f.val) := by
    have := congrArg (fun l => l[j]?) h2
    simp only [List.getElem?_map, hj, hej, Option.map_some, Option.some.injEq] at this
    exact this
  have hmod : (es.modify j fun e => { e with key := Value.string f.name, val := f'.val }).toList = es.toList.set j ⟨.string f.name, f'.val, (es.toList[j]).born⟩ := by
    rw [Array.toList_modify]
    apply List.ext_getElem?
    intro i
    simp only [List.getElem?_modify, List.getElem?_set]
    by_cases hij : j = i
    · subst hij; simp [hej]; simpa using hje
    · simp [hij]
  have hmem : ∀ x ∈ es.toList.set j ⟨.string f.name, f'.val, (es.toList[j]).born⟩, x ∈ es.toList ∨ x = ⟨.string f.name, f'.val, (es.toList[j]).born⟩ := fun x hx => List.mem_or_eq_of_mem_set hx
  obtain ⟨s0, hs0, hl0⟩ := h1 _ (List.getElem_mem hje)
  have hs : s0 = f.name := by
    have := congrArg Prod.fst hkv
    simp only at this
    rw [hs0] at this
    injection this
  refine ⟨?_, ?_, ?_, ?_, ?_⟩
  · intro x hx
    rw [hmod] at hx
    rcases hmem x hx with hx | rfl
    · exact h1 x hx
    · exact ⟨f.name, rfl, hs ▸ hl0⟩
  · rw [hmod, List.map_set, List.map_set, h2, hn]
  · rw [List.map_set, hn]
    have : (fs.map (·.name)).set j f.name = fs.map (·.name) := by
      apply List.ext_getElem?
      intro i
      rw [List.getElem?_set]
      by_cases hij : j = i
      · subst hij; simp [hj]; simpa using hjl
      · simp [hij]
    rw [this]; exact h3
  · intro x hx
    rw [hmod] at hx
    rcases hmem x hx with hx | rfl
    · exact h4 x hx
    · show (es.toList[j]).born < clock
      exact h4 _ (List.getElem_mem hje)
  · rw [hmod, List.map_set]
    have : (es.toList.map (·.born)).set j (es.toList[j]).born = es.toList.map (·.born) := by
      apply List.ext_getElem?
      intro i
      rw [List.getElem?_set]
      by_cases hij : j = i
      · subst hij; simp [hej]; simpa using hje
      · simp [hij]
    rw [this]; exact h5
theorem MapOf.push {es : Array MapEntry} {clock : Nat} {fs : List Fil} (h : MapOf es clock fs) {f : Fil} (hn : ∀ x ∈ fs, x.name ≠ f.name) (hl : f.name.size ≤ maxLen) :
    MapOf (es.push ⟨.string f.name, f.val, clock⟩) (clock + 1) (fs ++ [f]) := by
  obtain ⟨h1, h2, h3, h4, h5⟩ := h
  refine ⟨?_, ?_, ?_, ?_, ?_⟩
  · intro x hx
    simp only [Array.toList_push, List.mem_append, List.mem_singleton] at hx
    rcases hx with hx | rfl
    · exact h1 x hx
    · exact ⟨f.name, rfl, hl⟩
  · simp [Array.toList_push, h2]
  · rw [List.map_append, List.nodup_append]
    refine ⟨h3, by simp, ?_⟩
    intro a ha b hb
    obtain ⟨x, hx, rfl⟩ := List.mem_map.1 ha
    simp only [List.map_cons, List.map_nil, List.mem_singleton] at hb
    subst hb
    exact hn x hx
  · intro x hx
    simp only [Array.toList_push, List.mem_append, List.mem_singleton] at hx
    rcases hx with hx | rfl
    · exact Nat.lt_succ_of_lt (h4 x hx)
    · exact Nat.lt_succ_self _
  · rw [Array.toList_push, List.map_append, List.nodup_append]
    refine ⟨h5, by simp, ?_⟩
    intro a ha b hb
    obtain ⟨x, hx, rfl⟩ := List.mem_map.1 ha
    simp only [List.map_cons, List.map_nil, List.mem_singleton] at hb
    subst hb
    exact Nat.ne_of_lt (h4 x hx)
end Go.Proofs.YtnpinegpajbkeaaDoor
namespace Go.Proofs.YtnpinegpajbkeaaDoor
open Go.RowKit HP
def readPost (E : Env) (q : HP) (r : Option (Nat × Cel)) (e : Ending) (w' : World) : Prop :=
  match r with
  | none => e = .returned (.tuple #[.slice none 0 0, .int .i64 30]) ∧ Sat E w' q
  | some x => ∃ v, e = .returned (.tuple #[v, .int .i64 0]) ∧ Sat E w' (HP.row 5 1 v 128 (b8s x.2.read) * q)
def valLen : Value → Nat
  | .slice _ n _ => n
  | _ => 0
def sumLen (L : List MapEntry) : Nat := (L.map fun x => valLen x.val).sum
def leftL (es : Array MapEntry) (seen : Array Nat) : List MapEntry := es.toList.filter fun x => !seen.contains x.born
def total (fs : List Fil) : Nat := (fs.map fun f => f.cels.length).sum
end Go.Proofs.YtnpinegpajbkeaaDoor
namespace Go.Proofs.YtnpinegpajbkeaaDoor
open Go.RowKit HP
def Fil.cs (f : Fil) : List Cel := f.cels.map (·.2)
def lkF (fs : List Fil) (s : ByteArray) : Option (List Cel) := (fs.find? fun f => decide (f.name = s)).map Fil.cs
structure View (A : Dk) (es : Array MapEntry) (clock : Nat) (fs : List Fil) : Prop where
  map : MapOf es clock fs
  same : ∀ s, lkF fs s = lk A.files s
  fine : A.Fine
def HP.disk (d : Nat) (A : Dk) : HP := HP.ex fun x : Nat × Array MapEntry × Nat × List Fil => HP.fact (View A x.2.1 x.2.2.1 x.2.2.2) * HP.dk d A.room A.fuse x.1 x.2.1 x.2.2.1 x.2.2.2
section
variable {E : Env} {q : HP} {w : World} {d m : Nat} {A : Dk} {es : Array MapEntry} {clock : Nat} {fs : List Fil}
theorem Sat.disk_open (h : Sat E w (HP.disk d A * q)) : ∃ m es clock fs, View A es clock fs ∧ Sat E w (HP.dk d A.room A.fuse m es clock fs * q) := by
  obtain ⟨⟨m, es, clock, fs⟩, h⟩ := h.ex_elim
  obtain ⟨hv, h⟩ := (h.perm (HP.mul_assoc _ _ _)).fact_elim
  exact ⟨m, es, clock, fs, hv, h⟩
theorem Sat.disk_close (hv : View A es clock fs) (h : Sat E w (HP.dk d A.room A.fuse m es clock fs * q)) : Sat E w (HP.disk d A * q) := by
  refine Sat.ex_intro (m, es, clock, fs) ?_
  exact (Sat.fact_intro hv h).perm (HP.mul_assoc _ _ _).symm
theorem Sat.disk_fine (h : Sat E w (HP.disk d A * q)) : A.Fine := by
  obtain ⟨m, es, clock, fs, hv, -⟩ := h.disk_open
  exact hv.fine
end
theorem lkF_at {fs : List Fil} (hn : (fs.map (·.name)).Nodup) {j : Nat} {f : Fil} (h : fs[j]? = some f) : lkF fs f.name = some f.cs := by
  unfold lkF
  rw [find_at hn h]; rfl
theorem lkF_none {fs : List Fil} {s : ByteArray} (h : lkF fs s = none) : ∀ f ∈ fs, f.name ≠ s := by
  intro f hf he
  unfold lkF at h
  rw [Option.map_eq_none_iff, List.find?_eq_none] at h
  have := h f hf
  simp [he] at this
theorem find_set {fs : List Fil} (hn : (fs.map (·.name)).Nodup) {j : Nat} {f f' : Fil} (h : fs[j]? = some f) (he : f'.name = f.name) (s : ByteArray) :
    (fs.set j f').find? (fun x => decide (x.name = s)) = if f.name = s then some f' else fs.find? (fun x => decide (x.name = s)) := by
  induction fs generalizing j with
  | nil => simp at h
  | cons g fs ih =>
    simp only [List.map_cons, List.nodup_cons] at hn
    cases j with
    | zero =>
      simp only [List.getElem?_cons_zero, Option.some.injEq] at h
      subst h
      rw [List.set_cons_zero, List.find?_cons, List.find?_cons]
      by_cases hs : g.name = s
      · simp [he, hs]
      · simp [he, hs]
    | succ j =>
      simp only [List.getElem?_cons_succ] at h
      rw [List.set_cons_succ, List.find?_cons, List.find?_cons, ih hn.2 h]
      have hm : f ∈ fs := List.mem_of_getElem? h
      by_cases hs : g.name = s
      · have : f.name ≠ s := fun h2 => hn.1 (by rw [hs, ← h2]; exact List.mem_map.2 ⟨f, hm, rfl⟩)
        simp [hs, this]
      · simp [hs]
theorem lkF_set {fs : List Fil} (hn : (fs.map (·.name)).Nodup) {j : Nat} {f f' : Fil} (h : fs[j]? = some f) (he : f'.name = f.name) (s : ByteArray) :
    lkF (fs.set j f') s = if f.name = s then some f'.cs else lkF fs s := by
  unfold lkF
  rw [find_set hn h he]
  split <;> rfl
theorem lkF_push {fs : List Fil} {f : Fil} (hn : ∀ x ∈ fs, x.name ≠ f.name) (s : ByteArray) : lkF (fs ++ [f]) s = if f.name = s then some f.cs else lkF fs s := by
  unfold lkF
  rw [List.find?_append]
  by_cases hs : f.name = s
  · have : fs.find? (fun x => decide (x.name = s)) = none := by
      rw [List.find?_eq_none]
      intro x hx
      simp only [decide_eq_true_eq]
      exact fun h => hn x hx (h.trans hs.symm)
    rw [this]
    simp [hs]
  · simp [hs]
def sortF (fs : List Fil) : List (ByteArray × List Cel) := fs.foldr (fun f l => putF l f.name f.cs) []
theorem sortF_sorted (fs : List Fil) : Sorted (sortF fs) := by
  induction fs with
  | nil => exact List.Pairwise.nil
  | cons f fs ih => exact sorted_put _ _ ih
theorem sortF_lk (fs : List Fil) (s : ByteArray) : lk (sortF fs) s = lkF fs s := by
  induction fs with
  | nil => rfl
  | cons f fs ih =>
    show lk (putF (sortF fs) f.name f.cs) s = _
    rw [lk_put _ _ _ (sortF_sorted fs), ih]
    unfold lkF
    rw [List.find?_cons]
    by_cases hs : f.name = s <;> simp [hs]
theorem sizeF_put {l : List (ByteArray × List Cel)} (hs : Sorted l) (s : ByteArray) (v : List Cel) : sizeF (putF l s v) + ((lk l s).getD []).length = sizeF l + v.length := by
  induction l with
  | nil => simp [putF, sizeF, lk]
  | cons x l ih =>
    obtain ⟨a, u⟩ := x
    have hs' := hs
    rw [Sorted, List.pairwise_cons] at hs
    unfold putF
    rw [lk_cons]
    split
    · simp only [sizeF, List.map_cons, List.sum_cons, Option.getD_some]
      omega
    · rename_i hne
      split
      · rename_i hlt
        have : lk l s = none := lk_none_of_lt fun y hy => ltN_trans hlt (hs.1 y hy)
        rw [this]
        simp only [sizeF, List.map_cons, List.sum_cons, Option.getD_none, List.length_nil]
        omega
      · have := ih hs.2
        simp only [sizeF, List.map_cons, List.sum_cons] at this ⊢
        omega
theorem sortF_size {fs : List Fil} (hn : (fs.map (·.name)).Nodup) : sizeF (sortF fs) = total fs := by
  induction fs with
  | nil => rfl
  | cons f fs ih =>
    simp only [List.map_cons, List.nodup_cons] at hn
    have h1 := sizeF_put (sortF_sorted fs) f.name f.cs
    have h2 : lk (sortF fs) f.name = none := by
      rw [sortF_lk]
      unfold lkF
      rw [Option.map_eq_none_iff, List.find?_eq_none]
      intro x hx
      simp only [decide_eq_true_eq]
      exact fun h => hn.1 (by rw [← h]; exact List.mem_map.2 ⟨x, hx, rfl⟩)
    rw [h2] at h1
    show sizeF (putF (sortF fs) f.name f.cs) = _
    have h3 := ih hn.2
    simp only [Option.getD_none, List.length_nil, Fil.cs, List.length_map] at h1
    simp only [total, List.map_cons, List.sum_cons] at h3 ⊢
    unfold Fil.cs
    omega
section
variable {A : Dk} {es : Array MapEntry} {clock : Nat} {fs : List Fil}
theorem View.files (h : View A es clock fs) : sortF fs = A.files := sorted_ext (sortF_sorted fs) h.fine.sorted fun s => by rw [sortF_lk, h.same]
theorem View.total (h : View A es clock fs) : total fs = sizeF A.files := by rw [← h.files, sortF_size h.map.2.2.1]
theorem View.mem (h : View A es clock fs) {f : Fil} (hf : f ∈ fs) : (f.name, f.cs) ∈ A.files := by
  obtain ⟨j, hj⟩ := List.getElem?_of_mem hf
  exact lk_mem (by rw [← h.same, lkF_at h.map.2.2.1 hj])
theorem View.nodup (h : View A es clock fs) : (fs.map (·.name)).Nodup := h.map.2.2.1
theorem View.fuel (h : View A es clock fs) (n : Int) (hn : -1 ≤ n ∧ n ≤ 9223372036854775807) : View { A with fuse := n } es clock fs :=
  ⟨h.map, h.same, ⟨h.fine.sorted, h.fine.named, h.fine.cels, h.fine.room, hn, h.fine.fits⟩⟩
theorem View.burnt (h : View A es clock fs) : View A.burnt es clock fs := h.fuel _ (by
  have := h.fine.fuse
  unfold burnI
  split <;> simp <;> omega)
theorem Dk.Fine.set (h : A.Fine) {s : ByteArray} {l : List Cel} (hs : namedB s = true) (hl : l ≠ []) (hc : ∀ c ∈ l, c.Fine) (hz : sizeF (putF A.files s l) ≤ A.room) : (A.set s l).Fine :=
  ⟨sorted_put _ _ h.sorted, fun x hx => by
    rcases mem_put hx with rfl | hx
    · exact ⟨hs, hl⟩
    · exact h.named x hx, fun x hx => by
    rcases mem_put hx with rfl | hx
    · exact hc
    · exact h.cels x hx, h.room, h.fuse, hz⟩
theorem View.set (h : View A es clock fs) {j : Nat} {f : Fil} (hj : fs[j]? = some f) {v : Value} {cels : List (Nat × Cel)} (hl : cels ≠ []) (hc : ∀ x ∈ cels, x.2.Fine) (hz : sizeF A.files + cels.length ≤ A.room + f.cels.length) :
    View (A.set f.name (cels.map (·.2))) (es.modify j fun e => { e with key := .string f.name, val := v }) clock (fs.set j ⟨f.name, v, cels⟩) := by
  have hlk : lk A.files f.name = some f.cs := by rw [← h.same, lkF_at h.nodup hj]
  refine ⟨h.map.set (f' := ⟨f.name, v, cels⟩) hj rfl, fun s => ?_, h.fine.set (h.fine.named _ (h.mem (List.mem_of_getElem? hj))).1 (by simpa using hl) (fun c hcm => ?_) ?_⟩
  · rw [lkF_set (f' := ⟨f.name, v, cels⟩) h.nodup hj rfl]
    show _ = lk (putF A.files f.name _) s
    rw [lk_put _ _ _ h.fine.sorted, h.same]
    rfl
  · obtain ⟨x, hx, rfl⟩ := List.mem_map.1 hcm
    exact hc x hx
  · have := sizeF_put h.fine.sorted f.name (cels.map (·.2))
    rw [hlk] at this
    simp only [Option.getD_some, Fil.cs, List.length_map] at this
    omega
theorem View.push (h : View A es clock fs) {s : ByteArray} (hs : namedB s = true) (hn : lk A.files s = none) {v : Value} {cels : List (Nat × Cel)} (hl : cels ≠ []) (hc : ∀ x ∈ cels, x.2.Fine) (hz : sizeF A.files + cels.length ≤ A.room) (hsz : s.size ≤ maxLen) :
    View (A.set s (cels.map (·.2))) (es.push ⟨.string s, v, clock⟩) (clock + 1) (fs ++ [⟨s, v, cels⟩]) := by
  have hno : ∀ x ∈ fs, x.name ≠ s := lkF_none (by rw [h.same, hn])
  refine ⟨h.map.push (f := ⟨s, v, cels⟩) hno hsz, fun t => ?_, h.fine.set hs (by simpa using hl) (fun c hcm => ?_) ?_⟩
  · rw [lkF_push (f := ⟨s, v, cels⟩) hno]
    show _ = lk (putF A.files s _) t
    rw [lk_put _ _ _ h.fine.sorted, h.same]
    rfl
  · obtain ⟨x, hx, rfl⟩ := List.mem_map.1 hcm
    exact hc x hx
  · have := sizeF_put h.fine.sorted s (cels.map (·.2))
    rw [hn] at this
    simp only [Option.getD_none, List.length_nil, List.length_map] at this
    omega
end
end Go.Proofs.YtnpinegpajbkeaaDoor
namespace Go.Proofs.YtnpinegpajbkeaaDoor
open Go.RowKit HP
theorem val_slice {E : Env} {q : HP} {w : World} {d : Nat} {room fuse : Int} {m : Nat} {es : Array MapEntry} {clock : Nat} {fs : List Fil} (hw : Sat E w (HP.dk d room fuse m es clock fs * q)) {f : Fil} (hf : f ∈ fs) : ∃ A c, f.val = .slice A f.cels.length c := by
  obtain ⟨j, hj⟩ := List.getElem?_of_mem hf
  have h1 : Sat E w (HP.all (fs.map HP.fil) * (HP.dsk d room fuse m * (HP.pt m (.map es clock) * q))) := hw.perm (by unfold HP.dk; ac_rfl)
  rw [all_take (l := fs.map HP.fil) (j := j) (p := HP.fil f) (by rw [List.getElem?_map, hj]; rfl)] at h1
  have h2 : Sat E w (HP.row 110 1 f.val f.cels.length f.ptrs * (HP.all (f.cels.map fun x => HP.cel x.1 x.2) * (HP.all ((fs.map HP.fil).eraseIdx j) * (HP.dsk d room fuse m * (HP.pt m (.map es clock) * q))))) := h1.perm (by unfold HP.fil; ac_rfl)
  obtain ⟨A, c, hv, -, -⟩ := h2.row_slice
  exact ⟨A, c, hv⟩
theorem le_sum_mem {l : List Nat} {n : Nat} (h : n ∈ l) : n ≤ l.sum := by
  induction l with
  | nil => cases h
  | cons x l ih =>
    rw [List.sum_cons]
    rcases List.mem_cons.1 h with rfl | h
    · omega
    · have := ih h; omega
theorem find_file {E : Env} {q : HP} {w : World} {d : Nat} {m : Nat} {A : Dk} {es : Array MapEntry} {clock : Nat} {fs : List Fil} (hv : View A es clock fs) (hw : Sat E w (HP.dk d A.room A.fuse m es clock fs * q)) (name : ByteArray) (hn : name.size ≤ maxLen) :
    ∃ (v : Value) (B : Option Addr) (c : Nat), v = .slice B (A.at name).length c ∧ (Instr.lookup 36 (.map (some m)) (.string name) false).run Tryd.prog w = .ok v w ∧ (Instr.lookup 36 (.map (some m)) (.string name) true).run Tryd.prog w = .ok (.tuple #[v, .bool (lk A.files name).isSome]) w ∧
      ((lk A.files name = none ∧ v = .slice none 0 0) ∨ ∃ (j : Nat) (f : Fil), fs[j]? = some f ∧ f.name = name ∧ f.val = v ∧ lk A.files name = some f.cs) := by
  rcases lookup_file hv.map hw name hn with ⟨h1, h2, h3⟩ | ⟨j, f, hj, hname, hf, h2, h3⟩
  · have hlk : lk A.files name = none := by rw [← hv.same]; unfold lkF; rw [h1]; rfl
    refine ⟨_, none, 0, ?_, h2, ?_, .inl ⟨hlk, rfl⟩⟩
    · simp [Dk.at, hlk]
    · rw [hlk]; exact h3
  · have hlk : lk A.files name = some f.cs := by rw [← hv.same]; unfold lkF; rw [hf]; rfl
    obtain ⟨B, c, hvl⟩ := val_slice hw (List.mem_of_getElem? hj)
    refine ⟨f.val, B, c, ?_, h2, ?_, .inr ⟨j, f, hj, hname, rfl, hlk⟩⟩
    · simp [Dk.at, hlk, hvl, Fil.cs]
    · rw [hlk]; exact h3
theorem dk_parts {E : Env} {q : HP} {w : World} {d m : Nat} {room fuse : Int} {es : Array MapEntry} {clock : Nat} {fs : List Fil} (h : Sat E w (HP.dk d room fuse m es clock fs * q)) :
    Sat E w (HP.dsk d room fuse m * (HP.pt m (.map es clock) * (HP.all (fs.map HP.fil) * q))) := h.perm (by unfold HP.dk; ac_rfl)
theorem at_le {A : Dk} (h : A.Fine) (s : ByteArray) : (A.at s).length ≤ sizeF A.files := by
  unfold Dk.at
  cases hl : lk A.files s with
  | none => simp
  | some l =>
    have hm := lk_mem hl
    simp only [Option.getD_some, sizeF]
    exact le_sum_mem (List.mem_map.2 ⟨_, hm, rfl⟩)
theorem at_small {A : Dk} (h : A.Fine) (s : ByteArray) : (A.at s).length ≤ 100000 := by
  have h1 := at_le h s
  have h2 := h.fits
  have h3 := h.room
  omega
theorem exec_load {P : Program} {o : Oper} {a : Act} {w : World} {ty : TypeId} {p : Operand} {adr : Addr} {V : Value} (ho : o.op = .load ty p) (hp : a.eval p = .pointer (some adr)) (hr : (loadVar ty adr).run P w = .ok V w) : (execOp a.eval o).run P w = .ok (.value V) w := by
  unfold execOp
  simp only [ho, hp, Instr.loadAt, Instr.sureAddr, Sem.run_bind, Sem.run_pure, Result.andThen_ok, hr]
def places : Array (Nat × Nat) := #[(0, 128), (128, 128), (256, 128), (384, 128), (512, 1)]
def HP.cels (l : List (Nat × Cel)) : HP := HP.all (l.map fun x => HP.cel x.1 x.2)
def celPtrs (l : List (Nat × Cel)) : List Value := l.map fun x => .pointer (some ⟨x.1, 0, none⟩)
def syncPre (l : List (Nat × Cel)) (k : Nat) : List (Nat × Cel) := (l.take k).map (fun x => (x.1, x.2.syncd)) ++ l.drop k
end Go.Proofs.YtnpinegpajbkeaaDoor
