/- Assertions over a heap: parts of memory that belong to nobody else, and what becomes of them under the world's own steps. -/
import Derived.WalkKit
import Derived.KernelRfl
import Derived.Deep.Draws
namespace Go.Proofs.Ytgdcdcacccaanaa
open Go.RowKit
set_option linter.unusedSimpArgs false
set_option linter.unusedVariables false

/-- What a world has beside its memory and its tape's place; and how many blocks there are at least. -/
structure Env where
  os : Os
  tape : Nat → Question → Nat
  output : Array (Nat × ByteArray)
  low : Nat
def envOf (w : World) : Env := ⟨w.os, w.tape, w.output, w.heap.size⟩
structure Env.Fits (E : Env) (w : World) : Prop where
  os : w.os = E.os
  tape : w.tape = E.tape
  output : w.output = E.output
  low : E.low ≤ w.heap.size
/-- w' goes on from w. -/
structure Goes (w w' : World) : Prop where
  os : w'.os = w.os
  tape : w'.tape = w.tape
  output : w'.output = w.output
  size : w.heap.size ≤ w'.heap.size
theorem Env.Fits.goes {E : Env} {w w' : World} (h : E.Fits w) (g : Goes w w') : E.Fits w' := ⟨g.os.trans h.os, g.tape.trans h.tape, g.output.trans h.output, Nat.le_trans h.low g.size⟩

def HP := (Nat → Option Obj) → Prop
namespace HP
def sep (p q : HP) : HP := fun h => ∃ h1 h2 : Nat → Option Obj, (∀ b, h1 b = none ∨ h2 b = none) ∧ (∀ b, h b = (h1 b).or (h2 b)) ∧ p h1 ∧ q h2
instance : Mul HP := ⟨sep⟩
def emp : HP := fun h => ∀ b, h b = none
def pt (b : Nat) (o : Obj) : HP := fun h => ∀ k, h k = if k = b then some o else none
/-- A fact beside. -/
def fact (φ : Prop) : HP := fun h => φ ∧ ∀ b, h b = none
def ex {α : Type} (p : α → HP) : HP := fun h => ∃ x, p x h
def all : List HP → HP
  | [] => emp
  | p :: l => p * all l

theorem mul_def (p q : HP) : p * q = sep p q := rfl
theorem mul_comm (p q : HP) : p * q = q * p := by
  have key : ∀ (p q : HP) h, (p * q) h → (q * p) h := by
    rintro p q h ⟨h1, h2, hd, hu, hp, hq⟩
    refine ⟨h2, h1, fun b => (hd b).symm, fun b => ?_, hq, hp⟩
    rw [hu b]
    rcases hd b with e | e <;> rw [e] <;> simp
  funext h
  exact propext ⟨key p q h, key q p h⟩
theorem mul_assoc (p q r : HP) : p * q * r = p * (q * r) := by
  funext h
  refine propext ⟨?_, ?_⟩
  · rintro ⟨h12, h3, hd, hu, ⟨h1, h2, hd', hu', hp, hq⟩, hr⟩
    refine ⟨h1, fun b => (h2 b).or (h3 b), fun b => ?_, fun b => ?_, hp, ⟨h2, h3, fun b => ?_, fun _ => rfl, hq, hr⟩⟩
    · have hb := hd b; rw [hu' b] at hb
      rcases hd' b with e | e <;> rcases hb with e' | e' <;> simp_all
    · rw [hu b, hu' b, Option.or_assoc]
    · have hb := hd b; rw [hu' b] at hb
      rcases hb with e' | e'
      · exact .inl (Option.or_eq_none_iff.1 e').2
      · exact .inr e'
  · rintro ⟨h1, h23, hd, hu, hp, ⟨h2, h3, hd', hu', hq, hr⟩⟩
    refine ⟨fun b => (h1 b).or (h2 b), h3, fun b => ?_, fun b => ?_, ⟨h1, h2, fun b => ?_, fun _ => rfl, hp, hq⟩, hr⟩
    · have hb := hd b; rw [hu' b] at hb
      rcases hd' b with e | e <;> rcases hb with e' | e' <;> simp_all
    · rw [hu b, hu' b, Option.or_assoc]
    · have hb := hd b; rw [hu' b] at hb
      rcases hb with e' | e'
      · exact .inl e'
      · exact .inr (Option.or_eq_none_iff.1 e').1
instance : Std.Associative (α := HP) (· * ·) := ⟨mul_assoc⟩
instance : Std.Commutative (α := HP) (· * ·) := ⟨mul_comm⟩
theorem emp_mul (p : HP) : emp * p = p := by
  funext h
  refine propext ⟨?_, fun hp => ⟨fun _ => none, h, fun _ => .inl rfl, fun _ => by simp, fun _ => rfl, hp⟩⟩
  rintro ⟨h1, h2, _, hu, he, hp⟩
  have : h = h2 := by funext b; rw [hu b, he b]; simp
  rw [this]; exact hp
theorem mul_emp (p : HP) : p * emp = p := by rw [mul_comm, emp_mul]
theorem left_comm (p q r : HP) : p * (q * r) = q * (p * r) := by rw [← mul_assoc, mul_comm p q, mul_assoc]
theorem all_append (l m : List HP) : all (l ++ m) = all l * all m := by
  induction l with
  | nil => simp [all, emp_mul]
  | cons p l ih => simp only [List.cons_append, all, ih, mul_assoc]
theorem all_cons (p : HP) (l : List HP) : all (p :: l) = p * all l := rfl
theorem all_nil : all [] = emp := rfl
end HP
open HP

/-- In the world's memory lies what p says, and perhaps more; the rest of the world is E. -/
structure Sat (E : Env) (w : World) (p : HP) : Prop where
  env : E.Fits w
  heap : ∃ h : Nat → Option Obj, (∀ b o, h b = some o → w.heap[b]? = some o) ∧ p h

namespace Sat
variable {E : Env} {w w' : World} {p q r : HP}

theorem mono (h : Sat E w p) (hpq : ∀ k, p k → q k) : Sat E w q := ⟨h.env, h.heap.imp fun _ hk => ⟨hk.1, hpq _ hk.2⟩⟩
theorem perm (h : Sat E w p) (e : p = q) : Sat E w q := e ▸ h
theorem left (h : Sat E w (p * q)) : Sat E w p := by
  obtain ⟨he, k, hk, h1, h2, hd, hu, hp, hq⟩ := h
  exact ⟨he, h1, fun b o hb => hk b o (by rw [hu b, hb]; rfl), hp⟩
theorem right (h : Sat E w (p * q)) : Sat E w q := left (h.perm (mul_comm p q))
theorem of_mul_mono {p' : HP} (h : Sat E w (p * q)) (hp : ∀ k, p k → p' k) : Sat E w (p' * q) :=
  h.mono fun _ ⟨h1, h2, hd, hu, a, b⟩ => ⟨h1, h2, hd, hu, hp _ a, b⟩
theorem s2 {a b : HP} (h : Sat E w (a * (b * q))) : Sat E w (b * (a * q)) := h.perm (left_comm a b q)
theorem s3 {a b c : HP} (h : Sat E w (a * (b * (c * q)))) : Sat E w (c * (a * (b * q))) := h.perm (by ac_rfl)
theorem s4 {a b c d : HP} (h : Sat E w (a * (b * (c * (d * q))))) : Sat E w (d * (a * (b * (c * q)))) := h.perm (by ac_rfl)
theorem s5 {a b c d e : HP} (h : Sat E w (a * (b * (c * (d * (e * q)))))) : Sat E w (e * (a * (b * (c * (d * q))))) := h.perm (by ac_rfl)
theorem s6 {a b c d e f : HP} (h : Sat E w (a * (b * (c * (d * (e * (f * q))))))) : Sat E w (f * (a * (b * (c * (d * (e * q)))))) := h.perm (by ac_rfl)
theorem ex_elim {α : Type} {f : α → HP} (h : Sat E w (HP.ex f * q)) : ∃ x, Sat E w (f x * q) := by
  obtain ⟨he, k, hk, h1, h2, hd, hu, ⟨x, hx⟩, hq⟩ := h
  exact ⟨x, he, k, hk, h1, h2, hd, hu, hx, hq⟩
theorem ex_intro {α : Type} {f : α → HP} (x : α) (h : Sat E w (f x * q)) : Sat E w (HP.ex f * q) := h.of_mul_mono fun _ hk => ⟨x, hk⟩
theorem fact_elim {φ : Prop} (h : Sat E w (HP.fact φ * q)) : φ ∧ Sat E w q := by
  refine ⟨?_, h.right⟩
  obtain ⟨he, k, hk, h1, h2, hd, hu, ⟨hx, _⟩, hq⟩ := h
  exact hx
theorem fact_intro {φ : Prop} (hφ : φ) (h : Sat E w q) : Sat E w (HP.fact φ * q) := by
  obtain ⟨he, k, hk, hq⟩ := h
  exact ⟨he, k, hk, fun _ => none, k, fun _ => .inl rfl, fun _ => by simp, ⟨hφ, fun _ => rfl⟩, hq⟩
theorem emp_intro (h : Sat E w q) : Sat E w (HP.emp * q) := by rw [emp_mul]; exact h
theorem nothing : Sat (envOf w) w HP.emp := ⟨⟨rfl, rfl, rfl, Nat.le_refl _⟩, fun _ => none, fun _ _ h => (by cases h), fun _ => rfl⟩

/-- A block that is named lies there. -/
theorem get {b : Nat} {o : Obj} (h : Sat E w (pt b o * q)) : w.heap[b]? = some o := by
  obtain ⟨he, k, hk, h1, h2, hd, hu, hp, hq⟩ := h
  exact hk b o (by rw [hu b, hp b]; simp)
theorem lt {b : Nat} {o : Obj} (h : Sat E w (pt b o * q)) : b < w.heap.size := (Array.getElem?_eq_some_iff.1 h.get).1
theorem cell {b : Nat} {c : Array Value} {t : TypeId} {fr : Nat × Nat} (h : Sat E w (pt b (.cells c t fr) * q)) (i : Nat) : w.cell? ⟨b, i, none⟩ = c[i]? := by
  simp [World.cell?, h.get]
theorem cell1 {b : Nat} {v : Value} {t : TypeId} {fr : Nat × Nat} (h : Sat E w (pt b (.cells #[v] t fr) * q)) : w.cell? ⟨b, 0, none⟩ = some v := by rw [h.cell]; rfl
theorem thaw {b : Nat} {c : Array Value} {t : TypeId} (h : Sat E w (pt b (.cells c t) * q)) (i : Nat) : w.frozen? ⟨b, i, none⟩ = false := by
  simp [World.frozen?, h.get]
theorem ne {a b : Nat} {o u : Obj} (h : Sat E w (pt a o * (pt b u * q))) : a ≠ b := by
  obtain ⟨he, k, hk, h1, h2, hd, hu, hp, ⟨h3, h4, hd', hu', hq, _⟩⟩ := h
  rintro rfl
  have e1 : h1 a = some o := by rw [hp a]; simp
  have e2 : h2 a = some u := by rw [hu' a, hq a]; simp
  rcases hd a with e | e
  · rw [e1] at e; cases e
  · rw [e2] at e; cases e

/-- From one world to another in which the blocks that p speaks of are as they were. -/
theorem carry (h : Sat E w p) (he : Goes w w') (hb : ∀ k, k < w.heap.size → w'.heap[k]? = w.heap[k]?) : Sat E w' p := by
  obtain ⟨e, k, hk, hp⟩ := h
  exact ⟨e.goes he, k, fun b o hb' => by
    have h1 := hk b o hb'
    rw [hb b (Array.getElem?_eq_some_iff.1 h1).1]; exact h1, hp⟩
theorem drew (h : Sat E w p) : Sat E w.drew p := h.carry ⟨rfl, rfl, rfl, Nat.le_refl _⟩ fun _ _ => rfl
theorem drewN {n : Nat} (h : Sat E w p) : Sat E (w.drewN n) p := h.carry ⟨rfl, rfl, rfl, Nat.le_refl _⟩ fun _ _ => rfl
theorem below (h : Sat E w p) (hb : Below w.heap.size w w') : Sat E w' p := h.carry ⟨hb.os, hb.tape, hb.output, hb.size⟩ hb.block
/-- The world's own environment, and back. -/
theorem own_env (h : Sat E w p) : Sat (envOf w) w p := ⟨⟨rfl, rfl, rfl, Nat.le_refl _⟩, h.heap⟩
theorem back (h : Sat E w p) (h' : Sat (envOf w) w' q) : Sat E w' q :=
  ⟨⟨h'.env.os.trans h.env.os, h'.env.tape.trans h.env.tape, h'.env.output.trans h.env.output, Nat.le_trans h.env.low h'.env.low⟩, h'.heap⟩
theorem size_le (h' : Sat (envOf w) w' q) : w.heap.size ≤ w'.heap.size := h'.env.low

/-- A new block. -/
theorem alloc (h : Sat E w p) (o : Obj) : Sat E (w.alloc o) (pt w.heap.size o * p) := by
  obtain ⟨e, k, hk, hp⟩ := h
  have hn : k w.heap.size = none := by
    cases hks : k w.heap.size with
    | none => rfl
    | some u => have := (Array.getElem?_eq_some_iff.1 (hk _ _ hks)).1; omega
  refine ⟨e.goes ⟨rfl, rfl, rfl, by simp⟩, fun b => if b = w.heap.size then some o else k b, fun b u hb => ?_, fun b => if b = w.heap.size then some o else none, k, fun b => ?_, fun b => ?_, fun b => rfl, hp⟩
  · by_cases hbs : b = w.heap.size
    · subst hbs; simp at hb; subst hb; exact heap_alloc_new w o
    · simp [hbs] at hb
      have h1 := hk b u hb
      rw [heap_alloc_old w o (Array.getElem?_eq_some_iff.1 h1).1]; exact h1
  · by_cases hbs : b = w.heap.size
    · subst hbs; exact .inr hn
    · simp [hbs]
  · by_cases hbs : b = w.heap.size
    · subst hbs; simp
    · simp [hbs]

/-- A block is turned into another one. -/
theorem turn {b : Nat} {o o' : Obj} (h : Sat E w (pt b o * p)) (he : Goes w w') (hb : w'.heap[b]? = some o') (ho : ∀ k, k ≠ b → k < w.heap.size → w'.heap[k]? = w.heap[k]?) : Sat E w' (pt b o' * p) := by
  obtain ⟨e, k, hk, h1, h2, hd, hu, hp, hq⟩ := h
  have hn : h2 b = none := by
    rcases hd b with e1 | e1
    · rw [hp b] at e1; simp at e1
    · exact e1
  refine ⟨e.goes he, fun c => if c = b then some o' else k c, fun c u hc => ?_, fun c => if c = b then some o' else none, h2, fun c => ?_, fun c => ?_, fun c => rfl, hq⟩
  · by_cases hcb : c = b
    · subst hcb; simp at hc; subst hc; exact hb
    · simp [hcb] at hc
      have h3 := hk c u hc
      rw [ho c hcb (Array.getElem?_eq_some_iff.1 h3).1]; exact h3
  · by_cases hcb : c = b
    · subst hcb; exact .inr hn
    · simp [hcb]
  · by_cases hcb : c = b
    · subst hcb; simp
    · simp only [hcb, if_false]
      rw [hu c, hp c]; simp [hcb]

theorem set {b i : Nat} {c : Array Value} {t : TypeId} {fr : Nat × Nat} (h : Sat E w (pt b (.cells c t fr) * p)) (v : Value) : Sat E (w.setCell ⟨b, i, none⟩ v) (pt b (.cells (c.setIfInBounds i v) t fr) * p) := by
  refine h.turn ⟨rfl, rfl, rfl, by simp [World.setCell]⟩ ?_ fun k hk _ => Below.heap_setCell w ⟨b, i, none⟩ v k hk
  simp [World.setCell, Array.getElem?_modify, h.get]

theorem set1 {b : Nat} {u : Value} {t : TypeId} {fr : Nat × Nat} (h : Sat E w (pt b (.cells #[u] t fr) * p)) (v : Value) : Sat E (w.setCell ⟨b, 0, none⟩ v) (pt b (.cells #[v] t fr) * p) := h.set (i := 0) v

/-- Memory as it was: all of an elder world's blocks. -/
def _root_.Go.Proofs.Ytgdcdcacccaanaa.HP.old (w0 : World) : HP := fun h => ∀ b, h b = w0.heap[b]?
theorem start : Sat (envOf w) w (HP.old w) := ⟨⟨rfl, rfl, rfl, Nat.le_refl _⟩, fun b => w.heap[b]?, fun _ _ h => h, fun _ => rfl⟩
theorem old_block {w0 : World} (h : Sat E w (HP.old w0 * p)) (b : Nat) (hb : b < w0.heap.size) : w.heap[b]? = w0.heap[b]? := by
  obtain ⟨e, k, hk, h1, h2, hd, hu, hp, hq⟩ := h
  have h0 : w0.heap[b]? = some w0.heap[b] := Array.getElem?_eq_getElem hb
  rw [h0]
  exact hk b _ (by rw [hu b, hp b, h0]; rfl)
theorem old_below {w0 : World} (h : Sat (envOf w0) w (HP.old w0 * p)) : Below w0.heap.size w0 w := by
  exact ⟨h.env.os, h.env.tape, h.env.output, h.env.low, fun k hk => h.old_block k hk⟩
end Sat
end Go.Proofs.Ytgdcdcacccaanaa
