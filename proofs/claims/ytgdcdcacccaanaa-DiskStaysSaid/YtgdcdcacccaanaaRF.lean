/- A range over a function, in the words of assertions: what the body owns, what lies beside. -/
import Derived.Test.YtgdcdcacccaanaaFrame
import Derived.RangeFuncNested
import Derived.RangeFuncBound
import Derived.RangeFuncCalls
import Derived.RangeFuncLeaves
import Derived.RangeFuncBox
import Derived.TacticsIn
namespace Go.Proofs.Ytgdcdcacccaanaa
open Go.RowKit HP
set_option linter.unusedSimpArgs false
set_option linter.unusedVariables false

section
variable {E : Env} {w w' : World} {p q r : HP}
/-- The rest of the world's memory, exactly; what is no row of cells from B on is of the rest. -/
theorem Sat.exactB {B : Nat} (h : Sat E w (p * q)) (hc : Solid B p) : ∃ k, (∀ b o, k b = some o → w.heap[b]? = some o) ∧ Sat E w (p * HP.is k) ∧
    (∀ (E' : Env) w' p', Sat E' w' (p' * HP.is k) → Sat E' w' (p' * q)) ∧ (∀ b o, B ≤ b → w.heap[b]? = some o → o.isCells = false → k b = some o) := by
  obtain ⟨he, m, hm, h1, h2, hd, hu, hp, hq⟩ := h
  refine ⟨fun b => if h1 b = none then w.heap[b]? else none, fun b o hb => ?_, ?_, ?_, fun b o hB hb ho => ?_⟩
  · dsimp only at hb
    split at hb
    · exact hb
    · cases hb
  · refine ⟨he, fun b => w.heap[b]?, fun _ _ h => h, h1, _, fun b => ?_, fun b => ?_, hp, fun _ => rfl⟩
    · cases e : h1 b with
      | none => exact .inl rfl
      | some o => right; simp
    · cases e : h1 b with
      | none => simp
      | some o => simpa using hm b o (by rw [hu b, e]; rfl)
  · rintro E' w' p' ⟨he', m', hm', k1, k2, hd', hu', hp', hk2⟩
    refine ⟨he', fun b => (k1 b).or (h2 b), fun b o hb => ?_, k1, h2, fun b => ?_, fun _ => rfl, hp', hq⟩
    · rcases Option.or_eq_some_iff.1 hb with e | ⟨e0, e⟩
      · exact hm' b o (by rw [hu' b, e]; rfl)
      · refine hm' b o ?_
        have e1 : h1 b = none := by
          rcases hd b with e2 | e2
          · exact e2
          · rw [e] at e2; cases e2
        have e3 : k2 b = some o := by
          rw [hk2 b]; simp only [e1, if_true]
          exact hm b o (by rw [hu b, e1, e]; rfl)
        rw [hu' b, e0, e3]; rfl
    · cases e : h2 b with
      | none => exact .inr rfl
      | some o =>
        left
        have e1 : h1 b = none := by
          rcases hd b with e2 | e2
          · exact e2
          · rw [e] at e2; cases e2
        have e3 : k2 b = some o := by
          rw [hk2 b]; simp only [e1, if_true]
          exact hm b o (by rw [hu b, e1, e]; rfl)
        rcases hd' b with e2 | e2
        · exact e2
        · rw [e3] at e2; cases e2
  · cases e : h1 b with
    | none => simp [e, hb]
    | some u =>
      have h3 := hm b u (by rw [hu b, e]; rfl)
      rw [hb] at h3; cases h3
      rcases hc h1 hp b o e with h4 | h4
      · rw [ho] at h4; cases h4
      · omega
theorem Sat.keepsB {B : Nat} {k : Nat → Option Obj} (h : Sat E w' (r * HP.is k)) (hk : ∀ b o, B ≤ b → w.heap[b]? = some o → o.isCells = false → k b = some o) (hs : w.heap.size ≤ w'.heap.size) : KeepsFrom B w w' := by
  refine ⟨hs, fun b o hB hb ho => ?_⟩
  obtain ⟨he, m, hm, h1, h2, hd, hu, hp, hq⟩ := h
  have e : h2 b = some o := by rw [hq b]; exact hk b o hB hb ho
  refine hm b o ?_
  rw [hu b]
  rcases hd b with e1 | e1
  · rw [e1, e]; rfl
  · rw [e1] at e; cases e
/-- A block that nothing speaks of is told. -/
theorem Sat.grab {B D : Nat} {k : Nat → Option Obj} {o : Obj} (h : Sat E w (p * HP.is k)) (hp : Solid B p) (hk : ∀ b o, k b = some o → b < B) (hB : B ≤ D) (hD : w.heap[D]? = some o) (ho : o.isCells = false) : Sat E w (HP.pt D o * (p * HP.is k)) := by
  obtain ⟨he, m, hm, h1, h2, hd, hu, hp1, hq⟩ := h
  have e1 : h1 D = none := by
    cases e : h1 D with
    | none => rfl
    | some u =>
      have h3 := hm D u (by rw [hu D, e]; rfl)
      rw [hD] at h3; cases h3
      rcases hp h1 hp1 D _ e with h4 | h4
      · rw [ho] at h4; cases h4
      · omega
  have e2 : h2 D = none := by
    cases e : h2 D with
    | none => rfl
    | some u =>
      rw [hq D] at e
      have := hk D u e
      omega
  have eD : m D = none := by rw [hu D, e1, e2]; rfl
  refine ⟨he, fun b => if b = D then some o else m b, fun b u hb => ?_, fun b => if b = D then some o else none, m, fun b => ?_, fun b => ?_, fun b => rfl, h1, h2, hd, hu, hp1, hq⟩
  · by_cases hbD : b = D
    · subst hbD; simp at hb; subst hb; exact hD
    · simp [hbD] at hb; exact hm b u hb
  · by_cases hbD : b = D
    · subst hbD; exact .inr eD
    · simp [hbD]
  · by_cases hbD : b = D
    · subst hbD; simp
    · simp [hbD]
theorem HP.Solid.pt_below {B b : Nat} (h : b < B) (o : Obj) : Solid B (HP.pt b o) := by
  intro k hk c u hc
  rw [hk c] at hc
  split at hc
  · rename_i e; subst e; exact .inr h
  · cases hc
theorem HP.Solid.emp (B : Nat) : Solid B HP.emp := Celled.emp.solid B

/-- A block, and a slice's cells, are as they were. -/
def KeepSl (Bs : Nat) (A : Option Addr) (cs : List Value) (W W' : World) : Prop := W'.heap[Bs]? = W.heap[Bs]? ∧ (Cells W A cs → Cells W' A cs)
theorem KeepSl.refl {Bs : Nat} {A : Option Addr} {cs : List Value} (W : World) : KeepSl Bs A cs W W := ⟨rfl, id⟩
theorem KeepSl.trans {Bs : Nat} {A : Option Addr} {cs : List Value} {W X Y : World} (h : KeepSl Bs A cs W X) (k : KeepSl Bs A cs X Y) : KeepSl Bs A cs W Y := ⟨k.1.trans h.1, fun c => k.2 (h.2 c)⟩
theorem Cells.putObj {W : World} {A : Option Addr} {cs : List Value} (h : Cells W A cs) {l : Nat} {o : Obj} (hl : W.heap[l]? = some o) (ho : o.isCells = false) (o' : Obj) : Cells (W.putObj l o') A cs := fun j u hj => by
  obtain ⟨a, ha, hc⟩ := h j u hj
  refine ⟨a, ha, ?_⟩
  obtain ⟨g, i, e⟩ := addr_of_cell hc
  rw [e] at hc ⊢
  have hne : g ≠ l := by
    intro hgl
    subst hgl
    simp only [World.cell?, hl] at hc
    cases o <;> simp_all [Obj.isCells]
  rw [World.cell?_of_block (w := W) (putObj_heap_ne W l o' g hne)]
  exact hc
theorem KeepSl.put {Bs : Nat} {A : Option Addr} {cs : List Value} {W : World} {l : Nat} {o : Obj} (hb : Bs < l) (hl : W.heap[l]? = some o) (ho : o.isCells = false) (o' : Obj) : KeepSl Bs A cs W (W.putObj l o') :=
  ⟨putObj_heap_ne W l o' Bs (by omega), fun h => h.putObj hl ho o'⟩
/-- What is asked of a round's end. -/
def RoundPost (E : Env) (p : HP) : Exit → Act → World → Prop
  | .normal, _, W' => Sat E W' p
  | _, _, _ => False

/-- **A range over a function whose body always goes on**; the loop's variable may be a box of its own. -/
theorem wp_range_sat {α : Type} {P : Program} {g : Operand} {ps : Array Tmp} {assign body : Code} {Q : Exit → Act → World → Prop} {a : Act} {q : HP}
    {gf : Nat} {lb : Array Value} (hg : a.eval g = .func (.func gf) #[] lb) (eg : ∀ args w, (callFunc gf args).run P w = .ok (.enter gf args) w)
    {encs : α → Array Value} {S : List α → Prop} {N : Nat} {Kp : World → World → Prop} (hseq : SeqStopsK Fence.wide 19 P gf lb encs Kp S (fun _ => True) N w)
    (hKt : ∀ {A B C : World}, Kp A B → Kp B C → Kp A C) (hKb : ∀ (W : World) (l : Nat) (o o' : Obj), w.heap.size ≤ l → W.heap[l]? = some o → o.isCells = false → o.isWalk = false → Kp W (W.putObj l o')) (hKq : ∀ (E1 E2 : Env) W W' p p', Sat E1 W (p * q) → Sat E2 W' (p' * q) → Kp W W') (hps : ∀ x, (encs x).size = ps.size)
    (Pp : List α → HP) (hsol : ∀ pre, Solid w.heap.size (Pp pre)) (h0 : Sat E w (Pp [] * q))
    (Ax : α → Act → World → Prop) (hAx : ∀ x a', OwnFrom w.heap.size (fun (_ : Unit) W => Ax x a' W))
    (hassign : ∀ (l : Nat) (x : α) (W : World) (K : Act → World → Prop), w.heap.size ≤ W.heap.size → (∀ a' W', Below W.heap.size W W' → Ax x a' W' → K a' W') →
      assign.wpIn (Fence.wide.inRound l) 18 P (Exit.then K (fun _ _ _ => False)) { tmps := (ps.zip (encs x)).foldl (fun t (p, v) => t.setIfInBounds p v) a.tmps, defers := [] } W)
    (hbody : ∀ (E' : Env) (q' : HP) (l : Nat) (pre : List α) (x : α) (a' : Act) (W : World), (∀ W p, Sat E' W (p * q') → Sat E' W (p * q)) → Sat E' W (Pp pre * q') → Ax x a' W → pre.length < N →
      body.wpIn (Fence.wide.inRound l) 18 P (RoundPost E' (Pp (pre ++ [x]) * q')) a' W)
    (hdone : ∀ (D : Nat) (xs : List α) (W : World), S xs → Sat E W (HP.pt D (.deferred (some [])) * (Pp xs * q)) → Q .normal { a with defers := { target := .collected D, args := #[] } :: a.defers } W) :
    (Code.rangeFunc g ps assign body).wp P Q a w := by
  refine (wpIn_wide (n := 20)).1 ?_
  obtain ⟨k, hk, hS, hback, -⟩ := h0.own_env.exactB (hsol [])
  have hklt : ∀ b o, k b = some o → b < w.heap.size := fun b o ho => (Array.getElem?_eq_some_iff.1 (hk b o ho)).1
  have hsolid : ∀ pre, Solid w.heap.size (Pp pre * HP.is k) := fun pre => (hsol pre).mul (Solid.is hklt)
  have hbox : ∀ {E1 E2 : Env} {W W' : World} {p p' : HP}, Sat E1 W (p * HP.is k) → Sat E2 W' (p' * HP.is k) → Kp W W' := fun h1 h2 => hKq _ _ _ _ _ _ (hback _ _ _ h1) (hback _ _ _ h2)
  refine wpIn_rangeFunc_ownH rfl (by omega) hg trivial eg hseq (fun h k => hKt h k) hKb (Below.refl _ _) hps
    (fun pre W => Sat (envOf w) W (Pp pre * HP.is k)) (fun _ _ _ => False) (fun pre W W' row hs hg hr => hs.own (hsolid pre) hg hr) (fun _ _ _ _ _ hs _ _ => hs) hS Ax hAx ?assign ?body ?done ?stop
  case assign =>
    intro l pre x W K hI hK
    refine hassign l x W K hI.size_le ?_
    · intro a' W' hb hx
      have hI' := hI.below hb
      exact hK a' W' ⟨hb.size, fun b o _ ho _ => (hb.block b (Array.getElem?_eq_some_iff.1 ho).1).trans ho⟩ (hbox hI hI') hI' hx
  case stop =>
    rintro D cc pre W _ _ h0 _
    exact h0.elim
  case done =>
    intro D xs W hD hxs hI hK
    have h1 := hI.grab (hsol xs) hklt hD hK rfl
    refine hdone D xs W hxs ?_
    exact h0.back ((hback _ _ _ (h1.perm (HP.mul_assoc _ _ _).symm)).perm (HP.mul_assoc _ _ _))
  case body =>
    intro l pre x a' W hl _ hI hAx1 hlen
    obtain ⟨k2, hk2, hS2, hback2, hkeep⟩ := (hI.own_env).exactB (hsol pre)
    refine Code.wpIn_mono ?_ (hbody (envOf W) (HP.is k2) l pre x a' W (fun W1 p h => ?_) hS2 hAx1 hlen)
    · intro e a1 W1 h
      cases e with
      | normal =>
        have h : Sat (envOf W) W1 (Pp (pre ++ [x]) * HP.is k2) := h
        have h2 := hI.back (hback2 _ _ _ h)
        exact ⟨h.keepsB hkeep h.size_le, hbox hI h2, h2⟩
      | _ => exact h.elim
    · exact hback _ _ _ (hback2 _ _ _ h)
/-- A function's contract from its body, where the body holds a range over a function. -/
theorem calls_of_wp_marks {P : Program} {f : FuncId} {fn : Func} {c : Code} {args : Array Value} {w : World} {R : Ending → World → Prop} (hf : P.funcs[f]? = some fn) (hb : fn.body = some c)
    (h : c.wp P (bodyPostM Fence.wide 20 P fn R) { tmps := args ++ Array.replicate (fn.ntmps - args.size) undef, defers := [] } w) : Calls P f args w R :=
  callsIn_wide.1 (callsIn_of_wp_marks hf hb trivial (wpIn_wide.2 h))
theorem marks_ret0 {P : Program} {fn : Func} {R : Ending → World → Prop} {a : Act} {w : World} {v : Value} (hres : (results fn a.tmps).run P w = .ok v w) (hd : a.defers = []) (hR : R (.returned v) w) : bodyPostM Fence.wide 20 P fn R .ret a w := by
  show LeavesInM _ _ _ _ _ _ a.defers .returning w
  rw [hd]
  exact ⟨v, hres, hR⟩
theorem marks_ret {P : Program} {fn : Func} {R : Ending → World → Prop} {a : Act} {w : World} {v : Value} {D : Nat} (hd : a.defers = [{ target := .collected D, args := #[] }]) (hD : w.heap[D]? = some (.deferred (some []))) (hres : ∀ w, (results fn a.tmps).run P w = .ok v w)
    (hR : R (.returned v) (w.putObj D (.deferred none))) : bodyPostM Fence.wide 20 P fn R .ret a w := by
  show LeavesInM _ _ _ _ _ _ a.defers .returning w
  rw [hd]
  exact ⟨by simp, .inl ⟨_, _, rfl, run_takeDeferred hD, ⟨v, hres _, hR⟩⟩⟩
theorem Sat.putDef {E : Env} {w : World} {D : Nat} {o : Obj} {p : HP} (h : Sat E w (HP.pt D o * p)) (o' : Obj) : Sat E (w.putObj D o') (HP.pt D o' * p) := by
  have hlt := h.lt
  refine h.turn ⟨rfl, rfl, rfl, by simp⟩ ?_ fun k hk _ => putObj_heap_ne w D o' k hk
  simp [World.putObj, hlt]
end
end Go.Proofs.Ytgdcdcacccaanaa
