/- A region whose order is open, walked in one order: what reads is taken first, what writes comes one behind the other. -/
import Derived.Test.YtgdcdcacccaanaaSep
import Derived.OrdersHeld
import Derived.RegionTactic
import Derived.OrdersIn
import Derived.Laws.BitsLemmas
import Derived.RangeFuncCalls
import Derived.TacticsIn
namespace Go.Proofs.Ytgdcdcacccaanaa
open Go.RowKit
set_option linter.unusedSimpArgs false
set_option linter.unusedVariables false

/-- Q where an end is the ordinary one, nothing else. -/
def OnlyN (Q : Exit → Act → World → Prop) : Exit → Act → World → Prop
  | .normal, a, w => Q .normal a w
  | _, _, _ => False
theorem OnlyN.imp {Q : Exit → Act → World → Prop} : ∀ (e : Exit) (a : Act) (w : World), OnlyN Q e a w → Q e a w := fun e a w h => by
  cases e <;> first | exact h | exact (h : False).elim

section
variable {P : Program} {ops : Array Oper} {Q : Exit → Act → World → Prop} {R : Nat → World → World → Prop}

/-- Operation d waits for operation i, by a chain of at most 'fuel' edges. -/
def waitsB (ops : Array Oper) (i : Nat) : Nat → Nat → Bool
  | 0, _ => false
  | fuel + 1, d => match ops[d]? with
    | some o => o.after.any fun e => Region.binds .any e && (e.on == i || waitsB ops i fuel e.on)
    | none => false
/-- What has come up is closed under the edges. -/
def closedB (ops : Array Oper) (l : Array Bool) : Bool :=
  (List.range ops.size).all fun j => !l.getD j false || match ops[j]? with
    | some o => o.after.all fun e => !Region.binds .any e || l.getD e.on false
    | none => true
def Closed (ops : Array Oper) (l : Array Bool) : Prop :=
  ∀ j oj, ops[j]? = some oj → l.getD j false = true → ∀ e ∈ oj.after, Region.binds .any e = true → l.getD e.on false = true
theorem closedB_spec {l : Array Bool} (h : closedB ops l = true) : Closed ops l := by
  intro j oj hj hl e he hb
  have hlt : j < ops.size := (Array.getElem?_eq_some_iff.1 hj).1
  have h1 := List.all_eq_true.1 h j (List.mem_range.2 hlt)
  simp only [hl, hj, Bool.not_true, Bool.false_or] at h1
  have h2 := Array.all_eq_true_iff_forall_mem.1 h1 e he
  simpa [hb] using h2
theorem Closed.set {l : Array Bool} {i : Nat} (h : Closed ops l) (hi : i ∈ Region.ready .any ops l) : Closed ops (l.setIfInBounds i true) := by
  obtain ⟨_, oi, hoi, hall⟩ := mem_ready.1 hi
  intro j oj hj hl e he hb
  by_cases hij : i = j
  · subst hij
    have : oj = oi := Option.some.inj (hj.symm.trans hoi)
    subst this
    exact getD_set_true (hall e he hb)
  · rw [getD_set_ne false hij] at hl
    exact getD_set_true (h j oj hj hl e he hb)
theorem waits_listed {l : Array Bool} {i : Nat} (hc : Closed ops l) : ∀ (fuel d : Nat), waitsB ops i fuel d = true → l.getD d false = true → l.getD i false = true
  | 0, _, h, _ => by simp [waitsB] at h
  | fuel + 1, d, h, hl => by
    unfold waitsB at h
    cases ho : ops[d]? with
    | none => rw [ho] at h; simp at h
    | some o =>
      rw [ho] at h
      obtain ⟨e, he, h1⟩ := Array.any_eq_true'.1 h
      simp only [Bool.and_eq_true, Bool.or_eq_true, beq_iff_eq] at h1
      have hle := hc d o ho hl e he h1.1
      rcases h1.2 with h2 | h2
      · rw [← h2]; exact hle
      · exact waits_listed hc fuel e.on h2 hle
theorem waits_not_ready {l : Array Bool} {i d fuel : Nat} (hc : Closed ops l) (hr : waitsB ops i fuel d = true) (hun : l.getD i true = false) : d ∉ Region.ready .any ops l := by
  intro hd
  obtain ⟨_, o, ho, hall⟩ := mem_ready.1 hd
  have hi : l.getD i false = true := by
    cases fuel with
    | zero => simp [waitsB] at hr
    | succ n =>
      unfold waitsB at hr
      rw [ho] at hr
      obtain ⟨e, he, h1⟩ := Array.any_eq_true'.1 hr
      simp only [Bool.and_eq_true, Bool.or_eq_true, beq_iff_eq] at h1
      have hle := hall e he h1.1
      rcases h1.2 with h2 | h2
      · rw [← h2]; exact hle
      · exact waits_listed hc n e.on h2 hle
  rcases Nat.lt_or_ge i l.size with h' | h'
  · simp [h'] at hun hi
    rw [hun] at hi
    cases hi
  · simp [Array.getElem?_eq_none h'] at hun

/-- Whatever order is picked from here on; each operation turns the world as R says. -/
def wpR (P : Program) (ops : Array Oper) (Q : Exit → Act → World → Prop) (R : Nat → World → World → Prop) : Nat → Array Bool → Act → World → Prop
  | 0, l, a, w => Region.ready .any ops l = [] ∧ Q .normal a w
  | n + 1, l, a, w =>
    (Region.ready .any ops l = [] → Q .normal a w) ∧
    ∀ i ∈ Region.ready .any ops l, wpOp P ops Q i (fun a' w' => R i w w' ∧ wpR P ops Q R n (l.setIfInBounds i true) a' w') a w
theorem wpAny_of_R : ∀ (n : Nat) (l : Array Bool) (a : Act) (w : World), wpR P ops Q R n l a w → wpAny P .any ops Q n l a w
  | 0, _, _, _, h => h
  | n + 1, _, _, _, h => ⟨h.1, fun i hi => wpOp_mono (fun a' w' h' => wpAny_of_R n _ a' w' h'.2) (h.2 i hi)⟩

theorem wpR_first {C : World → Prop} {i : Nat} {oi : Oper} {v : Value} (hi : ops[i]? = some oi) (hsel : ∀ (j : Nat) (o : Oper) cs b, ops[j]? = some o → o.op ≠ .select cs b)
    (hQ : ∀ c a w, ¬ Q (.panic c) a w) (hRi : ∀ w, R i w w) (N : Nat) :
    ∀ (n : Nat) (l : Array Bool) (a : Act) (w : World),
      (∀ j oj, ops[j]? = some oj → j ≠ i → l.getD j true = false → (∀ e ∈ oj.after, Region.binds .any e = true → e.on ≠ i) → oi.apart ops oj = true) →
      Closed ops l → (∀ j, l.getD j true = false → j ≠ i → waitsB ops i N j = false → ∀ w w', C w → R j w w' → C w') →
      i ∈ Region.ready .any ops l → YieldsIf P ops C oi v a → C w →
      wpR P ops Q R n (l.setIfInBounds i true) (a.put oi.dst v) w → wpR P ops Q R (n + 1) l a w := by
  intro n
  induction n with
  | zero =>
    intro l a w _ _ _ hr hy hC H
    refine ⟨fun h => (by rw [h] at hr; cases hr), fun j hj => ?_⟩
    by_cases hji : j = i
    · subst hji; exact hy.wpOp hi hC ⟨hRi w, H⟩
    · have := ready_mono hj hji
      rw [H.1] at this
      cases this
  | succ n ih =>
    intro l a w hfree hc hkeep hr hy hC H
    refine ⟨fun h => (by rw [h] at hr; cases hr), fun j hj => ?_⟩
    by_cases hji : j = i
    · subst hji; exact hy.wpOp hi hC ⟨hRi w, H⟩
    · have h1 := H.2 j (ready_mono hj hji)
      obtain ⟨hjun, oj, hoj, hall⟩ := mem_ready.1 hj
      have hiun := (mem_ready.1 hr).1
      have hnot : ∀ e ∈ oj.after, Region.binds .any e = true → e.on ≠ i := fun e he hb heq => by
        have h1 := hall e he hb
        rw [heq] at h1
        rcases Nat.lt_or_ge i l.size with h' | h'
        · simp [h'] at hiun h1; rw [hiun] at h1; cases h1
        · simp [Array.getElem?_eq_none h'] at h1
      have hnw : waitsB ops i N j = false := by
        cases hw : waitsB ops i N j with
        | false => rfl
        | true => exact absurd hj (waits_not_ready hc hw hiun)
      have h2 := wpOp_putIf hoj (hfree j oj hoj hji hjun hnot) (fun cs b => hsel i oi cs b hi) (fun cs b => hsel j oj cs b hoj) (fun c a w h => absurd h (hQ c _ w)) hy h1
      have hfree' : ∀ k ok, ops[k]? = some ok → k ≠ i → (l.setIfInBounds j true).getD k true = false →
          (∀ e ∈ ok.after, Region.binds .any e = true → e.on ≠ i) → oi.apart ops ok = true := fun k ok hk hki hun hno => by
        refine hfree k ok hk hki ?_ hno
        by_cases hjk : j = k
        · subst hjk; exact hjun
        · rw [getD_set_ne true hjk] at hun; exact hun
      have hkeep' : ∀ k, (l.setIfInBounds j true).getD k true = false → k ≠ i → waitsB ops i N k = false → ∀ w w', C w → R k w w' → C w' := fun k hun hki hw => by
        refine hkeep k ?_ hki hw
        by_cases hjk : j = k
        · subst hjk; exact hjun
        · rw [getD_set_ne true hjk] at hun; exact hun
      refine wpOp_mono (fun a' w' h3 => ⟨h3.2.1, ih (l.setIfInBounds j true) a' w' hfree' (hc.set hj) hkeep' (ready_mono hr (Ne.symm hji)) h3.1 (hkeep j hjun hji hnw _ _ hC h3.2.1) ?_⟩) h2
      rw [Array.setIfInBounds_comm _ _ hji]
      exact h3.2.2

theorem wpR_done {l : Array Bool} {a : Act} {w : World} (hr : (Region.ready .any ops l == []) = true) (h : Q .normal a w) : ∀ n, wpR P ops Q R n l a w
  | 0 => ⟨by simpa using hr, h⟩
  | _ + 1 => ⟨fun _ => h, by rw [show Region.ready .any ops l = [] by simpa using hr]; simp⟩

/-- What writes: those of 'effs'; of these, those of 'keeps' keep T; all else leaves the world alone. -/
def RR (effs keeps : List Nat) (T : World → Prop) (i : Nat) (w w' : World) : Prop :=
  if effs.contains i then (if keeps.contains i then T w → T w' else True) else w' = w
theorem RR_self (effs keeps : List Nat) (T : World → Prop) {i : Nat} (w : World) : RR effs keeps T i w w := by
  unfold RR
  split
  · split
    · exact id
    · trivial
  · rfl

/-- One operation's turn: it reads, and every writing one that has not come up waits for it. -/
def readB (ops : Array Oper) (effs : List Nat) (l l' : Array Bool) (i : Nat) : Bool :=
  Region.noSelect ops && Region.free .any ops l i && (Region.ready .any ops l).contains i && closedB ops l && effs.all (fun d => d == i || l.getD d true || waitsB ops i ops.size d) && (l.setIfInBounds i true == l')
theorem wpR_read {effs keeps : List Nat} {T : World → Prop} {i : Nat} {oi : Oper} {v : Value} {n : Nat} {l : Array Bool} {a : Act} {w : World} (l' : Array Bool) (hi : ops[i]? = some oi)
    (hQ : ∀ c a w, ¬ Q (.panic c) a w) (hc : readB ops effs l l' i = true)
    (hy : (Region.wanted oi (yielded ops a.tmps) = true ∧ (execOp a.eval oi).run P w = .ok (.value v) w) ∨ (Region.wanted oi (yielded ops a.tmps) = false ∧ v = undef))
    (h : wpR P ops Q (RR effs keeps T) n l' (a.put oi.dst v) w) : wpR P ops Q (RR effs keeps T) (n + 1) l a w := by
  simp only [readB, Bool.and_eq_true, beq_iff_eq] at hc
  obtain ⟨⟨⟨⟨⟨h1, h2⟩, h3⟩, h4⟩, h5⟩, h6⟩ := hc
  subst h6
  refine wpR_first (C := fun w' => w' = w) hi (Region.noSelect_spec h1) hQ (RR_self _ _ _) ops.size n l a w (Region.free_spec hi h2) (closedB_spec h4) ?_ (by simpa using h3) ?_ rfl h
  · rintro j hj hji hw w1 w2 rfl hR
    unfold RR at hR
    split at hR
    · rename_i hm
      have := List.all_eq_true.1 h5 j (by simpa using hm)
      rw [hj, hw] at this
      simp [hji] at this
    · exact hR
  · rcases hy with ⟨hw, hv⟩ | ⟨hw, hv⟩
    · exact .inl ⟨hw, fun w' e => by subst e; exact hv⟩
    · exact .inr ⟨hw, hv⟩

/-- .. it reads what T holds fast: every writing one that has not come up waits for it, or keeps T. -/
def heldB (ops : Array Oper) (effs keeps : List Nat) (l l' : Array Bool) (i : Nat) : Bool :=
  Region.noSelect ops && Region.free .any ops l i && (Region.ready .any ops l).contains i && closedB ops l && effs.all (fun d => d == i || l.getD d true || keeps.contains d || waitsB ops i ops.size d) && (l.setIfInBounds i true == l')
theorem wpR_held {effs keeps : List Nat} {T : World → Prop} {i : Nat} {oi : Oper} {v : Value} {n : Nat} {l : Array Bool} {a : Act} {w : World} (l' : Array Bool) (hi : ops[i]? = some oi)
    (hQ : ∀ c a w, ¬ Q (.panic c) a w) (hc : heldB ops effs keeps l l' i = true) (hT : T w)
    (hy : (Region.wanted oi (yielded ops a.tmps) = true ∧ ∀ w', T w' → (execOp a.eval oi).run P w' = .ok (.value v) w') ∨ (Region.wanted oi (yielded ops a.tmps) = false ∧ v = undef))
    (h : wpR P ops Q (RR effs keeps T) n l' (a.put oi.dst v) w) : wpR P ops Q (RR effs keeps T) (n + 1) l a w := by
  simp only [heldB, Bool.and_eq_true, beq_iff_eq] at hc
  obtain ⟨⟨⟨⟨⟨h1, h2⟩, h3⟩, h4⟩, h5⟩, h6⟩ := hc
  subst h6
  refine wpR_first (C := T) hi (Region.noSelect_spec h1) hQ (RR_self _ _ _) ops.size n l a w (Region.free_spec hi h2) (closedB_spec h4) ?_ (by simpa using h3) hy hT h
  rintro j hj hji hw w1 w2 hT1 hR
  unfold RR at hR
  split at hR
  · rename_i hm
    split at hR
    · exact hR hT1
    · rename_i hk
      have := List.all_eq_true.1 h5 j (by simpa using hm)
      rw [hj, hw] at this
      simp [hji] at this
      exact absurd (by simpa using this) hk
  · rw [hR]; exact hT1

/-- The one operation that may come up now. -/
def oneB (ops : Array Oper) (effs : List Nat) (l l' : Array Bool) (i : Nat) : Bool := (Region.ready .any ops l == [i]) && effs.contains i && (l.setIfInBounds i true == l')
theorem wpR_eff {effs keeps : List Nat} {T : World → Prop} {i : Nat} {oi : Oper} {n : Nat} {l : Array Bool} {a : Act} {w : World} (l' : Array Bool) (hi : ops[i]? = some oi) (hc : (oneB ops effs l l' i && !keeps.contains i) = true)
    (h : ∀ K : Act → World → Prop, (∀ a' w', wpR P ops Q (RR effs keeps T) n l' a' w' → K a' w') → if Region.wanted oi (yielded ops a.tmps) = true then Oper.wp P oi a w K Q else K (a.put oi.dst undef) w) :
    wpR P ops Q (RR effs keeps T) (n + 1) l a w := by
  simp only [oneB, Bool.and_eq_true, beq_iff_eq] at hc
  obtain ⟨⟨⟨h1, h2⟩, h3⟩, h4⟩ := hc
  subst h3
  refine ⟨fun h0 => (by rw [h0] at h1; cases h1), fun j hj => ?_⟩
  rw [h1] at hj
  obtain rfl : j = i := by simpa using hj
  refine wpOp_step hi fun K hK => h K fun a' w' h' => hK a' w' ⟨?_, h'⟩
  unfold RR
  rw [if_pos h2, if_neg (by simpa using h4)]
  trivial
theorem wpR_keep {effs keeps : List Nat} {T : World → Prop} {i : Nat} {oi : Oper} {n : Nat} {l : Array Bool} {a : Act} {w : World} (l' : Array Bool) (hi : ops[i]? = some oi) (hc : oneB ops effs l l' i = true)
    (h : ∀ K : Act → World → Prop, (∀ a' w', T w' → wpR P ops Q (RR effs keeps T) n l' a' w' → K a' w') → if Region.wanted oi (yielded ops a.tmps) = true then Oper.wp P oi a w K Q else K (a.put oi.dst undef) w) :
    wpR P ops Q (RR effs keeps T) (n + 1) l a w := by
  simp only [oneB, Bool.and_eq_true, beq_iff_eq] at hc
  obtain ⟨⟨h1, h2⟩, h3⟩ := hc
  subst h3
  refine ⟨fun h0 => (by rw [h0] at h1; cases h1), fun j hj => ?_⟩
  rw [h1] at hj
  obtain rfl : j = i := by simpa using hj
  refine wpOp_step hi fun K hK => h K fun a' w' hT h' => hK a' w' ⟨?_, h'⟩
  unfold RR
  rw [if_pos h2]
  split
  · exact fun _ => hT
  · trivial

/-- The region: what writes, what of it keeps T, is told here. -/
theorem region_R {id n : Nat} {a : Act} {w : World} (effs keeps : List Nat) (T : World → Prop) (l : Array Bool) (hm : P.follows .mixedOrders = true) (hn : ops.size = n) (hl : Array.replicate n false = l)
    (h : wpR P ops (OnlyN Q) (RR effs keeps T) n l a w.drew) : (Code.region id ops true).wp P Q a w := by
  subst hn
  subst hl
  exact Code.wp_mono OnlyN.imp (wp_region_any hm (wpAny_of_R _ _ _ _ h))

theorem wpOpIn_of {i r N : Nat} {K : Act → World → Prop} {a : Act} {w : World} (hout : ¬ LetsOut Q) (hdef : ∀ (j : Nat) (o : Oper) (c : Call), ops[j]? = some o → o.op ≠ .defer c)
    (h : wpOp P ops Q i K a w) : wpOpIn (Fence.wide.inRound r) N P ops Q i K a w := by
  unfold wpOp at h
  unfold wpOpIn
  cases ho : ops[i]? with
  | none => simpa [ho] using h
  | some o =>
    simp only [ho] at h ⊢
    split
    · rename_i hw
      rw [if_pos hw] at h
      rcases h with h | h
      · refine ⟨fun _ _ => trivial, ?_⟩
        rw [Oper.semAt_eq _ _ _ (fun c => hdef i o c ho)]
        unfold Oper.wp at h
        generalize (execOp a.eval o).run P w = res at h ⊢
        cases res with
        | ok nx w' =>
          cases nx <;> simp only [Oper.upon] at h <;> simp only [Oper.uponIn] <;> first
            | exact h
            | exact ⟨fun hd => by simp [Fence.wide] at hd, CallsIn.inRound r (callsIn_wide.2 h)⟩
            | exact ⟨fun hd => by simp [Fence.wide] at hd, fun c cs _ => let ⟨v, w2, hr, hs⟩ := h c cs; ⟨v, w2, hr, by rw [fenced_inRound]; exact stepsIn_wide.2 hs⟩⟩
        | halt x w' =>
          cases x <;> simp only [Oper.upon] at h <;> simp only [Oper.uponIn] <;> exact h
      · exact absurd h.2 hout
    · rename_i hw
      rw [if_neg hw] at h
      exact ⟨fun _ _ => trivial, h⟩
theorem wpOpIn_mono' {F : Fence} {N i : Nat} {a : Act} {w : World} {K K' : Act → World → Prop} (h : ∀ a w, K a w → K' a w) (hh : wpOpIn F N P ops Q i K a w) : wpOpIn F N P ops Q i K' a w := wpOpIn_mono h hh
theorem wpAnyIn_of {r N : Nat} (hout : ¬ LetsOut Q) (hdef : ∀ (j : Nat) (o : Oper) (c : Call), ops[j]? = some o → o.op ≠ .defer c) :
    ∀ (n : Nat) (l : Array Bool) (a : Act) (w : World), wpAny P .any ops Q n l a w → wpAnyIn (Fence.wide.inRound r) N P .any ops Q n l a w
  | 0, _, _, _, h => h
  | n + 1, _, _, _, h => ⟨h.1, fun i hi => wpOpIn_mono (fun a' w' h' => wpAnyIn_of hout hdef n _ a' w' h') (wpOpIn_of hout hdef (h.2 i hi))⟩
def noDefer (ops : Array Oper) : Bool := ops.all fun o => match o.op with | .defer _ => false | _ => true
theorem noDefer_spec (h : noDefer ops = true) (j : Nat) (o : Oper) (c : Call) (ho : ops[j]? = some o) : o.op ≠ .defer c := by
  intro heq
  have := Array.all_eq_true_iff_forall_mem.1 h o (Array.mem_of_getElem? ho)
  simp [heq] at this
/-- The same in a round of a range over a function. -/
theorem region_Rin {id n r N : Nat} {a : Act} {w : World} (effs keeps : List Nat) (T : World → Prop) (l : Array Bool) (hm : P.follows .mixedOrders = true) (hd : noDefer ops = true) (hn : ops.size = n) (hl : Array.replicate n false = l)
    (h : wpR P ops (OnlyN Q) (RR effs keeps T) n l a w.drew) : (Code.region id ops true).wpIn (Fence.wide.inRound r) N P Q a w := by
  subst hn
  subst hl
  exact Code.wpIn_mono OnlyN.imp (wpIn_region_any hm (wpAnyIn_of (fun ⟨_, _, h⟩ => h) (noDefer_spec hd) _ _ _ _ (wpAny_of_R _ _ _ _ h)))
/-- A reading operation's turn, as a step of the walk. -/
theorem wpR_rd {effs keeps : List Nat} {T : World → Prop} (i : Nat) {oi : Oper} {n : Nat} {l : Array Bool} {a : Act} {w : World} (l' : Array Bool) (hi : ops[i]? = some oi)
    (hQ : ∀ c a w, ¬ Q (.panic c) a w) (hc : readB ops effs l l' i = true)
    (h : ∀ K : Act → Prop, (∀ a', wpR P ops Q (RR effs keeps T) n l' a' w → K a') → if Region.wanted oi (yielded ops a.tmps) then (∃ v, (execOp a.eval oi).run P w = .ok (.value v) w ∧ K (a.put oi.dst v)) else K (a.put oi.dst undef)) :
    wpR P ops Q (RR effs keeps T) (n + 1) l a w := by
  have h1 := h _ (fun _ h => h)
  by_cases hw : Region.wanted oi (yielded ops a.tmps) = true
  · rw [if_pos hw] at h1
    obtain ⟨v, hv, hk⟩ := h1
    exact wpR_read l' hi hQ hc (.inl ⟨hw, hv⟩) hk
  · rw [if_neg hw] at h1
    exact wpR_read l' hi hQ hc (.inr ⟨by simpa using hw, rfl⟩) h1
/-- An operation that yields its value in whatever world. -/
def pureB (ops : Array Oper) (l l' : Array Bool) (i : Nat) : Bool :=
  Region.noSelect ops && Region.free .any ops l i && (Region.ready .any ops l).contains i && closedB ops l && (l.setIfInBounds i true == l')
theorem wpR_pu {effs keeps : List Nat} {T : World → Prop} (i : Nat) {oi : Oper} {n : Nat} {l : Array Bool} {a : Act} {w : World} (l' : Array Bool) (hi : ops[i]? = some oi)
    (hQ : ∀ c a w, ¬ Q (.panic c) a w) (hc : pureB ops l l' i = true)
    (h : ∀ K : Act → Prop, (∀ a', wpR P ops Q (RR effs keeps T) n l' a' w → K a') → if Region.wanted oi (yielded ops a.tmps) then (∃ v, (∀ w', (execOp a.eval oi).run P w' = .ok (.value v) w') ∧ K (a.put oi.dst v)) else K (a.put oi.dst undef)) :
    wpR P ops Q (RR effs keeps T) (n + 1) l a w := by
  simp only [pureB, Bool.and_eq_true, beq_iff_eq] at hc
  obtain ⟨⟨⟨⟨h1, h2⟩, h3⟩, h4⟩, h6⟩ := hc
  subst h6
  have hh := h _ (fun _ h => h)
  by_cases hw : Region.wanted oi (yielded ops a.tmps) = true
  · rw [if_pos hw] at hh
    obtain ⟨v, hv, hk⟩ := hh
    exact wpR_first (C := fun _ => True) hi (Region.noSelect_spec h1) hQ (RR_self _ _ _) ops.size n l a w (Region.free_spec hi h2) (closedB_spec h4) (fun _ _ _ _ _ _ _ _ => trivial) (by simpa using h3) (.inl ⟨hw, fun w' _ => hv w'⟩) trivial hk
  · rw [if_neg hw] at hh
    exact wpR_first (C := fun _ => True) hi (Region.noSelect_spec h1) hQ (RR_self _ _ _) ops.size n l a w (Region.free_spec hi h2) (closedB_spec h4) (fun _ _ _ _ _ _ _ _ => trivial) (by simpa using h3) (.inr ⟨by simpa using hw, rfl⟩) trivial hh
theorem wpR_hd {effs keeps : List Nat} {T : World → Prop} (i : Nat) {oi : Oper} {n : Nat} {l : Array Bool} {a : Act} {w : World} (l' : Array Bool) (hi : ops[i]? = some oi)
    (hQ : ∀ c a w, ¬ Q (.panic c) a w) (hc : heldB ops effs keeps l l' i = true) (hT : T w)
    (h : ∀ K : Act → Prop, (∀ a', wpR P ops Q (RR effs keeps T) n l' a' w → K a') → if Region.wanted oi (yielded ops a.tmps) then (∃ v, (∀ w', T w' → (execOp a.eval oi).run P w' = .ok (.value v) w') ∧ K (a.put oi.dst v)) else K (a.put oi.dst undef)) :
    wpR P ops Q (RR effs keeps T) (n + 1) l a w := by
  have h1 := h _ (fun _ h => h)
  by_cases hw : Region.wanted oi (yielded ops a.tmps) = true
  · rw [if_pos hw] at h1
    obtain ⟨v, hv, hk⟩ := h1
    exact wpR_held l' hi hQ hc hT (.inl ⟨hw, hv⟩) hk
  · rw [if_neg hw] at h1
    exact wpR_held l' hi hQ hc hT (.inr ⟨by simpa using hw, rfl⟩) h1
theorem onlyN_noPanic : ∀ c a w, ¬ OnlyN Q (.panic c) a w := fun _ _ _ h => h
/-- The state written out. -/
theorem wpR_norm {n : Nat} {l : Array Bool} {a a' : Act} {w : World} (ha : a = a') (h : wpR P ops Q R n l a' w) : wpR P ops Q R n l a w := by
  subst ha; exact h
end
end Go.Proofs.Ytgdcdcacccaanaa
