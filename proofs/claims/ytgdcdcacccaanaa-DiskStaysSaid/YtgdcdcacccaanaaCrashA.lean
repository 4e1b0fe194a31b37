/- (*Disk).Crash: the model; what is kept. -/
import Derived.Test.YtgdcdcacccaanaaMapK
import Derived.Test.YtgdcdcacccaanaaBackK
namespace Go.Proofs.Ytgdcdcacccaanaa
open Go.RowKit HP
set_option linter.unusedSimpArgs false
set_option linter.unusedVariables false

def clampK (n : Int) : Int := min (max n 0) 128
/-- How many bytes a crash keeps of an extent. -/
def keepOf (K : List Kep) (s : ByteArray) (i : Int) : Int :=
  match K.find? (fun k => decide (k.name = s) && decide (k.index = i)) with
  | some k => clampK k.bytes
  | none => 0
theorem clampK_range (n : Int) : 0 ≤ clampK n ∧ clampK n ≤ 128 := by unfold clampK; omega
theorem keepOf_range (K : List Kep) (s : ByteArray) (i : Int) : 0 ≤ keepOf K s i ∧ keepOf K s i ≤ 128 := by
  unfold keepOf
  split
  · exact clampK_range _
  · omega
theorem keepOf_cons (x : Kep) (K : List Kep) : keepOf (x :: K) = spotPut (keepOf K) x.name x.index (clampK x.bytes) := by
  funext s i
  unfold keepOf spotPut
  rw [List.find?_cons]
  by_cases h : s = x.name ∧ i = x.index
  · rw [if_pos h, h.1, h.2]; simp
  · rw [if_neg h]
    have : (decide (x.name = s) && decide (x.index = i)) = false := by
      simp only [Bool.and_eq_false_iff, decide_eq_false_iff_not]
      by_cases h1 : x.name = s
      · exact .inr fun h2 => h ⟨h1.symm, h2.symm⟩
      · exact .inl h1
    rw [this]
noncomputable def keepFold (K : List Kep) (pre : List Nat) : ByteArray → Int → Int :=
  pre.foldl (fun f x => match K[x]? with | some k => spotPut f k.name k.index (clampK k.bytes) | none => f) (fun _ _ => 0)
theorem keepFold_snoc (K : List Kep) (pre : List Nat) (x : Nat) (k : Kep) (h : K[x]? = some k) : keepFold K (pre ++ [x]) = spotPut (keepFold K pre) k.name k.index (clampK k.bytes) := by
  unfold keepFold
  rw [List.foldl_append, List.foldl_cons, List.foldl_nil, h]
theorem keepFold_downs (K : List Kep) : ∀ (n k : Nat), n = K.length → k ≤ n → keepFold K (downs n k) = keepOf (K.drop k) := by
  intro n k hn hk
  obtain ⟨d, hd⟩ : ∃ d, d = n - k := ⟨_, rfl⟩
  induction d generalizing k with
  | zero =>
    have : k = n := by omega
    subst this
    rw [downs_none, List.drop_eq_nil_of_le (by omega)]
    rfl
  | succ d ih =>
    have hlt : k < K.length := by omega
    rw [downs_next (by omega), keepFold_snoc K _ k K[k] (List.getElem?_eq_getElem hlt), ih (k + 1) (by omega) (by omega), List.drop_eq_getElem_cons hlt, keepOf_cons]
theorem keepFold_all (K : List Kep) : keepFold K (List.range K.length).reverse = keepOf K := by
  rw [← downs_all, keepFold_downs K K.length 0 rfl (Nat.zero_le _), List.drop_zero]
def Cel.crashd (c : Cel) (n : Int) : Cel :=
  if c.waits then { c with read := c.written.take n.toNat ++ c.durable.drop n.toNat, durable := c.written.take n.toNat ++ c.durable.drop n.toNat, waits := false } else c
theorem Cel.crashd_fine {c : Cel} (h : c.Fine) {n : Int} (hn : 0 ≤ n ∧ n ≤ 128) : (c.crashd n).Fine := by
  unfold Cel.crashd
  split
  · have e : (c.written.take n.toNat ++ c.durable.drop n.toNat).length = 128 := by
      rw [List.length_append, List.length_take, List.length_drop, h.2.2.2, h.2.1]; omega
    exact ⟨e, e, h.2.2.1, h.2.2.2⟩
  · exact h
def crashL (K : List Kep) (s : ByteArray) (l : List Cel) : List Cel := l.mapIdx fun i c => c.crashd (keepOf K s i)
def Dk.crash (A : Dk) (K : List Kep) : Dk := { A with fuse := -1, files := A.files.map fun x => (x.1, crashL K x.1 x.2) }

set_option maxHeartbeats 1000000 in
set_option maxRecDepth 100000 in
theorem backward_ok (A : Option Addr) (n c : Nat) (w : World) :
    Calls Try.prog 39 #[.slice A n c] w fun e w' =>
      e = .returned (.func (.func 63) #[] #[.pointer (some ⟨w.heap.size, 0, none⟩)]) ∧ w' = w.alloc (.cells #[.slice A n c] 30) := by
  go_enter Try.func39, Try.ntmps39
  go_wp2
  go_ret
  exact ⟨rfl, rfl⟩
theorem wpListIn_mapUpdate_run {F : Fence} {N : Nat} {P : Program} {ops : Array Oper} {rest : List Oper} {o : Oper} {a : Act} {w w' : World} {Q : Exit → Act → World → Prop} (hg : o.guard = none) {m x v : Operand} {t : TypeId} (hop : o.op = Op.mapUpdate t m x v)
    {M K V : Value} (hm : a.eval m = M) (hx : a.eval x = K) (hv : a.eval v = V) (hr : (Instr.mapUpdate t M K V).run P w = .ok () w')
    (h : wpListIn F N P ops Q rest (a.put o.dst undef) w') : wpListIn F N P ops Q (o :: rest) a w := by
  refine wpListIn_plain hg fun K' hK' => ?_
  unfold Oper.wpIn
  refine ⟨?_, ?_⟩
  · simp [Oper.about, hop, resolve, Target.leads, Sem.run_pure]
  · rw [Oper.semAt_plain F _ _ (by rw [hop]; intro c hc'; cases hc')]
    simp [execOp, hop, hm, hx, hv, hr, Result.andThen]
    exact hK' _ _ h
def sub1 {n : Nat} (l : List { x : Nat // x < n }) : List Nat := l.map (·.1)
theorem sub1_snoc {n : Nat} (l : List { x : Nat // x < n }) (x : { x : Nat // x < n }) : sub1 (l ++ [x]) = sub1 l ++ [x.1] := by simp [sub1]
def kepA (K : List Kep) (x : Nat) : Array Value := match K[x]? with | some k => k.vals.toArray | none => #[]
/-- What is kept, as a map. -/
def HP.keeps (mf : Nat) (f : ByteArray → Int → Int) : HP := HP.ex fun x : Array MapEntry × Nat => HP.fact (SpotMap x.1 f) * HP.pt mf (.map x.1 x.2)
theorem HP.keeps_solid {B mf : Nat} (h : mf < B) (f : ByteArray → Int → Int) : Solid B (HP.keeps mf f) := by
  rintro k ⟨x, h1, h2, hd, hu, ⟨_, hf⟩, hp⟩ b o hb
  rw [hu b, hf b] at hb
  exact Solid.pt_below h (.map x.1 x.2) h2 hp b o (by simpa using hb)
theorem Sat.keeps_open {E : Env} {q : HP} {w : World} {mf : Nat} {f : ByteArray → Int → Int} (h : Sat E w (HP.keeps mf f * q)) : ∃ es clock, SpotMap es f ∧ Sat E w (HP.pt mf (.map es clock) * q) := by
  obtain ⟨x, h⟩ := h.ex_elim
  obtain ⟨h1, h2⟩ := (h.perm (HP.mul_assoc _ _ _)).fact_elim
  exact ⟨x.1, x.2, h1, h2⟩
theorem Sat.keeps_close {E : Env} {q : HP} {w : World} {mf : Nat} {f : ByteArray → Int → Int} {es : Array MapEntry} {clock : Nat} (hf : SpotMap es f) (h : Sat E w (HP.pt mf (.map es clock) * q)) : Sat E w (HP.keeps mf f * q) :=
  Sat.ex_intro (es, clock) ((Sat.fact_intro hf h).perm (HP.mul_assoc _ _ _).symm)
end Go.Proofs.Ytgdcdcacccaanaa
