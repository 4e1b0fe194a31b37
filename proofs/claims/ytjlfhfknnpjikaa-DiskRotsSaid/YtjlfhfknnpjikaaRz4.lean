/- Texts of one claim, one behind the other: RF, RangeG, FileQ, ArrEq, Kep, BackK, CrashA, RangeF, CrashB, By. -/
import Derived.Test.YtjlfhfknnpjikaaRz3
import Derived.RangeFuncNested
import Derived.RangeFuncBound
import Derived.RangeFuncCalls
import Derived.RangeFuncLeaves
import Derived.RangeFuncBox
import Derived.TacticsIn
import Derived.Laws.StructEq
import Derived.ChangeKeysEq
import Derived.Test.YtjlfhfknnpjikaaProg
import Derived.Shelf.Abstract
import Derived.Shelf.RegionOpen
import Derived.OwnWalkIn
import Derived.TacticsInMore
import Derived.LoopNIn
import Derived.LoopIn
import Derived.Outline
import Derived.IntWalk
import Derived.Maps.OwnIn
import Derived.Laws.BytesString
import Derived.Laws.MakeOwn
import Derived.WideShapes
/- A range over a function, in the words of assertions: what the body owns, what lies beside. -/
namespace Go.Proofs.Ytjlfhfknnpjikaa
open Go.RowKit HP
set_option linter.unusedSimpArgs false
set_option linter.unusedVariables false

section
variable {E : Env} {w w' : World} {p q r : HP}
/-- The rest of the world's memory, exactly; what is no row of cells from B on is of the rest. -/
theorem Sat.exactB {B : Nat} (h : Sat E w (p * q)) (hc : Solid B p) : ∃ k, (∀ b o, k b = some o → w.heap[b]? = some o) ∧ Sat E w (p * HP.is k) ∧
    (∀ (E' : Env) w' p', Sat E' w' (p' * HP.is k) → Sat E' w' (p' * q)) ∧ (∀ b o, B ≤ b → w.heap[b]? = some o → o.isCells = false → k b = some o) := by
  obtain ⟨he, m, hm, h1, h2, hd, hu, hp, hq⟩ := h
  refine ⟨fun b => if h1 b = none then w.heap[b]? else none, fun b o hb => ?_, ?_, ?_, fun b o hB hb ho => ?_⟩
  · dsimp only at hb
    split at hb
    · exact hb
    · cases hb
  · refine ⟨he, fun b => w.heap[b]?, fun _ _ h => h, h1, _, fun b => ?_, fun b => ?_, hp, fun _ => rfl⟩
    · cases e : h1 b with
      | none => exact .inl rfl
      | some o => right; simp
    · cases e : h1 b with
      | none => simp
      | some o => simpa using hm b o (by rw [hu b, e]; rfl)
  · rintro E' w' p' ⟨he', m', hm', k1, k2, hd', hu', hp', hk2⟩
    refine ⟨he', fun b => (k1 b).or (h2 b), fun b o hb => ?_, k1, h2, fun b => ?_, fun _ => rfl, hp', hq⟩
    · rcases Option.or_eq_some_iff.1 hb with e | ⟨e0, e⟩
      · exact hm' b o (by rw [hu' b, e]; rfl)
      · refine hm' b o ?_
        have e1 : h1 b = none := by
          rcases hd b with e2 | e2
          · exact e2
          · rw [e] at e2; cases e2
        have e3 : k2 b = some o := by
          rw [hk2 b]; simp only [e1, if_true]
          exact hm b o (by rw [hu b, e1, e]; rfl)
        rw [hu' b, e0, e3]; rfl
    · cases e : h2 b with
      | none => exact .inr rfl
      | some o =>
        left
        have e1 : h1 b = none := by
          rcases hd b with e2 | e2
          · exact e2
          · rw [e] at e2; cases e2
        have e3 : k2 b = some o := by
          rw [hk2 b]; simp only [e1, if_true]
          exact hm b o (by rw [hu b, e1, e]; rfl)
        rcases hd' b with e2 | e2
        · exact e2
        · rw [e3] at e2; cases e2
  · cases e : h1 b with
    | none => simp [e, hb]
    | some u =>
      have h3 := hm b u (by rw [hu b, e]; rfl)
      rw [hb] at h3; cases h3
      rcases hc h1 hp b o e with h4 | h4
      · rw [ho] at h4; cases h4
      · omega
theorem Sat.keepsB {B : Nat} {k : Nat → Option Obj} (h : Sat E w' (r * HP.is k)) (hk : ∀ b o, B ≤ b → w.heap[b]? = some o → o.isCells = false → k b = some o) (hs : w.heap.size ≤ w'.heap.size) : KeepsFrom B w w' := by
  refine ⟨hs, fun b o hB hb ho => ?_⟩
  obtain ⟨he, m, hm, h1, h2, hd, hu, hp, hq⟩ := h
  have e : h2 b = some o := by rw [hq b]; exact hk b o hB hb ho
  refine hm b o ?_
  rw [hu b]
  rcases hd b with e1 | e1
  · rw [e1, e]; rfl
  · rw [e1] at e; cases e
/-- A block that nothing speaks of is told. -/
theorem Sat.grab {B D : Nat} {k : Nat → Option Obj} {o : Obj} (h : Sat E w (p * HP.is k)) (hp : Solid B p) (hk : ∀ b o, k b = some o → b < B) (hB : B ≤ D) (hD : w.heap[D]? = some o) (ho : o.isCells = false) : Sat E w (HP.pt D o * (p * HP.is k)) := by
  obtain ⟨he, m, hm, h1, h2, hd, hu, hp1, hq⟩ := h
  have e1 : h1 D = none := by
    cases e : h1 D with
    | none => rfl
    | some u =>
      have h3 := hm D u (by rw [hu D, e]; rfl)
      rw [hD] at h3; cases h3
      rcases hp h1 hp1 D _ e with h4 | h4
      · rw [ho] at h4; cases h4
      · omega
  have e2 : h2 D = none := by
    cases e : h2 D with
    | none => rfl
    | some u =>
      rw [hq D] at e
      have := hk D u e
      omega
  have eD : m D = none := by rw [hu D, e1, e2]; rfl
  refine ⟨he, fun b => if b = D then some o else m b, fun b u hb => ?_, fun b => if b = D then some o else none, m, fun b => ?_, fun b => ?_, fun b => rfl, h1, h2, hd, hu, hp1, hq⟩
  · by_cases hbD : b = D
    · subst hbD; simp at hb; subst hb; exact hD
    · simp [hbD] at hb; exact hm b u hb
  · by_cases hbD : b = D
    · subst hbD; exact .inr eD
    · simp [hbD]
  · by_cases hbD : b = D
    · subst hbD; simp
    · simp [hbD]
theorem HP.Solid.pt_below {B b : Nat} (h : b < B) (o : Obj) : Solid B (HP.pt b o) := by
  intro k hk c u hc
  rw [hk c] at hc
  split at hc
  · rename_i e; subst e; exact .inr h
  · cases hc
theorem HP.Solid.emp (B : Nat) : Solid B HP.emp := Celled.emp.solid B

/-- A block, and a slice's cells, are as they were. -/
def KeepSl (Bs : Nat) (A : Option Addr) (cs : List Value) (W W' : World) : Prop := W'.heap[Bs]? = W.heap[Bs]? ∧ (Cells W A cs → Cells W' A cs)
theorem KeepSl.refl {Bs : Nat} {A : Option Addr} {cs : List Value} (W : World) : KeepSl Bs A cs W W := ⟨rfl, id⟩
theorem KeepSl.trans {Bs : Nat} {A : Option Addr} {cs : List Value} {W X Y : World} (h : KeepSl Bs A cs W X) (k : KeepSl Bs A cs X Y) : KeepSl Bs A cs W Y := ⟨k.1.trans h.1, fun c => k.2 (h.2 c)⟩
theorem Cells.putObj {W : World} {A : Option Addr} {cs : List Value} (h : Cells W A cs) {l : Nat} {o : Obj} (hl : W.heap[l]? = some o) (ho : o.isCells = false) (o' : Obj) : Cells (W.putObj l o') A cs := fun j u hj => by
  obtain ⟨a, ha, hc⟩ := h j u hj
  refine ⟨a, ha, ?_⟩
  obtain ⟨g, i, e⟩ := addr_of_cell hc
  rw [e] at hc ⊢
  have hne : g ≠ l := by
    intro hgl
    subst hgl
    simp only [World.cell?, hl] at hc
    cases o <;> simp_all [Obj.isCells]
  rw [World.cell?_of_block (w := W) (putObj_heap_ne W l o' g hne)]
  exact hc
theorem KeepSl.put {Bs : Nat} {A : Option Addr} {cs : List Value} {W : World} {l : Nat} {o : Obj} (hb : Bs < l) (hl : W.heap[l]? = some o) (ho : o.isCells = false) (o' : Obj) : KeepSl Bs A cs W (W.putObj l o') :=
  ⟨putObj_heap_ne W l o' Bs (by omega), fun h => h.putObj hl ho o'⟩
/-- What is asked of a round's end. -/
def RoundPost (E : Env) (p : HP) : Exit → Act → World → Prop
  | .normal, _, W' => Sat E W' p
  | _, _, _ => False

/-- **A range over a function whose body always goes on**; the loop's variable may be a box of its own. -/
theorem wp_range_sat {α : Type} {P : Program} {g : Operand} {ps : Array Tmp} {assign body : Code} {Q : Exit → Act → World → Prop} {a : Act} {q : HP}
    {gf : Nat} {lb : Array Value} (hg : a.eval g = .func (.func gf) #[] lb) (eg : ∀ args w, (callFunc gf args).run P w = .ok (.enter gf args) w)
    {encs : α → Array Value} {S : List α → Prop} {N : Nat} {Kp : World → World → Prop} (hseq : SeqStopsK Fence.wide 19 P gf lb encs Kp S (fun _ => True) N w)
    (hKt : ∀ {A B C : World}, Kp A B → Kp B C → Kp A C) (hKb : ∀ (W : World) (l : Nat) (o o' : Obj), w.heap.size ≤ l → W.heap[l]? = some o → o.isCells = false → o.isWalk = false → Kp W (W.putObj l o')) (hKq : ∀ (E1 E2 : Env) W W' p p', Sat E1 W (p * q) → Sat E2 W' (p' * q) → Kp W W') (hps : ∀ x, (encs x).size = ps.size)
    (Pp : List α → HP) (hsol : ∀ pre, Solid w.heap.size (Pp pre)) (h0 : Sat E w (Pp [] * q))
    (Ax : α → Act → World → Prop) (hAx : ∀ x a', OwnFrom w.heap.size (fun (_ : Unit) W => Ax x a' W))
    (hassign : ∀ (l : Nat) (x : α) (W : World) (K : Act → World → Prop), w.heap.size ≤ W.heap.size → (∀ a' W', Below W.heap.size W W' → Ax x a' W' → K a' W') →
      assign.wpIn (Fence.wide.inRound l) 18 P (Exit.then K (fun _ _ _ => False)) { tmps := (ps.zip (encs x)).foldl (fun t (p, v) => t.setIfInBounds p v) a.tmps, defers := [] } W)
    (hbody : ∀ (E' : Env) (q' : HP) (l : Nat) (pre : List α) (x : α) (a' : Act) (W : World), (∀ W p, Sat E' W (p * q') → Sat E' W (p * q)) → Sat E' W (Pp pre * q') → Ax x a' W → pre.length < N →
      body.wpIn (Fence.wide.inRound l) 18 P (RoundPost E' (Pp (pre ++ [x]) * q')) a' W)
    (hdone : ∀ (D : Nat) (xs : List α) (W : World), S xs → Sat E W (HP.pt D (.deferred (some [])) * (Pp xs * q)) → Q .normal { a with defers := { target := .collected D, args := #[] } :: a.defers } W) :
    (Code.rangeFunc g ps assign body).wp P Q a w := by
  refine (wpIn_wide (n := 20)).1 ?_
  obtain ⟨k, hk, hS, hback, -⟩ := h0.own_env.exactB (hsol [])
  have hklt : ∀ b o, k b = some o → b < w.heap.size := fun b o ho => (Array.getElem?_eq_some_iff.1 (hk b o ho)).1
  have hsolid : ∀ pre, Solid w.heap.size (Pp pre * HP.is k) := fun pre => (hsol pre).mul (Solid.is hklt)
  have hbox : ∀ {E1 E2 : Env} {W W' : World} {p p' : HP}, Sat E1 W (p * HP.is k) → Sat E2 W' (p' * HP.is k) → Kp W W' := fun h1 h2 => hKq _ _ _ _ _ _ (hback _ _ _ h1) (hback _ _ _ h2)
  refine wpIn_rangeFunc_ownH rfl (by omega) hg trivial eg hseq (fun h k => hKt h k) hKb (Below.refl _ _) hps
    (fun pre W => Sat (envOf w) W (Pp pre * HP.is k)) (fun _ _ _ => False) (fun pre W W' row hs hg hr => hs.own (hsolid pre) hg hr) (fun _ _ _ _ _ hs _ _ => hs) hS Ax hAx ?assign ?body ?done ?stop
  case assign =>
    intro l pre x W K hI hK
    refine hassign l x W K hI.size_le ?_
    · intro a' W' hb hx
      have hI' := hI.below hb
      exact hK a' W' ⟨hb.size, fun b o _ ho _ => (hb.block b (Array.getElem?_eq_some_iff.1 ho).1).trans ho⟩ (hbox hI hI') hI' hx
  case stop =>
    rintro D cc pre W _ _ h0 _
    exact h0.elim
  case done =>
    intro D xs W hD hxs hI hK
    have h1 := hI.grab (hsol xs) hklt hD hK rfl
    refine hdone D xs W hxs ?_
    exact h0.back ((hback _ _ _ (h1.perm (HP.mul_assoc _ _ _).symm)).perm (HP.mul_assoc _ _ _))
  case body =>
    intro l pre x a' W hl _ hI hAx1 hlen
    obtain ⟨k2, hk2, hS2, hback2, hkeep⟩ := (hI.own_env).exactB (hsol pre)
    refine Code.wpIn_mono ?_ (hbody (envOf W) (HP.is k2) l pre x a' W (fun W1 p h => ?_) hS2 hAx1 hlen)
    · intro e a1 W1 h
      cases e with
      | normal =>
        have h : Sat (envOf W) W1 (Pp (pre ++ [x]) * HP.is k2) := h
        have h2 := hI.back (hback2 _ _ _ h)
        exact ⟨h.keepsB hkeep h.size_le, hbox hI h2, h2⟩
      | _ => exact h.elim
    · exact hback _ _ _ (hback2 _ _ _ h)
/-- A function's contract from its body, where the body holds a range over a function. -/
theorem calls_of_wp_marks {P : Program} {f : FuncId} {fn : Func} {c : Code} {args : Array Value} {w : World} {R : Ending → World → Prop} (hf : P.funcs[f]? = some fn) (hb : fn.body = some c)
    (h : c.wp P (bodyPostM Fence.wide 20 P fn R) { tmps := args ++ Array.replicate (fn.ntmps - args.size) undef, defers := [] } w) : Calls P f args w R :=
  callsIn_wide.1 (callsIn_of_wp_marks hf hb trivial (wpIn_wide.2 h))
theorem marks_ret0 {P : Program} {fn : Func} {R : Ending → World → Prop} {a : Act} {w : World} {v : Value} (hres : (results fn a.tmps).run P w = .ok v w) (hd : a.defers = []) (hR : R (.returned v) w) : bodyPostM Fence.wide 20 P fn R .ret a w := by
  show LeavesInM _ _ _ _ _ _ a.defers .returning w
  rw [hd]
  exact ⟨v, hres, hR⟩
theorem marks_ret {P : Program} {fn : Func} {R : Ending → World → Prop} {a : Act} {w : World} {v : Value} {D : Nat} (hd : a.defers = [{ target := .collected D, args := #[] }]) (hD : w.heap[D]? = some (.deferred (some []))) (hres : ∀ w, (results fn a.tmps).run P w = .ok v w)
    (hR : R (.returned v) (w.putObj D (.deferred none))) : bodyPostM Fence.wide 20 P fn R .ret a w := by
  show LeavesInM _ _ _ _ _ _ a.defers .returning w
  rw [hd]
  exact ⟨by simp, .inl ⟨_, _, rfl, run_takeDeferred hD, ⟨v, hres _, hR⟩⟩⟩
theorem Sat.putDef {E : Env} {w : World} {D : Nat} {o : Obj} {p : HP} (h : Sat E w (HP.pt D o * p)) (o' : Obj) : Sat E (w.putObj D o') (HP.pt D o' * p) := by
  have hlt := h.lt
  refine h.turn ⟨rfl, rfl, rfl, by simp⟩ ?_ fun k hk _ => putObj_heap_ne w D o' k hk
  simp [World.putObj, hlt]
end
end Go.Proofs.Ytjlfhfknnpjikaa
/- A disk's files gone through in any order, each turned as it comes. -/
namespace Go.Proofs.Ytjlfhfknnpjikaa
open Go.RowKit HP
set_option linter.unusedSimpArgs false
set_option linter.unusedVariables false

theorem wpList_load_run {P : Program} {ops : Array Oper} {rest : List Oper} {o : Oper} {a : Act} {w : World} {Q : Exit → Act → World → Prop} {ty : TypeId} {p : Operand} {adr : Addr} {V : Value} (hg : o.guard = none) (ho : o.op = .load ty p) (hp : a.eval p = .pointer (some adr)) (hr : (loadVar ty adr).run P w = .ok V w)
    (h : wpList P ops Q rest (a.put o.dst V) w) : wpList P ops Q (o :: rest) a w := wpList_value hg (exec_load ho hp hr) h
theorem wpList_store_run {P : Program} {ops : Array Oper} {rest : List Oper} {o : Oper} {a : Act} {w w' : World} {Q : Exit → Act → World → Prop} {ty : TypeId} {p v : Operand} {adr : Addr} {V : Value} (hg : o.guard = none) (ho : o.op = .store ty p v) (hp : a.eval p = .pointer (some adr)) (hv : a.eval v = V) (hd : o.dst = none) (hr : (storeVar ty adr V).run P w = .ok () w')
    (h : wpList P ops Q rest a w') : wpList P ops Q (o :: rest) a w :=
  wpList_plain hg fun K' hK' => wp_store_run ho hp hv hd hr (hK' _ _ h)
theorem wp_copy_run {P : Program} {o : Oper} {a : Act} {w w' : World} {K : Act → World → Prop} {Q : Exit → Act → World → Prop} {x y : Operand} {t s : TypeId} {X Y V : Value} (ho : o.op = .call { callee := .builtin .copy, args := #[x, y], argTypes := #[t, s] }) (hx : a.eval x = X) (hy : a.eval y = Y)
    (hr : (Builtin.copy_ #[t, s] o.type #[X, Y]).run P w = .ok V w') (h : K (a.put o.dst V) w') : o.wp P a w K Q := by
  unfold Oper.wp execOp
  simp only [ho, resolve, invoke, builtin, Sem.run_bind, Sem.run_pure, Result.andThen_ok, List.map_toArray, List.map_cons, List.map_nil, hx, hy, hr]
  exact h

/-- The file at a place, and what becomes of the disk when its extents are laid anew. -/
theorem dk_file {E : Env} {q : HP} {w : World} {d m : Nat} {room fuse : Int} {es : Array MapEntry} {clock : Nat} {fs : List Fil} (hw : Sat E w (HP.dk d room fuse m es clock fs * q)) {j : Nat} {f : Fil} (hj : fs[j]? = some f) :
    ∃ R0 : HP, Sat E w (HP.row 76 1 f.val f.cels.length (celPtrs f.cels) * (HP.cels f.cels * (R0 * q))) ∧
      ∀ (w' : World) (cels' : List (Nat × Cel)), cels'.map (·.1) = f.cels.map (·.1) → Sat E w' (HP.row 76 1 f.val f.cels.length (celPtrs f.cels) * (HP.cels cels' * (R0 * q))) →
        Sat E w' (HP.dk d room fuse m es clock (fs.set j ⟨f.name, f.val, cels'⟩) * q) := by
  have h1 := dk_parts hw
  have h2 : Sat E w (HP.all (fs.map HP.fil) * (HP.dsk d room fuse m * (HP.pt m (.map es clock) * q))) := h1.perm (by ac_rfl)
  rw [all_take (l := fs.map HP.fil) (j := j) (p := HP.fil f) (by rw [List.getElem?_map, hj]; rfl)] at h2
  refine ⟨HP.all ((fs.map HP.fil).eraseIdx j) * (HP.dsk d room fuse m * HP.pt m (.map es clock)), h2.perm (by unfold HP.fil HP.cels Fil.ptrs celPtrs; ac_rfl), fun w' cels' hfst h => ?_⟩
  have hjl : j < fs.length := (List.getElem?_eq_some_iff.1 hj).1
  have hlen : cels'.length = f.cels.length := by simpa using congrArg List.length hfst
  unfold HP.dk
  rw [all_take (l := (fs.set j (⟨f.name, f.val, cels'⟩ : Fil)).map HP.fil) (j := j) (p := HP.fil ⟨f.name, f.val, cels'⟩) (by rw [List.getElem?_map, List.getElem?_set]; simp [hjl])]
  rw [List.map_set, List.eraseIdx_set_eq]
  have hp : (⟨f.name, f.val, cels'⟩ : Fil).ptrs = celPtrs f.cels := by
    show cels'.map (fun x => Value.pointer (some ⟨x.1, 0, none⟩)) = _
    unfold celPtrs
    have := congrArg (List.map fun b : Nat => Value.pointer (some ⟨b, 0, none⟩)) hfst
    simpa [List.map_map, Function.comp_def] using this
  have e1 : HP.fil ⟨f.name, f.val, cels'⟩ = HP.row 76 1 f.val f.cels.length (celPtrs f.cels) * HP.cels cels' := by
    unfold HP.fil HP.cels
    rw [hp]
    show HP.row 76 1 f.val cels'.length _ * _ = _
    rw [hlen]
  rw [e1]
  exact h.perm (by ac_rfl)

/-- The next file that comes, or the end. -/
theorem next_file {E : Env} {q : HP} {w : World} {d m g : Nat} {room fuse : Int} {es : Array MapEntry} {clock c0 : Nat} {seen : Array Nat} {fs : List Fil} (hm : MapOf es clock fs) (hc : clock ≤ c0) (h : Sat E w (HP.pt g (.mapIter (some m) clock seen c0) * (HP.dk d room fuse m es clock fs * q))) (ty : TypeId) :
    (leftL es seen = [] ∧ (Instr.next (.pointer (some ⟨g, 0, none⟩)) false ty).run Try.prog w = .ok (.tuple #[.bool false]) w) ∨
    ∃ (j : Nat) (f : Fil) (e : MapEntry) (w2 : World), fs[j]? = some f ∧ es.toList[j]? = some e ∧ e ∈ leftL es seen ∧ (Instr.next (.pointer (some ⟨g, 0, none⟩)) false ty).run Try.prog w = .ok (.tuple #[.bool true, .string f.name, f.val]) w2 ∧
      (Instr.entry (.pointer (some ⟨g, 0, none⟩))).run Try.prog w2 = .ok (.tuple #[.string f.name, f.val]) w2 ∧ Sat E w2 (HP.pt g (.mapIter (some m) clock (seen.push e.born) clock) * (HP.dk d room fuse m es clock fs * q)) := by
  have hb : w.heap[m]? = some (.map es clock) := by
    have h1 : Sat E w (HP.pt m (.map es clock) * (HP.pt g (.mapIter (some m) clock seen c0) * (HP.dsk d room fuse m * (HP.all (fs.map HP.fil) * q)))) := h.perm (by unfold HP.dk; ac_rfl)
    exact h1.get
  rcases run_next_at (P := Try.prog) w ty g m clock c0 seen es clock h.get hb hm.2.2.2.1 hc with ⟨hz, hnext⟩ | ⟨e, he, w2, hw2, hnext⟩
  · exact .inl ⟨by rw [← leftOf_eq]; exact List.eq_nil_of_length_eq_zero (by simpa using hz), hnext⟩
  · have he' : e ∈ leftL es seen := by rw [← leftOf_eq]; exact he
    have hes : e ∈ es.toList := (List.mem_filter.1 he').1
    have S2 : Sat E w2 (HP.pt g (.mapIter (some m) clock seen c0) * (HP.dk d room fuse m es clock fs * q)) := by
      rcases hw2 with rfl | rfl
      · exact h
      · exact h.drew
    have S3 := Sat.setBlock S2 (.mapIter (some m) clock (seen.push e.born) clock)
    have hb3 : (ChangeMaps.setBlock w2 g (.mapIter (some m) clock (seen.push e.born) clock)).heap[m]? = some (.map es clock) := by
      have h1 : Sat E _ (HP.pt m (.map es clock) * (HP.pt g (.mapIter (some m) clock (seen.push e.born) clock) * (HP.dsk d room fuse m * (HP.all (fs.map HP.fil) * q)))) := S3.perm (by unfold HP.dk; ac_rfl)
      exact h1.get
    have hent := run_entry_at (P := Try.prog) _ g m clock seen es clock e S3.get hb3 hes hm.2.2.2.2
    obtain ⟨j, hj⟩ := List.getElem?_of_mem hes
    have h6 := congrArg (fun l => l[j]?) hm.2.1
    simp only [List.getElem?_map, hj, Option.map_some] at h6
    cases hf : fs[j]? with
    | none => rw [hf] at h6; cases h6
    | some f =>
      rw [hf] at h6
      simp only [Option.map_some, Option.some.injEq, Prod.mk.injEq] at h6
      refine .inr ⟨j, f, e, _, hf, hj, he', ?_, ?_, S3⟩
      · rw [← h6.1, ← h6.2]; exact hnext
      · rw [← h6.1, ← h6.2]; exact hent

/-- The files, those that came turned. -/
def seenMap (es : Array MapEntry) (seen : Array Nat) (g : Fil → Fil) (fs : List Fil) : List Fil := List.zipWith (fun e f => if seen.contains e.born then g f else f) es.toList fs
theorem seenMap_start {es : Array MapEntry} {g : Fil → Fil} {fs : List Fil} (hl : es.toList.length = fs.length) : seenMap es #[] g fs = fs := by
  unfold seenMap
  apply List.ext_getElem?
  intro i
  rw [List.getElem?_zipWith]
  by_cases h : i < fs.length
  · rw [List.getElem?_eq_getElem (by omega : i < es.toList.length), List.getElem?_eq_getElem h]; simp
  · rw [List.getElem?_eq_none (by omega : fs.length ≤ i), List.getElem?_eq_none (by omega : es.toList.length ≤ i)]
theorem seenMap_end {es : Array MapEntry} {seen : Array Nat} {g : Fil → Fil} {fs : List Fil} (hl : es.toList.length = fs.length) (h : leftL es seen = []) : seenMap es seen g fs = fs.map g := by
  unfold seenMap
  apply List.ext_getElem?
  intro i
  rw [List.getElem?_zipWith, List.getElem?_map]
  by_cases hi : i < fs.length
  · have hie : i < es.toList.length := by omega
    rw [List.getElem?_eq_getElem hie, List.getElem?_eq_getElem hi]
    have : seen.contains (es.toList[i]).born = true := by
      have h1 := List.filter_eq_nil_iff.1 h _ (List.getElem_mem hie)
      simpa using h1
    simp only [this, if_true, Option.map_some]
  · rw [List.getElem?_eq_none (by omega : fs.length ≤ i), List.getElem?_eq_none (by omega : es.toList.length ≤ i)]; rfl
theorem seenMap_at {es : Array MapEntry} {seen : Array Nat} {g : Fil → Fil} {fs : List Fil} {j : Nat} {f' : Fil} {e : MapEntry} (hj : es.toList[j]? = some e) (he : e ∈ leftL es seen) (h : (seenMap es seen g fs)[j]? = some f') : fs[j]? = some f' := by
  unfold seenMap at h
  rw [List.getElem?_zipWith, hj] at h
  have hs := (List.mem_filter.1 he).2
  cases hf : fs[j]? with
  | none => rw [hf] at h; cases h
  | some f =>
    rw [hf] at h
    simp only [Bool.not_eq_true', Bool.not_eq_eq_eq_not, Bool.not_true] at hs
    simp only [hs, Bool.false_eq_true, if_false, Option.some.injEq] at h
    rw [h]
theorem seenMap_next {es : Array MapEntry} {seen : Array Nat} {g : Fil → Fil} {fs : List Fil} {j : Nat} {f : Fil} {e : MapEntry} (hn : (es.toList.map (·.born)).Nodup) (hl : es.toList.length = fs.length) (hj : es.toList[j]? = some e) (hf : fs[j]? = some f) (he : e ∈ leftL es seen) :
    (seenMap es seen g fs).set j (g f) = seenMap es (seen.push e.born) g fs := by
  have hjl : j < es.toList.length := (List.getElem?_eq_some_iff.1 hj).1
  unfold seenMap
  apply List.ext_getElem?
  intro i
  rw [List.getElem?_set, List.getElem?_zipWith, List.getElem?_zipWith]
  by_cases hij : j = i
  · subst hij
    rw [hj, hf]
    simp [List.length_zipWith, ← hl, hjl]
    simpa using hjl
  · rw [if_neg hij]
    by_cases hi : i < fs.length
    · have hie : i < es.toList.length := by omega
      rw [List.getElem?_eq_getElem hie, List.getElem?_eq_getElem hi]
      have hne : (es.toList[i]).born ≠ e.born := by
        intro h1
        have e1 : (es.toList.map (·.born))[i]? = some e.born := by rw [List.getElem?_map, List.getElem?_eq_getElem hie]; simpa using h1
        have e2 : (es.toList.map (·.born))[j]? = some e.born := by rw [List.getElem?_map, hj]; rfl
        exact hij ((List.getElem?_inj (by simpa using hjl) hn).1 (e2.trans e1.symm))
      simp only [Array.contains_push]
      have : ((es.toList[i]).born == e.born) = false := by simpa using hne
      rw [this, Bool.or_false]
    · rw [List.getElem?_eq_none (by omega : fs.length ≤ i), List.getElem?_eq_none (by omega : es.toList.length ≤ i)]
theorem seenMap_same {es : Array MapEntry} {seen : Array Nat} {g : Fil → Fil} (hg : ∀ f, (g f).name = f.name ∧ (g f).val = f.val) {clock : Nat} {fs : List Fil} (hm : MapOf es clock fs) : MapOf es clock (seenMap es seen g fs) := by
  obtain ⟨h1, h2, h3, h4, h5⟩ := hm
  have hl : es.toList.length = fs.length := by simpa using congrArg List.length h2
  have hat : ∀ i : Nat, ((seenMap es seen g fs)[i]?).map (fun f : Fil => (f.name, f.val)) = (fs[i]?).map (fun f : Fil => (f.name, f.val)) := by
    intro i
    unfold seenMap
    rw [List.getElem?_zipWith]
    by_cases hi : i < fs.length
    · rw [List.getElem?_eq_getElem (by omega : i < es.toList.length), List.getElem?_eq_getElem hi]
      simp only [Option.map_some]
      split
      · rw [(hg _).1, (hg _).2]
      · rfl
    · rw [List.getElem?_eq_none (by omega : fs.length ≤ i), List.getElem?_eq_none (by omega : es.toList.length ≤ i)]
  have hmap : (seenMap es seen g fs).map (fun f : Fil => (f.name, f.val)) = fs.map (fun f : Fil => (f.name, f.val)) := List.ext_getElem? fun i => by rw [List.getElem?_map, List.getElem?_map, hat]
  refine ⟨h1, ?_, ?_, h4, h5⟩
  · rw [h2]
    have := congrArg (List.map fun x : ByteArray × Value => (Value.string x.1, x.2)) hmap
    simpa [List.map_map, Function.comp_def] using this.symm
  · have := congrArg (List.map Prod.fst) hmap
    simp only [List.map_map, Function.comp_def] at this
    rw [this]; exact h3
theorem left_less {es : Array MapEntry} {seen : Array Nat} {e : MapEntry} (hn : (es.toList.map (·.born)).Nodup) (he : e ∈ leftL es seen) : (leftL es (seen.push e.born)).length < (leftL es seen).length := by
  have hnd : ((leftL es seen).map (·.born)).Nodup := hn.sublist ((List.filter_sublist).map _)
  obtain ⟨-, h2⟩ := sum_step hnd he
  rw [left_push]
  omega

/-- Extents turned, the first k of them. -/
def mapPre (g : Nat → Cel → Cel) (l : List (Nat × Cel)) (k : Nat) : List (Nat × Cel) := l.mapIdx fun i x => if i < k then (x.1, g i x.2) else x
theorem mapPre_at {g : Nat → Cel → Cel} {l : List (Nat × Cel)} {k : Nat} (h : k < l.length) : (mapPre g l k)[k]? = some l[k] := by
  unfold mapPre
  rw [List.getElem?_mapIdx, List.getElem?_eq_getElem h]
  simp
theorem mapPre_next {g : Nat → Cel → Cel} {l : List (Nat × Cel)} {k : Nat} (h : k < l.length) : (mapPre g l k).set k ((l[k]).1, g k (l[k]).2) = mapPre g l (k + 1) := by
  unfold mapPre
  apply List.ext_getElem?
  intro i
  rw [List.getElem?_set, List.getElem?_mapIdx, List.getElem?_mapIdx]
  by_cases hik : k = i
  · subst hik
    simp [h, List.length_mapIdx]
  · rw [if_neg hik]
    by_cases hlt : i < k
    · simp [hlt, show i < k + 1 by omega]
    · simp [hlt, show ¬ i < k + 1 by omega]
theorem mapPre_fst (g : Nat → Cel → Cel) (l : List (Nat × Cel)) (k : Nat) : (mapPre g l k).map (·.1) = l.map (·.1) := by
  unfold mapPre
  apply List.ext_getElem?
  intro i
  rw [List.getElem?_map, List.getElem?_mapIdx, List.getElem?_map, Option.map_map]
  congr 1
  funext x
  simp only [Function.comp_apply]
  split <;> rfl
theorem mapPre_zero (g : Nat → Cel → Cel) (l : List (Nat × Cel)) : mapPre g l 0 = l := by
  unfold mapPre
  apply List.ext_getElem?
  intro i
  rw [List.getElem?_mapIdx]
  cases l[i]? <;> simp
theorem mapPre_all (g : Nat → Cel → Cel) (l : List (Nat × Cel)) : mapPre g l l.length = l.mapIdx fun i x => (x.1, g i x.2) := by
  unfold mapPre
  apply List.ext_getElem?
  intro i
  rw [List.getElem?_mapIdx, List.getElem?_mapIdx]
  by_cases h : i < l.length
  · simp [h]
  · rw [List.getElem?_eq_none (by omega)]; rfl

theorem lk_map {α β : Type} (h : ByteArray → α → β) (l : List (ByteArray × α)) (s : ByteArray) : lk (l.map fun x => (x.1, h x.1 x.2)) s = (lk l s).map (h s) := by
  induction l with
  | nil => rfl
  | cons x l ih =>
    obtain ⟨a, u⟩ := x
    rw [List.map_cons, lk_cons, lk_cons, ih]
    split
    · rename_i he; subst he; rfl
    · rfl
theorem lkF_map {g : Fil → Fil} {h : ByteArray → List Cel → List Cel} (hg : ∀ f, (g f).name = f.name ∧ (g f).cs = h f.name f.cs) (fs : List Fil) (s : ByteArray) : lkF (fs.map g) s = (lkF fs s).map (h s) := by
  unfold lkF
  induction fs with
  | nil => rfl
  | cons f fs ih =>
    rw [List.map_cons, List.find?_cons, List.find?_cons, (hg f).1]
    by_cases he : f.name = s
    · simp only [he, decide_true, Option.map_some]
      rw [(hg f).2, he]
    · simp only [he, decide_false]
      exact ih
theorem sorted_map {α β : Type} (h : ByteArray → α → β) {l : List (ByteArray × α)} (hs : Sorted l) : Sorted (l.map fun x => (x.1, h x.1 x.2)) := by
  unfold Sorted at hs ⊢
  rw [List.pairwise_map]
  exact hs
end Go.Proofs.Ytjlfhfknnpjikaa
/- A disk's file taken out, what lies beside left open. -/
namespace Go.Proofs.Ytjlfhfknnpjikaa
open Go.RowKit HP
set_option linter.unusedSimpArgs false
set_option linter.unusedVariables false

/-- The file at a place, and what becomes of the disk when its extents are laid anew. -/
theorem dk_fileQ {E : Env} {q : HP} {w : World} {d m : Nat} {room fuse : Int} {es : Array MapEntry} {clock : Nat} {fs : List Fil} (hw : Sat E w (HP.dk d room fuse m es clock fs * q)) {j : Nat} {f : Fil} (hj : fs[j]? = some f) :
    ∃ R0 : HP, Sat E w (HP.row 76 1 f.val f.cels.length (celPtrs f.cels) * (HP.cels f.cels * (R0 * q))) ∧
      ∀ (q' : HP) (w' : World) (cels' : List (Nat × Cel)), cels'.map (·.1) = f.cels.map (·.1) → Sat E w' (HP.row 76 1 f.val f.cels.length (celPtrs f.cels) * (HP.cels cels' * (R0 * q'))) →
        Sat E w' (HP.dk d room fuse m es clock (fs.set j ⟨f.name, f.val, cels'⟩) * q') := by
  have h1 := dk_parts hw
  have h2 : Sat E w (HP.all (fs.map HP.fil) * (HP.dsk d room fuse m * (HP.pt m (.map es clock) * q))) := h1.perm (by ac_rfl)
  rw [all_take (l := fs.map HP.fil) (j := j) (p := HP.fil f) (by rw [List.getElem?_map, hj]; rfl)] at h2
  refine ⟨HP.all ((fs.map HP.fil).eraseIdx j) * (HP.dsk d room fuse m * HP.pt m (.map es clock)), h2.perm (by unfold HP.fil HP.cels Fil.ptrs celPtrs; ac_rfl), fun q' w' cels' hfst h => ?_⟩
  have hjl : j < fs.length := (List.getElem?_eq_some_iff.1 hj).1
  have hlen : cels'.length = f.cels.length := by simpa using congrArg List.length hfst
  unfold HP.dk
  rw [all_take (l := (fs.set j (⟨f.name, f.val, cels'⟩ : Fil)).map HP.fil) (j := j) (p := HP.fil ⟨f.name, f.val, cels'⟩) (by rw [List.getElem?_map, List.getElem?_set]; simp [hjl])]
  rw [List.map_set, List.eraseIdx_set_eq]
  have hp : (⟨f.name, f.val, cels'⟩ : Fil).ptrs = celPtrs f.cels := by
    show cels'.map (fun x => Value.pointer (some ⟨x.1, 0, none⟩)) = _
    unfold celPtrs
    have := congrArg (List.map fun b : Nat => Value.pointer (some ⟨b, 0, none⟩)) hfst
    simpa [List.map_map, Function.comp_def] using this
  have e1 : HP.fil ⟨f.name, f.val, cels'⟩ = HP.row 76 1 f.val f.cels.length (celPtrs f.cels) * HP.cels cels' := by
    unfold HP.fil HP.cels
    rw [hp]
    show HP.row 76 1 f.val cels'.length _ * _ = _
    rw [hlen]
  rw [e1]
  exact h.perm (by ac_rfl)

theorem cel_whole {E : Env} {q : HP} {w : World} {b : Nat} {c : Cel} (h : Sat E w (HP.cel b c * q)) : Cells w (some ⟨b, 0, none⟩) c.vals := fun j u hj => ⟨_, rfl, by
  rw [addr_add, Nat.zero_add]
  have h1 : Sat E w (HP.pt b (.cells c.vals.toArray 80) * q) := h
  rw [h1.cell]
  simpa using hj⟩
end Go.Proofs.Ytjlfhfknnpjikaa
/- Arrays of bytes compared. -/
namespace Go.Proofs.Ytjlfhfknnpjikaa
open Go.RowKit HP
set_option linter.unusedSimpArgs false
set_option linter.unusedVariables false

theorem run_forIn_all {P : Program} {w : World} {f : Nat → Sem Bool} {g : Nat → Bool} : ∀ (l : List Nat), (∀ i ∈ l, (f i).run P w = .ok (g i) w) →
    ((do for i in l do
           if !(← f i) then return false
         pure true) : Sem Bool).run P w = .ok (l.all g) w
  | [], _ => by simp
  | i :: l, h => by
    have h0 := h i (List.mem_cons_self ..)
    have ih := run_forIn_all l (fun j hj => h j (List.mem_cons_of_mem _ hj))
    simp only [List.forIn_cons, Sem.run_bind, h0, Result.andThen_ok] at ih ⊢
    cases hg : g i
    · simp [hg]
    · simp [hg] at ih ⊢
      exact ih
theorem run_equalIn_arr {P : Program} {w : World} {d n : Nat} {t e : TypeId} {k : IntKind} (ht : P.underlying t = some (.array n e)) (he : P.underlying e = some (.int k)) (hs : (P.info? e).map (·.size) = some 1) (hp : ∀ (xs : Array Value) (off : Nat) (v : Value), xs[off]? = some v → (part e xs off).run P w = .ok v w)
    (a b : List Int) (ha : a.length = n) (hb : b.length = n) :
    (Op.equalIn (d + 2) t (.agg (b8s a).toArray) (.agg (b8s b).toArray)).run P w = .ok (decide (a = b)) w := by
  have hsz : (Go.sizeOf e).run P w = .ok 1 w := by
    cases hq : P.info? e with
    | none => simp [hq] at hs
    | some i =>
      have hs : i.size = 1 := by simpa [hq] using hs
      simp [Go.sizeOf, typeInfo, hq, hs]
  have hall : ((List.range' 0 n).all fun i => a.getD i 0 == b.getD i 0) = decide (a = b) := by
    rw [Bool.eq_iff_iff]
    simp only [List.all_eq_true, List.mem_range'_1, beq_iff_eq, decide_eq_true_eq]
    constructor
    · intro h
      apply List.ext_getElem (by omega)
      intro i h1 h2
      have := h i (by omega)
      simpa [List.getD, h1, h2] using this
    · rintro rfl i _
      rfl
  rw [← hall]
  have key := run_forIn_all (P := P) (w := w) (f := fun i => do Op.equalIn (d + 1) e (← part e (b8s a).toArray (i * 1)) (← part e (b8s b).toArray (i * 1))) (g := fun i => a.getD i 0 == b.getD i 0) (List.range' 0 n) (by
    intro i hi
    simp only [List.mem_range'_1] at hi
    have h1 : i < a.length := by omega
    have h2 : i < b.length := by omega
    have p1 := hp (b8s a).toArray (i * 1) (.int .u8 (a.getD i 0)) (by simp [b8s, h1, List.getD])
    have p2 := hp (b8s b).toArray (i * 1) (.int .u8 (b.getD i 0)) (by simp [b8s, h2, List.getD])
    simp only [Sem.run_bind, p1, p2, Result.andThen_ok]
    exact run_equalIn_int w d e .u8 k _ _ he)
  unfold Op.equalIn
  simp only [Sem.run_bind, run_underlying ht, Result.andThen_ok, hsz]
  rw [Std.Legacy.Range.forIn_eq_forIn_range'] 
  simp only [Sem.run_bind, bind_assoc] at key ⊢
  have e0 : List.range' [:n].start [:n].size [:n].step = List.range' 0 n := by simp [Std.Legacy.Range.size]
  rw [e0]
  exact key

theorem run_neq_u8s {P : Program} {w : World} {n : Nat} {t e : TypeId} {k : IntKind} (ht : P.underlying t = some (.array n e)) (he : P.underlying e = some (.int k)) (hs : (P.info? e).map (·.size) = some 1) (hp : P.plainKey e = true)
    (a b : List Int) (ha : a.length = n) (hb : b.length = n) : (binOp .neq t (.agg (b8s a).toArray) (.agg (b8s b).toArray)).run P w = .ok (.bool (!(decide (a = b)))) w := by
  rw [run_neq_struct, run_equalIn_arr (d := 9998) ht he hs (fun xs off v h => run_part_plain w hp h) a b ha hb]
  rfl
theorem exec_binop {P : Program} {o : Oper} {a : Act} {w : World} {op : BinOp} {t ty : TypeId} {x y : Operand} {X Y V : Value} (ho : o.op = .binOp op t x y ty) (hx : a.eval x = X) (hy : a.eval y = Y) (hg : (eqGuard op t x y X Y).run P w = .ok () w) (hr : (binOp op t X Y).run P w = .ok V w) :
    (execOp a.eval o).run P w = .ok (.value V) w := by
  unfold execOp
  rw [ho]
  simp only [hx, hy, Sem.run_bind, hg, hr, Result.andThen_ok]
  rfl
end Go.Proofs.Ytjlfhfknnpjikaa
/- What a crash is told to keep, in cells. -/
namespace Go.Proofs.Ytjlfhfknnpjikaa
open Go.RowKit HP

structure Kep where
  name : ByteArray
  index : Int
  bytes : Int
def Kep.vals (k : Kep) : List Value := [.string k.name, .int .i64 k.index, .int .i64 k.bytes]
def kepCells (l : List Kep) : List Value := l.flatMap Kep.vals
end Go.Proofs.Ytjlfhfknnpjikaa
/- slices.Backward at what a crash keeps: the elements come, the last one first. -/
namespace Go.Proofs.Ytjlfhfknnpjikaa
open Go.RowKit Go.Shelf HP
set_option linter.unusedSimpArgs false
set_option linter.unusedVariables false
attribute [local go_sem] Oper.semAt_some

/-- What a crash keeps of an extent. -/
theorem kepCells_at (l : List Kep) (i : Nat) (k : Kep) (h : l[i]? = some k) : (kepCells l)[3 * i]? = some (.string k.name) ∧ (kepCells l)[3 * i + 1]? = some (.int .i64 k.index) ∧ (kepCells l)[3 * i + 2]? = some (.int .i64 k.bytes) := by
  induction l generalizing i with
  | nil => simp at h
  | cons x l ih =>
    have e : kepCells (x :: l) = [.string x.name, .int .i64 x.index, .int .i64 x.bytes] ++ kepCells l := rfl
    rw [e]
    cases i with
    | zero =>
      simp only [List.getElem?_cons_zero, Option.some.injEq] at h
      subst h
      simp
    | succ i =>
      simp only [List.getElem?_cons_succ] at h
      obtain ⟨h1, h2, h3⟩ := ih i h
      rw [List.getElem?_append_right (by simp; omega), List.getElem?_append_right (by simp; omega), List.getElem?_append_right (by simp; omega)]
      simp only [List.length_cons, List.length_nil, Nat.zero_add, Nat.reduceAdd]
      rw [show 3 * (i + 1) - 3 = 3 * i by omega, show 3 * (i + 1) + 1 - 3 = 3 * i + 1 by omega, show 3 * (i + 1) + 2 - 3 = 3 * i + 2 by omega]
      exact ⟨h1, h2, h3⟩
def downs (n k : Nat) : List Nat := ((List.range n).reverse).take (n - k)
theorem downs_all (n : Nat) : downs n 0 = (List.range n).reverse := by
  unfold downs
  rw [List.take_of_length_le (by simp)]
theorem downs_none (n : Nat) : downs n n = [] := by simp [downs]
theorem downs_next {n k : Nat} (h : k < n) : downs n k = downs n (k + 1) ++ [k] := by
  unfold downs
  rw [show n - k = (n - (k + 1)) + 1 by omega, List.take_succ_eq_append_getElem (by simp; omega)]
  congr 1
  simp
  omega
theorem downs_length {n k : Nat} (h : k ≤ n) : (downs n k).length = n - k := by simp [downs]
def kepArgs (L : List Kep) (x : Nat) : Array Value := #[.int .i64 x, .agg (match L[x]? with | some k => k.vals.toArray | none => #[])]

set_option maxRecDepth 100000 in
set_option maxHeartbeats 2000000 in
theorem back1_in (n : Nat) (hn : 1 ≤ n) (l Bs : Nat) (A : Option Addr) (L : List Kep) (cap : Nat) (hreach : L.length ≤ 9223372036854775807) (J Jx : List Nat → World → Prop)
    (hY : ∀ pre x W, J pre W → pre.length < L.length → x < L.length → YieldAt Fence.wide (n - 1) Try.prog l (kepArgs L x) W fun e W' =>
      (e = .returned (.bool true) ∧ J (pre ++ [x]) W' ∧ KeepSl Bs A (kepCells L) W W') ∨ (e = .returned (.bool false) ∧ Jx (pre ++ [x]) W'))
    (W : World) (hBs : W.cell? ⟨Bs, 0, none⟩ = some (.slice A L.length cap)) (hc : Cells W A (kepCells L)) (h0 : J [] W) (hJ : AbidesFrom W.heap.size J) :
    CallsIn Fence.wide n Try.prog 71 #[.func (.yield l) #[] #[], .pointer (some ⟨Bs, 0, none⟩)] W fun e W' => (∃ v, e = .returned v) ∧
      ((∃ ys, ys = (List.range L.length).reverse ∧ J ys W') ∨ (∃ pre, Jx pre W')) := by
  refine callsIn_of_wp Try.func71 rfl trivial ?_ rfl
  simp only [Try.ntmps71, List.size_toArray, List.length_cons, List.length_nil, Nat.reduceAdd, Nat.reduceSub, Array.replicate_succ, Array.replicate_zero, List.push_toArray, List.append_toArray, List.nil_append, List.cons_append]
  have hw0 : IntKind.i64.wrap ((L.length : Int) - 1) = (L.length : Int) - 1 := IntWalk.i64_in _ (by omega)
  gi_wp2
  gi_loopw [3] (fun i wr => ∃ k : Nat, k ≤ L.length ∧ i = .int .i64 ((k : Int) - 1) ∧ J (downs L.length k) wr ∧ KeepSl Bs A (kepCells L) W wr)
    (fun i _ => (intOf i + 1).toNat)
  case atStart => exact ⟨L.length, Nat.le_refl _, rfl, by rw [downs_none]; exact h0, KeepSl.refl _⟩
  case round =>
    clear hw0
    obtain ⟨k, hk, rfl, hJs, hnx⟩ := hrel
    have hc1 : wr.cell? ⟨Bs, 0, none⟩ = some (.slice A L.length cap) := (World.cell?_of_block (w := W) hnx.1).trans hBs
    have hcr := hnx.2 hc
    cases k with
    | succ k =>
      obtain ⟨fn, tmps, assign, body, hy, hR⟩ := hY (downs L.length (k + 1)) k wr hJs (by rw [downs_length hk]; omega) (by omega)
      clear hJs
      obtain ⟨kp, hkp⟩ : ∃ kp, L[k]? = some kp := ⟨_, List.getElem?_eq_getElem (by omega)⟩
      obtain ⟨hg0, g1, g2⟩ := kepCells_at L k kp hkp
      obtain ⟨pa, hpa, -⟩ := hcr _ _ hg0
      subst hpa
      have g0 := hcr.some_ _ _ hg0
      have g1 := hcr.some_ _ _ g1
      have g2 := hcr.some_ _ _ g2
      obtain ⟨g, o, rfl⟩ : ∃ g o, pa = ⟨g, o, none⟩ := slice_addr hcr rfl (k := 3 * k) (List.getElem?_eq_some_iff.1 hg0).1
      rw [addr_add] at g0 g1 g2
      simp only [kepArgs, hkp, Kep.vals] at hy
      have e1 : ((k + 1 : Nat) : Int) - 1 = (k : Int) := by omega
      rw [e1]
      have hk0 : (0 : Int) ≤ (k : Int) := by omega
      have hk1 : (k : Int) < (L.length : Int) := by omega
      have hw1 : IntKind.i64.wrap ((k : Int) - 1) = (k : Int) - 1 := IntWalk.i64_in _ (by omega)
      rw [Nat.mul_comm] at g0 g1 g2
      rw [← Nat.add_assoc] at g1 g2
      clear hcr hkp e1 hg0
      gi_wp2
      refine hR.mono ?_
      rintro ee W3 (⟨rfl, hJ3, hk3⟩ | ⟨rfl, hJx3⟩)
      · have hn1 := hnx.trans hk3
        clear hc1 g0 g1 g2
        gi_wp2
        go_roundw
        case rel => exact ⟨k, by omega, rfl, by rw [downs_next (by omega)]; exact hJ3, hn1⟩
        case measure => simp [intOf]
      · gi_wp2
        refine bodyPost_ret (results_none rfl _ _ _) rfl ?_
        exact ⟨⟨_, rfl⟩, .inr ⟨_, hJx3⟩⟩
    | zero =>
      rw [downs_all] at hJs
      gi_wp2
      go_end0
      exact ⟨⟨_, rfl⟩, .inl ⟨_, rfl, hJs⟩⟩
theorem back_stops (n : Nat) (hn : 1 ≤ n) (Bs : Nat) (A : Option Addr) (L : List Kep) (cap : Nat) (hreach : L.length ≤ 9223372036854775807) (w : World) (hBs : Bs < w.heap.size)
    (hcs : w.cell? ⟨Bs, 0, none⟩ = some (.slice A L.length cap)) (hc : Cells w A (kepCells L)) :
    SeqStopsK Fence.wide n Try.prog 71 #[.pointer (some ⟨Bs, 0, none⟩)] (fun x : { x : Nat // x < L.length } => kepArgs L x.1) (KeepSl Bs A (kepCells L))
      (fun ys => ys.map (·.1) = (List.range L.length).reverse) (fun _ => True) L.length w := fun l J Jx W hW hJ hJx hY h0 => by
  have hcs' := (hW.cell (p := ⟨Bs, 0, none⟩) hBs).trans hcs
  have hc' : Cells W A (kepCells L) := hc.carry hW.block
  refine (back1_in n hn l Bs A L cap hreach (fun ys W => ∃ zs : List { x : Nat // x < L.length }, zs.map (·.1) = ys ∧ J zs W) (fun ys W => ∃ zs : List { x : Nat // x < L.length }, zs.map (·.1) = ys ∧ Jx zs W) ?_ W hcs' hc' ⟨[], rfl, h0⟩ ?_).mono ?_
  · rintro pre x W1 ⟨zs, rfl, hj⟩ hl hx
    obtain ⟨fn, tmps, assign, body, hy, hR⟩ := hY zs ⟨x, hx⟩ W1 hj (by simpa using hl)
    refine ⟨fn, tmps, assign, body, hy, hR.mono ?_⟩
    rintro e W' (⟨rfl, h1, h2⟩ | ⟨rfl, h1⟩)
    · exact .inl ⟨rfl, ⟨_, by simp, h1⟩, h2⟩
    · exact .inr ⟨rfl, ⟨_, by simp, h1⟩⟩
  · rintro s W1 W2 row ⟨zs, hz, hj⟩ hg hr
    exact ⟨zs, hz, hJ _ _ _ _ hj hg hr⟩
  · rintro e W' ⟨he, ⟨ys, rfl, zs, hz, hj⟩ | ⟨pre, zs, hz, hj⟩⟩
    · exact ⟨he, .inl ⟨zs, hz, hj⟩⟩
    · exact ⟨he, .inr ⟨zs, trivial, hj⟩⟩
end Go.Proofs.Ytjlfhfknnpjikaa
/- (*Disk).Crash: the model; what is kept. -/
namespace Go.Proofs.Ytjlfhfknnpjikaa
open Go.RowKit HP
set_option linter.unusedSimpArgs false
set_option linter.unusedVariables false

def clampK (n : Int) : Int := min (max n 0) 128
/-- How many bytes a crash keeps of an extent. -/
def keepOf (K : List Kep) (s : ByteArray) (i : Int) : Int :=
  match K.find? (fun k => decide (k.name = s) && decide (k.index = i)) with
  | some k => clampK k.bytes
  | none => 0
theorem clampK_range (n : Int) : 0 ≤ clampK n ∧ clampK n ≤ 128 := by unfold clampK; omega
theorem keepOf_range (K : List Kep) (s : ByteArray) (i : Int) : 0 ≤ keepOf K s i ∧ keepOf K s i ≤ 128 := by
  unfold keepOf
  split
  · exact clampK_range _
  · omega
theorem keepOf_cons (x : Kep) (K : List Kep) : keepOf (x :: K) = spotPut (keepOf K) x.name x.index (clampK x.bytes) := by
  funext s i
  unfold keepOf spotPut
  rw [List.find?_cons]
  by_cases h : s = x.name ∧ i = x.index
  · rw [if_pos h, h.1, h.2]; simp
  · rw [if_neg h]
    have : (decide (x.name = s) && decide (x.index = i)) = false := by
      simp only [Bool.and_eq_false_iff, decide_eq_false_iff_not]
      by_cases h1 : x.name = s
      · exact .inr fun h2 => h ⟨h1.symm, h2.symm⟩
      · exact .inl h1
    rw [this]
noncomputable def keepFold (K : List Kep) (pre : List Nat) : ByteArray → Int → Int :=
  pre.foldl (fun f x => match K[x]? with | some k => spotPut f k.name k.index (clampK k.bytes) | none => f) (fun _ _ => 0)
theorem keepFold_snoc (K : List Kep) (pre : List Nat) (x : Nat) (k : Kep) (h : K[x]? = some k) : keepFold K (pre ++ [x]) = spotPut (keepFold K pre) k.name k.index (clampK k.bytes) := by
  unfold keepFold
  rw [List.foldl_append, List.foldl_cons, List.foldl_nil, h]
theorem keepFold_downs (K : List Kep) : ∀ (n k : Nat), n = K.length → k ≤ n → keepFold K (downs n k) = keepOf (K.drop k) := by
  intro n k hn hk
  obtain ⟨d, hd⟩ : ∃ d, d = n - k := ⟨_, rfl⟩
  induction d generalizing k with
  | zero =>
    have : k = n := by omega
    subst this
    rw [downs_none, List.drop_eq_nil_of_le (by omega)]
    rfl
  | succ d ih =>
    have hlt : k < K.length := by omega
    rw [downs_next (by omega), keepFold_snoc K _ k K[k] (List.getElem?_eq_getElem hlt), ih (k + 1) (by omega) (by omega), List.drop_eq_getElem_cons hlt, keepOf_cons]
theorem keepFold_all (K : List Kep) : keepFold K (List.range K.length).reverse = keepOf K := by
  rw [← downs_all, keepFold_downs K K.length 0 rfl (Nat.zero_le _), List.drop_zero]
def Cel.crashd (c : Cel) (n : Int) : Cel :=
  if c.waits then { c with read := c.written.take n.toNat ++ c.durable.drop n.toNat, durable := c.written.take n.toNat ++ c.durable.drop n.toNat, waits := false } else c
theorem Cel.crashd_fine {c : Cel} (h : c.Fine) {n : Int} (hn : 0 ≤ n ∧ n ≤ 128) : (c.crashd n).Fine := by
  unfold Cel.crashd
  split
  · have e : (c.written.take n.toNat ++ c.durable.drop n.toNat).length = 128 := by
      rw [List.length_append, List.length_take, List.length_drop, h.2.2.2, h.2.1]; omega
    exact ⟨e, e, h.2.2.1, h.2.2.2⟩
  · exact h
def crashL (K : List Kep) (s : ByteArray) (l : List Cel) : List Cel := l.mapIdx fun i c => c.crashd (keepOf K s i)
def Dk.crash (A : Dk) (K : List Kep) : Dk := { A with fuse := -1, files := A.files.map fun x => (x.1, crashL K x.1 x.2) }

set_option maxHeartbeats 1000000 in
set_option maxRecDepth 100000 in
theorem backward_ok (A : Option Addr) (n c : Nat) (w : World) :
    Calls Try.prog 58 #[.slice A n c] w fun e w' =>
      e = .returned (.func (.func 71) #[] #[.pointer (some ⟨w.heap.size, 0, none⟩)]) ∧ w' = w.alloc (.cells #[.slice A n c] 50) := by
  go_enter Try.func58, Try.ntmps58
  go_wp2
  go_ret
  exact ⟨rfl, rfl⟩
theorem wpListIn_mapUpdate_run {F : Fence} {N : Nat} {P : Program} {ops : Array Oper} {rest : List Oper} {o : Oper} {a : Act} {w w' : World} {Q : Exit → Act → World → Prop} (hg : o.guard = none) {m x v : Operand} {t : TypeId} (hop : o.op = Op.mapUpdate t m x v)
    {M K V : Value} (hm : a.eval m = M) (hx : a.eval x = K) (hv : a.eval v = V) (hr : (Instr.mapUpdate t M K V).run P w = .ok () w')
    (h : wpListIn F N P ops Q rest (a.put o.dst undef) w') : wpListIn F N P ops Q (o :: rest) a w := by
  refine wpListIn_plain hg fun K' hK' => ?_
  unfold Oper.wpIn
  refine ⟨?_, ?_⟩
  · simp [Oper.about, hop, resolve, Target.leads, Sem.run_pure]
  · rw [Oper.semAt_plain F _ _ (by rw [hop]; intro c hc'; cases hc')]
    simp [execOp, hop, hm, hx, hv, hr, Result.andThen]
    exact hK' _ _ h
def sub1 {n : Nat} (l : List { x : Nat // x < n }) : List Nat := l.map (·.1)
theorem sub1_snoc {n : Nat} (l : List { x : Nat // x < n }) (x : { x : Nat // x < n }) : sub1 (l ++ [x]) = sub1 l ++ [x.1] := by simp [sub1]
def kepA (K : List Kep) (x : Nat) : Array Value := match K[x]? with | some k => k.vals.toArray | none => #[]
/-- What is kept, as a map. -/
def HP.keeps (mf : Nat) (f : ByteArray → Int → Int) : HP := HP.ex fun x : Array MapEntry × Nat => HP.fact (SpotMap x.1 f) * HP.pt mf (.map x.1 x.2)
theorem HP.keeps_solid {B mf : Nat} (h : mf < B) (f : ByteArray → Int → Int) : Solid B (HP.keeps mf f) := by
  rintro k ⟨x, h1, h2, hd, hu, ⟨_, hf⟩, hp⟩ b o hb
  rw [hu b, hf b] at hb
  exact Solid.pt_below h (.map x.1 x.2) h2 hp b o (by simpa using hb)
theorem Sat.keeps_open {E : Env} {q : HP} {w : World} {mf : Nat} {f : ByteArray → Int → Int} (h : Sat E w (HP.keeps mf f * q)) : ∃ es clock, SpotMap es f ∧ Sat E w (HP.pt mf (.map es clock) * q) := by
  obtain ⟨x, h⟩ := h.ex_elim
  obtain ⟨h1, h2⟩ := (h.perm (HP.mul_assoc _ _ _)).fact_elim
  exact ⟨x.1, x.2, h1, h2⟩
theorem Sat.keeps_close {E : Env} {q : HP} {w : World} {mf : Nat} {f : ByteArray → Int → Int} {es : Array MapEntry} {clock : Nat} (hf : SpotMap es f) (h : Sat E w (HP.pt mf (.map es clock) * q)) : Sat E w (HP.keeps mf f * q) :=
  Sat.ex_intro (es, clock) ((Sat.fact_intro hf h).perm (HP.mul_assoc _ _ _).symm)
end Go.Proofs.Ytjlfhfknnpjikaa
/- (*Disk).Crash: what each file comes to. -/
namespace Go.Proofs.Ytjlfhfknnpjikaa
open Go.RowKit HP
set_option linter.unusedSimpArgs false
set_option linter.unusedVariables false
def crashFil (K : List Kep) (f : Fil) : Fil := ⟨f.name, f.val, f.cels.mapIdx fun i x => (x.1, x.2.crashd (keepOf K f.name i))⟩
theorem crashL_length (K : List Kep) (s : ByteArray) (l : List Cel) : (crashL K s l).length = l.length := by simp [crashL]
theorem Dk.crash_fine {A : Dk} (h : A.Fine) (K : List Kep) : (A.crash K).Fine := by
  refine ⟨sorted_map (crashL K) h.sorted, fun x hx => ?_, fun x hx c hc => ?_, h.room, ⟨by show (-1 : Int) ≤ -1; omega, by show (-1 : Int) ≤ _; omega⟩, ?_⟩
  · obtain ⟨y, hy, rfl⟩ := List.mem_map.1 hx
    obtain ⟨h1, h2⟩ := h.named y hy
    refine ⟨h1, fun h0 => h2 ?_⟩
    have := crashL_length K y.1 y.2
    have h0 : crashL K y.1 y.2 = [] := h0
    rw [h0] at this
    exact List.eq_nil_of_length_eq_zero this.symm
  · obtain ⟨y, hy, rfl⟩ := List.mem_map.1 hx
    have hc : c ∈ crashL K y.1 y.2 := hc
    unfold crashL at hc
    obtain ⟨i, hi⟩ := List.getElem?_of_mem hc
    rw [List.getElem?_mapIdx] at hi
    obtain ⟨c0, hc0, rfl⟩ := Option.map_eq_some_iff.1 hi
    exact Cel.crashd_fine (h.cels y hy c0 (List.mem_of_getElem? hc0)) (keepOf_range _ _ _)
  · have : sizeF (A.crash K).files = sizeF A.files := by
      unfold Dk.crash sizeF
      simp only [List.map_map, Function.comp_def, crashL_length]
    rw [this]; exact h.fits
theorem crashFil_cs (K : List Kep) (f : Fil) : (crashFil K f).cs = crashL K f.name f.cs := by
  unfold Fil.cs crashFil crashL
  apply List.ext_getElem?
  intro i
  simp only [List.getElem?_map, List.getElem?_mapIdx, Option.map_map]
  rfl
theorem View.crash {A : Dk} {es : Array MapEntry} {clock : Nat} {fs : List Fil} (h : View A es clock fs) (K : List Kep) : View (A.crash K) es clock (fs.map (crashFil K)) := by
  refine ⟨?_, fun s => ?_, Dk.crash_fine h.fine K⟩
  · obtain ⟨h1, h2, h3, h4, h5⟩ := h.map
    refine ⟨h1, ?_, ?_, h4, h5⟩
    · rw [h2, List.map_map]; rfl
    · rw [List.map_map]; exact h3
  · rw [lkF_map (g := crashFil K) (h := crashL K) (fun f => ⟨rfl, crashFil_cs K f⟩), h.same]
    exact (lk_map (crashL K) A.files s).symm
theorem crash_splice {c : Cel} (h : c.Fine) {n : Nat} (hn : n ≤ 128) : splice c.vals 128 (b8s (c.written.take n)) = ({ c with durable := c.written.take n ++ c.durable.drop n } : Cel).vals := by
  have e : c.vals = b8s c.read ++ (b8s (c.durable.take n) ++ (b8s (c.durable.drop n) ++ (b8s c.synced ++ (b8s c.written ++ [.bool c.waits])))) := by
    unfold Cel.vals
    rw [← List.append_assoc (b8s (c.durable.take n))]
    have : b8s (c.durable.take n) ++ b8s (c.durable.drop n) = b8s c.durable := by
      unfold b8s
      rw [← List.map_append, List.take_append_drop]
    rw [this]
  rw [e, splice_mid _ _ _ _ (off := 128) (by rw [b8s_length, h.1]) (by simp [b8s_length, h.2.1, h.2.2.2])]
  simp [Cel.vals, b8s]
end Go.Proofs.Ytjlfhfknnpjikaa
/- (*Disk).Crash: the walk. -/
namespace Go.Proofs.Ytjlfhfknnpjikaa
open Go.RowKit HP
attribute [local go_sem] Oper.semAt_some
set_option linter.unusedSimpArgs false
set_option linter.unusedVariables false

set_option maxHeartbeats 4000000 in
set_option maxRecDepth 100000 in
theorem disk_crash (E : Env) (q : HP) (d : Nat) (A : Dk) (Ak : Option Addr) (K : List Kep) (ck : Nat) (w : World) (hK : K.length ≤ 9223372036854775807) (hwf : ∀ k ∈ K, k.name.size ≤ maxLen ∧ wf64 k.index ∧ wf64 k.bytes) (hq : ∀ E w, Sat E w q → Cells w Ak (kepCells K)) (hw : Sat E w (HP.disk d A * q)) :
    Calls Try.prog 30 #[.pointer (some ⟨d, 0, none⟩), .slice Ak K.length ck] w fun e w' => e = .returned (.int .i64 0) ∧ Sat E w' (HP.disk d (A.crash K) * q) := by
  obtain ⟨m, es, clock, fs, hv, hd⟩ := hw.disk_open
  clear hw
  refine calls_of_wp_marks Try.func30 rfl ?_
  simp only [Try.ntmps30, List.size_toArray, List.length_cons, List.length_nil, Nat.reduceAdd, Nat.reduceSub, Array.replicate_succ, Array.replicate_zero, List.push_toArray, List.append_toArray, List.nil_append, List.cons_append]
  go_wp2_with fail
  refine (disk_none E _ d _ _ m w (dk_parts hd)).mono ?_
  rintro e w1 ⟨rfl, rfl⟩
  have c2 := (dk_parts hd).cell 2
  simp only [List.getElem?_toArray, List.getElem?_cons_zero, List.getElem?_cons_succ] at c2
  have f2 := (dk_parts hd).thaw 2
  have hmm := @run_makeMap Try.prog
  have h3 := (dk_parts hd).set (i := 2) (.int .i64 (-1))
  go_wp2_with fail
  refine (backward_ok Ak K.length ck _).mono ?_
  rintro e w3 ⟨rfl, rfl⟩
  have hsz : (w1.setCell ⟨d, 2, none⟩ (.int .i64 (-1))).heap.size = w1.heap.size := by simp [World.setCell]
  have hS := ((h3.alloc (.map #[] 0)).alloc (.cells #[.map (some w1.heap.size)] 103)).alloc (.cells #[.slice Ak K.length ck] 50)
  simp only [World.size_alloc, hsz] at hS
  simp only [World.size_alloc, hsz]
  clear h3 hsz c2 f2 hmm
  generalize w1.heap.size = b0 at *
  generalize World.alloc (World.alloc _ _) _ = w4 at *
  go_wp2
  have hS1 : Sat E w4 (HP.keeps b0 (fun _ _ => 0) * (HP.pt (b0 + 1 + 1) (.cells #[.slice Ak K.length ck] 50) * (HP.pt (b0 + 1) (.cells #[.map (some b0)] 103) * (HP.dk d A.room (-1) m es clock fs * q)))) :=
    Sat.keeps_close SpotMap.empty (hS.perm (by unfold HP.dk HP.dsk; simp only [List.setIfInBounds_toArray, List.set_cons_zero, List.set_cons_succ]; ac_rfl))
  have hlt : b0 + 1 + 1 < w4.heap.size := hS.lt
  clear hS hd
  have hqk : ∀ (E' : Env) W p, Sat E' W (p * (HP.pt (b0 + 1 + 1) (.cells #[.slice Ak K.length ck] 50) * (HP.pt (b0 + 1) (.cells #[.map (some b0)] 103) * (HP.dk d A.room (-1) m es clock fs * q)))) → W.cell? ⟨b0 + 1 + 1, 0, none⟩ = some (.slice Ak K.length ck) ∧ W.heap[b0 + 1 + 1]? = some (.cells #[.slice Ak K.length ck] 50) := fun E' W p h => ⟨h.s2.cell 0, h.s2.get⟩
  have hqc : ∀ (E' : Env) W p, Sat E' W (p * (HP.pt (b0 + 1 + 1) (.cells #[.slice Ak K.length ck] 50) * (HP.pt (b0 + 1) (.cells #[.map (some b0)] 103) * (HP.dk d A.room (-1) m es clock fs * q)))) → W.cell? ⟨b0 + 1, 0, none⟩ = some (.map (some b0)) := fun E' W p h => h.s3.cell 0
  have hq' : ∀ (E' : Env) W p, Sat E' W (p * (HP.pt (b0 + 1 + 1) (.cells #[.slice Ak K.length ck] 50) * (HP.pt (b0 + 1) (.cells #[.map (some b0)] 103) * (HP.dk d A.room (-1) m es clock fs * q)))) → Cells W Ak (kepCells K) := fun E' W p h => hq E' W h.right.right.right.right
  refine wp_range_sat (α := { x : Nat // x < K.length }) rfl (enters_of Try.func71 (by kernel_rfl) rfl)
    (back_stops 19 (by omega) (b0 + 1 + 1) Ak K ck hK w4 hlt (hqk _ _ _ hS1).1 (hq' _ _ _ hS1)) (fun h k => h.trans k) (fun W l o o' hl ho h1 _ => KeepSl.put (by omega) ho h1 o')
    (fun E1 E2 W W' p p' h1 h2 => ⟨(hqk _ _ _ h2).2.trans (hqk _ _ _ h1).2.symm, fun _ => hq' _ _ _ h2⟩) (fun _ => rfl)
    (fun pre => HP.keeps b0 (keepFold K (sub1 pre))) (fun pre => HP.keeps_solid (by omega) _) hS1
    (fun x a' W => ∃ b, w4.heap.size ≤ b ∧ W.heap[b]? = some (.cells (kepA K x.1) 59) ∧ a' = { tmps := #[.pointer (some ⟨d, 0, none⟩), .slice Ak K.length ck, undef, undef, .int .i64 0, .pointer (some ⟨b0 + 1, 0, none⟩), undef, .pointer (some ⟨b, 0, none⟩), undef, undef, undef, undef, .pointer (some ⟨d, 0, none⟩), .bool false, .pointer (some ⟨d, 0, none⟩), .pointer (some ⟨d, 0, none⟩), .pointer (some ⟨d, 2, none⟩), .map (some b0), .slice Ak K.length ck, .func (Fn.func 71) #[] #[.pointer (some ⟨b0 + 1 + 1, 0, none⟩)], .int .i64 x.1, .agg (kepA K x.1), undef, undef, undef, undef, undef, undef, undef, undef, undef, undef, undef, undef, undef, undef, undef, undef, undef, undef, undef, undef, undef, undef, undef, undef, undef, undef, undef, undef, undef, undef, undef, undef, undef, undef, undef, undef, undef, undef, undef, undef, undef, undef, undef, undef, undef, undef, undef, undef, undef, undef, undef, undef, undef, undef, undef, undef, undef], defers := [] }) ?hAx ?assign ?body ?done
  case hAx =>
    rintro x a' s W W' row ⟨b, hb, ho, rfl⟩ hg hr
    refine ⟨b, hb, ?_, rfl⟩
    rw [hg.block b (Array.getElem?_eq_some_iff.1 ho).1 (fun e => ?_)]
    · exact ho
    · obtain ⟨-, o, h1, h2⟩ := hr b e.symm
      rw [ho] at h1; cases h1; cases h2
  case assign =>
    intro l x W K' hsz hK'
    obtain ⟨kp, hkp⟩ : ∃ kp, K[x.1]? = some kp := ⟨_, List.getElem?_eq_getElem x.2⟩
    have e1 : kepArgs K x.1 = #[.int .i64 x.1, .agg #[.string kp.name, .int .i64 kp.index, .int .i64 kp.bytes]] := by simp [kepArgs, hkp, Kep.vals]
    rw [e1]
    clear hq hq' hqk hqc hS1
    gi_wp2
    exact hK' _ _ ((Below.refl _ _).alloc (Nat.le_refl _) _) ⟨W.heap.size, hsz, by rw [heap_alloc_new]; simp [kepA, hkp, Kep.vals], by simp [kepA, hkp, Kep.vals]⟩
  case body =>
    rintro E' q' l pre x a' W hqq hI ⟨b, hbl, hbo, rfl⟩ hpre
    obtain ⟨kp, hkp⟩ : ∃ kp, K[x.1]? = some kp := ⟨_, List.getElem?_eq_getElem x.2⟩
    have e1 : kepA K x.1 = #[.string kp.name, .int .i64 kp.index, .int .i64 kp.bytes] := by simp [kepA, hkp, Kep.vals]
    rw [e1] at hbo ⊢
    obtain ⟨hk1, hk2, hk3⟩ := hwf kp (List.mem_of_getElem? hkp)
    have g0 := cell_of_row W b 0 _ _ _ hbo
    have g1 := cell_of_row W b 1 _ _ _ hbo
    have g2 := cell_of_row W b 2 _ _ _ hbo
    simp only [List.getElem?_toArray, List.getElem?_cons_zero, List.getElem?_cons_succ] at g0 g1 g2
    have c1 := hqc _ _ _ (hqq _ _ hI)
    obtain ⟨kes, kclock, hsm, hI2⟩ := hI.keeps_open
    obtain ⟨es', clock', hrun, hsm'⟩ := hsm.update hI2.get hk1 hk2 (v := clampK kp.bytes)
    have HT := Aside.mk (Sat.keeps_close hsm' (Sat.setBlk hI2 (.map es' clock')))
    have HX : Aside (keepFold K (sub1 (pre ++ [x])) = spotPut (keepFold K (sub1 pre)) kp.name kp.index (clampK kp.bytes)) := ⟨by rw [sub1_snoc, keepFold_snoc K _ x.1 kp hkp]⟩
    clear hq hq' hqk hqc hS1 hqq hI hI2 hsm hsm' hkp e1 hbo hwf
    have hcl : Aside ((if 128 < (if kp.bytes < 0 then 0 else kp.bytes) then 128 else if kp.bytes < 0 then 0 else kp.bytes) = clampK kp.bytes) := ⟨by unfold clampK; split <;> split <;> omega⟩
    gi_wp2_with (gi_at_mapUpdate; refine wpListIn_mapUpdate_run rfl rfl rfl rfl (congrArg (Value.int .i64) hcl.out) hrun ?_)
    all_goals
      show Sat E' _ _
      rw [HX.out]
      exact HT.out
  case done =>
    intro D xs W hxs hI
    have hxs : sub1 xs = _ := hxs
    rw [hxs, keepFold_all] at hI
    have hI2 : Sat E W (HP.dsk d A.room (-1) m * (HP.pt m (.map es clock) * (HP.all (fs.map HP.fil) * (HP.pt D (.deferred (some [])) * (HP.keeps b0 (keepOf K) * (HP.pt (b0 + 1) (.cells #[.map (some b0)] 103) * q)))))) := Sat.right (p := HP.pt (b0 + 1 + 1) (.cells #[.slice Ak K.length ck] 50)) (hI.perm (by unfold HP.dk; ac_rfl))
    clear hS1 hqk hqc hq' hxs hI hq
    have c1 := hI2.cell 1
    simp only [List.getElem?_toArray, List.getElem?_cons_zero, List.getElem?_cons_succ] at c1
    have hrg := run_range_map (P := Try.prog) (t := 67) Try.underlying67 hI2.s2.get
    have HS0 := Aside.mk (hI2.alloc (.mapIter (some m) clock #[] clock))
    clear hI2
    have HM := Aside.mk hv.map
    have hlen : es.toList.length = fs.length := by simpa using congrArg List.length hv.map.2.1
    have HV := Aside.mk (And.intro hv hlen)
    clear hv hlen
    go_wp2
    generalize W.heap.size = g at *
    generalize World.alloc _ _ = w0 at *
    go_loopw [8] (fun x8 wr => ∃ (seen : Array Nat) (c0 : Nat), clock ≤ c0 ∧ Aside (Sat E wr (HP.pt g (.mapIter (some m) clock seen c0) * (HP.dk d A.room (-1) m es clock (seenMap es seen (crashFil K) fs) * (HP.pt D (.deferred (some [])) * (HP.keeps b0 (keepOf K) * (HP.pt (b0 + 1) (.cells #[.map (some b0)] 103) * q)))))))
      (fun _ wr => match wr.heap[g]? with | some (.mapIter _ _ seen _) => (leftL es seen).length | _ => 0)
    case atStart => exact ⟨#[], clock, Nat.le_refl _, ⟨by rw [seenMap_start HV.out.2]; exact HS0.out.perm (by unfold HP.dk; ac_rfl)⟩⟩
    case round =>
      clear HS0 hrg c1
      obtain ⟨seen, c0, hc0, HS⟩ := hrel
      have hsame := seenMap_same (seen := seen) (g := crashFil K) (fun f => ⟨rfl, rfl⟩) HM.out
      rcases next_file hsame hc0 HS.out 0 with ⟨hend, hnext⟩ | ⟨j, f, e, w2, hj, hje, hel, hnext, hent, h2⟩
      · have hfin := HS.out.right
        rw [seenMap_end HV.out.2 hend] at hfin
        have hD : wr.heap[D]? = some (.deferred (some [])) := (hfin.s2).get
        have HF := Aside.mk (And.intro hfin hD)
        clear HS hsame hend hfin hD
        go_wp2
        refine marks_ret rfl HF.out.2 (fun w => results_tmp rfl _ _ _) ⟨rfl, ?_⟩
        have h7 := (HF.out.1.s2).putDef (.deferred none)
        have h8 : Sat E _ (HP.dk d A.room (-1) m es clock (List.map (crashFil K) fs) * q) := h7.right.perm rfl |>.of_mul_mono (fun _ h => h) |> fun h => (Sat.right (p := HP.keeps b0 (keepOf K) * HP.pt (b0 + 1) (.cells #[.map (some b0)] 103)) (h.perm (by ac_rfl)))
        exact Sat.disk_close (HV.out.1.crash K) h8
      · have hjf := seenMap_at hje hel hj
        obtain ⟨R0, h3, hback⟩ := dk_file (h2.perm (HP.left_comm _ _ _)) hj
        obtain ⟨B, cc, hvB, -, -⟩ := h3.row_slice
        have hfm := HV.out.1.mem (List.mem_of_getElem? hjf)
        have hfs : f.cels.length ≤ 100000 := by
          have h7 := at_small HV.out.1.fine f.name
          rw [Dk.at, lk_of_mem HV.out.1.fine.sorted hfm] at h7
          simpa [Fil.cs] using h7
        have HFine : Aside (∀ x ∈ f.cels, x.2.Fine) := ⟨fun x hx => HV.out.1.cel_fine (List.mem_of_getElem? hjf) hx⟩
        have hnm : f.name.size ≤ maxLen := by
          have h7 := (HV.out.1.fine.named _ hfm).1
          unfold namedB at h7
          simp only [Bool.and_eq_true, decide_eq_true_eq] at h7
          unfold maxLen
          omega
        rw [hvB] at hnext hent h3 hback
        have HC := Aside.mk (And.intro hback (And.intro hjf (And.intro hje (And.intro hel hvB))))
        have H3 := Aside.mk h3
        have HG1 := Aside.mk HS.out.get
        clear HS hsame h2 hback h3 hjf hje hel hj hvB hfm
        obtain ⟨n, hnn⟩ : ∃ n, n = f.cels.length := ⟨_, rfl⟩
        rw [← hnn] at H3 HC hfs hnext hent
        have HN := Aside.mk hnn
        clear hnn
        go_wp2
        obtain ⟨wo, rfl⟩ : ∃ wo : World, wo = wr := ⟨_, rfl⟩
        go_loopw [44] (fun x wr => ∃ k : Nat, x = .int .i64 k ∧ k ≤ n ∧ Aside (Sat E wr (HP.row 76 1 (.slice B n cc) n (celPtrs f.cels) * (HP.cels (mapPre (fun i c => c.crashd (keepOf K f.name i)) f.cels k) * (R0 * (HP.pt g (.mapIter (some m) clock (seen.push e.born) clock) * (HP.pt D (.deferred (some [])) * (HP.keeps b0 (keepOf K) * (HP.pt (b0 + 1) (.cells #[.map (some b0)] 103) * q))))))))) (fun x _ => n - (intOf x).toNat)
        case atStart => exact ⟨0, rfl, Nat.zero_le _, ⟨by rw [mapPre_zero]; exact H3.out⟩⟩
        case round =>
          clear H3 hnext hent
          obtain ⟨k, rfl, hk, HR⟩ := hrel
          by_cases hlt : k < n
          · have hkf : k < f.cels.length := by have := HN.out; omega
            have hrow := HR.out
            obtain ⟨pa, hpa, hcx⟩ := hrow.row_cells.at_ k (by simp [celPtrs, hkf])
            obtain ⟨pg, po, rfl⟩ : ∃ g o, pa = ⟨g, o, none⟩ := slice_addr hrow.row_cells hpa (k := k) (by simp [celPtrs, hkf])
            subst hpa
            rw [addr_add] at hcx
            simp only [celPtrs, List.getElem_map] at hcx
            obtain ⟨Rk, h5, hRk, hbackk⟩ := cels_take (hrow.s2) (mapPre_at hkf)
            have hxf : (f.cels[k]).2.Fine := HFine.out _ (List.getElem_mem hkf)
            have hnext : Aside (∀ w', Sat E w' (HP.cel (f.cels[k]).1 ((f.cels[k]).2.crashd (keepOf K f.name k)) * Rk) → Sat E w' (HP.row 76 1 (.slice (some ⟨pg, po, none⟩) n cc) n (celPtrs f.cels) * (HP.cels (mapPre (fun i c => c.crashd (keepOf K f.name i)) f.cels (k + 1)) * (R0 * (HP.pt g (.mapIter (some m) clock (seen.push e.born) clock) * (HP.pt D (.deferred (some [])) * (HP.keeps b0 (keepOf K) * (HP.pt (b0 + 1) (.cells #[.map (some b0)] 103) * q)))))))) := ⟨fun w' h => by
              have := hbackk w' _ h
              rw [mapPre_next (g := fun i c => c.crashd (keepOf K f.name i)) hkf] at this
              exact this.s2⟩
            generalize f.cels[k] = x at *
            obtain ⟨bk, c⟩ := x
            dsimp only at *
            have cw := cel_waits h5 hxf
            have hk0 : (0 : Int) ≤ (k : Int) := by omega
            have hk1 : (k : Int) < (n : Int) := by omega
            have hkr := keepOf_range K f.name k
            obtain ⟨nn, hnn⟩ := Int.eq_ofNat_of_zero_le hkr.1
            rw [hnn] at hkr
            have hn8 : nn ≤ 128 := by omega
            have hq5 := hRk _ h5.right
            have c5 := (hq5.right.right.right.right.right).cell 0
            simp only [List.getElem?_toArray, List.getElem?_cons_zero, List.getElem?_cons_succ] at c5
            obtain ⟨kes, kcl, hsm, hk5⟩ := (hq5.right.right.right.right).keeps_open
            have hlk := hsm.lookup (w := wr.drew) hk5.drew.get hnm (i := (k : Int)) ⟨by omega, by omega⟩
            rw [hnn] at hlk
            unfold spotV at hlk
            clear HR hrow hbackk hq5 hk5 hsm hRk
            cases hcw : c.waits with
            | true =>
              rw [hcw] at cw
              have hcp : (Builtin.copy_ #[22, 22] 3 #[.slice (some ⟨bk, 128, none⟩) nn 128, .slice (some ⟨bk, 384, none⟩) 128 128]).run Try.prog wr.drew = .ok (goInt (b8s (c.written.take nn)).length) (wr.drew.setRow bk (splice c.vals 128 (b8s (c.written.take nn))).toArray) := run_copy_row (P := Try.prog) wr.drew 22 22 3 5 bk 128 nn 128 ⟨bk, 384, none⟩ 128 128 c.vals.toArray 80 (b8s (c.written.take nn)) Try.underlying22 (by kernel_rfl) (Sat.get (q := Rk) h5.drew)
                (by rw [b8s_length, List.length_take, hxf.2.2.2]; show min nn 128 = min 128 nn; omega)
                (fun i u hu => by
                  have h9 := (cel_written h5.drew hxf).take nn
                  have e9 : (b8s c.written).take nn = b8s (c.written.take nn) := by simp [b8s]
                  rw [e9] at h9
                  exact h9.some_ _ _ hu)
                (by rw [b8s_length, List.length_take, hxf.2.2.2, List.size_toArray, Cel.vals_length hxf]; omega) (fun u hu => List.all_eq_true.1 (b8s_one _) u hu)
              have h6 := Sat.splice (E := E) (q := Rk) (g := bk) (t := 80) (cur := c.vals.toArray) h5.drew (splice c.vals 128 (b8s (c.written.take nn)))
              have hfd : (c.written.take nn ++ c.durable.drop nn).length = 128 := by rw [List.length_append, List.length_take, List.length_drop, hxf.2.2.2, hxf.2.1]; omega
              have hxf6 : ({ c with durable := c.written.take nn ++ c.durable.drop nn } : Cel).Fine := ⟨hxf.1, hfd, hxf.2.2.1, hxf.2.2.2⟩
              rw [crash_splice hxf hn8] at hcp h6
              generalize World.setRow wr.drew bk _ = w6 at hcp h6
              have h6 : Sat E w6 (HP.cel bk { c with durable := c.written.take nn ++ c.durable.drop nn } * Rk) := h6
              have hld := run_loadAgg agImg (by rw [b8s_length]; exact hfd) (cel_durable h6 hxf6)
              obtain ⟨w7, hs1, h7⟩ := cel_store (off := 0) (l := c.written.take nn ++ c.durable.drop nn) (c' := { c with read := c.written.take nn ++ c.durable.drop nn, durable := c.written.take nn ++ c.durable.drop nn }) h6 hxf6 hfd (by omega) (set_read hxf6 hfd)
              have hxf7 : ({ c with read := c.written.take nn ++ c.durable.drop nn, durable := c.written.take nn ++ c.durable.drop nn } : Cel).Fine := ⟨hfd, hfd, hxf.2.2.1, hxf.2.2.2⟩
              have c7 := cel_waits h7 hxf7
              have f7 := cel_thaw h7 512
              have HH := Aside.mk (hnext.out _ (by
                have h8 := cel_set_waits h7 hxf7 false
                have e8 : c.crashd (keepOf K f.name k) = { c with read := c.written.take nn ++ c.durable.drop nn, durable := c.written.take nn ++ c.durable.drop nn, waits := false } := by
                  unfold Cel.crashd
                  rw [hcw, hnn, Int.toNat_natCast]; rfl
                rw [e8]
                exact h8))
              generalize (b8s (c.written.take nn ++ c.durable.drop nn)).toArray = img at *
              generalize goInt (b8s (c.written.take nn)).length = gi at hcp
              clear hnext h5 h6 h7 hxf hxf6 hxf7 hcw hnn hfd
              go_wp2
              refine region_R [13] [] (fun _ => True) #[false, false, false, false, false, false, false, false, false, false, false, false, false, false] (by kernel_rfl) rfl rfl ?_
              refine wpR_rd 0 #[true, false, false, false, false, false, false, false, false, false, false, false, false, false] rfl onlyN_noPanic (by kernel_rfl) (fun K hK => ?_); (go_simp; try go_bits); refine hK _ ?_; clear hK K
              refine wpR_rd 1 #[true, true, false, false, false, false, false, false, false, false, false, false, false, false] rfl onlyN_noPanic (by kernel_rfl) (fun K hK => ?_); (go_simp; try go_bits); refine hK _ ?_; clear hK K
              refine wpR_rd 2 #[true, true, true, false, false, false, false, false, false, false, false, false, false, false] rfl onlyN_noPanic (by kernel_rfl) (fun K hK => ?_); (go_simp; try go_bits); refine hK _ ?_; clear hK K
              refine wpR_rd 3 #[true, true, true, true, false, false, false, false, false, false, false, false, false, false] rfl onlyN_noPanic (by kernel_rfl) (fun K hK => ?_); (go_simp; try go_bits); refine hK _ ?_; clear hK K
              refine wpR_rd 4 #[true, true, true, true, true, false, false, false, false, false, false, false, false, false] rfl onlyN_noPanic (by kernel_rfl) (fun K hK => ?_); (go_simp; try go_bits); refine hK _ ?_; clear hK K
              refine wpR_rd 5 #[true, true, true, true, true, true, false, false, false, false, false, false, false, false] rfl onlyN_noPanic (by kernel_rfl) (fun K hK => ?_); (go_simp; try go_bits); refine hK _ ?_; clear hK K
              refine wpR_rd 6 #[true, true, true, true, true, true, true, false, false, false, false, false, false, false] rfl onlyN_noPanic (by kernel_rfl) (fun K hK => ?_); (go_simp; try go_bits); refine hK _ ?_; clear hK K
              refine wpR_rd 7 #[true, true, true, true, true, true, true, true, false, false, false, false, false, false] rfl onlyN_noPanic (by kernel_rfl) (fun K hK => ?_); (go_simp; try go_bits); refine hK _ ?_; clear hK K
              refine wpR_rd 8 #[true, true, true, true, true, true, true, true, true, false, false, false, false, false] rfl onlyN_noPanic (by kernel_rfl) (fun K hK => ?_); (go_simp; try go_bits); refine hK _ ?_; clear hK K
              refine wpR_rd 9 #[true, true, true, true, true, true, true, true, true, true, false, false, false, false] rfl onlyN_noPanic (by kernel_rfl) (fun K hK => ?_); (go_simp; try go_bits); refine hK _ ?_; clear hK K
              refine wpR_rd 10 #[true, true, true, true, true, true, true, true, true, true, true, false, false, false] rfl onlyN_noPanic (by kernel_rfl) (fun K hK => ?_); (go_simp; try go_bits); refine hK _ ?_; clear hK K
              refine wpR_rd 11 #[true, true, true, true, true, true, true, true, true, true, true, true, false, false] rfl onlyN_noPanic (by kernel_rfl) (fun K hK => ?_); (go_simp; try go_bits); refine hK _ ?_; clear hK K
              refine wpR_rd 12 #[true, true, true, true, true, true, true, true, true, true, true, true, true, false] rfl onlyN_noPanic (by kernel_rfl) (fun K hK => ?_); (go_simp; try go_bits); refine hK _ ?_; clear hK K
              refine wpR_eff #[true, true, true, true, true, true, true, true, true, true, true, true, true, true] (i := 13) rfl (by kernel_rfl) (fun K hK => ?_)
              refine Eq.mpr (if_pos (by rfl)) ?_; refine wp_copy_run rfl rfl rfl hcp ?_; refine hK _ _ ?_; clear hK K
              simp only [Act.put, List.setIfInBounds_toArray, List.set_cons_zero, List.set_cons_succ]
              refine wpR_done (by kernel_rfl) ?_ _
              simp only [OnlyN]
              clear hcx hlk hcp cw c5
              go_wp2_with (first | (refine wpList_load_run rfl rfl rfl hld ?_) | (refine wpList_store_run rfl rfl rfl rfl rfl hs1 ?_))
              go_roundw
              case rel => exact ⟨k + 1, by go_num, by omega, HH⟩
              case measure => simp [intOf]; omega
            | false =>
              rw [hcw] at cw
              have hsy : c.crashd (keepOf K f.name k) = c := by simp [Cel.crashd, hcw]
              rw [hsy] at hnext
              have HH := Aside.mk (hnext.out _ h5)
              clear hnext h5 hxf hcw hsy hlk hnn hkr
              go_wp2
              go_roundw
              case rel => exact ⟨k + 1, by go_num, by omega, HH⟩
              case measure => simp [intOf]; omega
          · have hkn : k = f.cels.length := by have := HN.out; omega
            have HT : Aside (Sat E wr (HP.pt g (.mapIter (some m) clock (seen.push e.born) clock) * (HP.dk d A.room (-1) m es clock (seenMap es (seen.push e.born) (crashFil K) fs) * (HP.pt D (.deferred (some [])) * (HP.keeps b0 (keepOf K) * (HP.pt (b0 + 1) (.cells #[.map (some b0)] 103) * q)))))) := ⟨by
              have h7 := HR.out
              rw [hkn, mapPre_all] at h7
              obtain ⟨hback, hjf, hje, hel, hvB⟩ := HC.out
              have h8 := hback wr _ (by simpa [mapPre_all] using mapPre_fst (fun i c => c.crashd (keepOf K f.name i)) f.cels f.cels.length) h7
              have e8 : (seenMap es seen (crashFil K) fs).set j ⟨f.name, .slice B n cc, f.cels.mapIdx fun i x => (x.1, x.2.crashd (keepOf K f.name i))⟩ = seenMap es (seen.push e.born) (crashFil K) fs := by
                rw [← hvB]
                exact seenMap_next (g := crashFil K) HM.out.2.2.2.2 HV.out.2 hje hjf hel
              rw [e8] at h8
              exact h8.perm (HP.left_comm _ _ _)⟩
            have HLS : Aside ((leftL es (seen.push e.born)).length < (leftL es seen).length) := ⟨left_less HM.out.2.2.2.2 HC.out.2.2.2.1⟩
            clear HR HC HFine hkn
            go_wp2
            go_roundw
            case rel => exact ⟨seen.push e.born, clock, Nat.le_refl _, HT⟩
            case measure =>
              have h8 := HT.out.get
              rw [h8, HG1.out]
              exact HLS.out
end Go.Proofs.Ytjlfhfknnpjikaa
/- Bytes: compared, made, copied; a step's own bytes. -/
namespace Go.Proofs.Ytjlfhfknnpjikaa
open Go.RowKit HP
set_option linter.unusedSimpArgs false
set_option linter.unusedVariables false

def Bytes (l : List Int) : Prop := ∀ x ∈ l, 0 ≤ x ∧ x ≤ 255
def strOf (l : List Int) : ByteArray := l.foldl (fun r n => r.push (UInt8.ofNat n.toNat)) ByteArray.empty
theorem strOf_go (l : List Int) : ∀ b : ByteArray, (l.foldl (fun r n => r.push (UInt8.ofNat n.toNat)) b).data.toList = b.data.toList ++ l.map fun n => UInt8.ofNat n.toNat := by
  induction l with
  | nil => intro b; simp
  | cons n l ih => intro b; rw [List.foldl_cons, ih]; simp [ByteArray.push]
theorem strOf_data (l : List Int) : (strOf l).data.toList = l.map fun n => UInt8.ofNat n.toNat := by
  rw [strOf, strOf_go]; rfl
theorem strOf_inj {a b : List Int} (ha : Bytes a) (hb : Bytes b) (h : strOf a = strOf b) : a = b := by
  have h1 : (a.map fun n => UInt8.ofNat n.toNat) = b.map fun n => UInt8.ofNat n.toNat := by rw [← strOf_data, ← strOf_data, h]
  have key : ∀ l : List Int, Bytes l → ((l.map fun n => UInt8.ofNat n.toNat).map fun u => (u.toNat : Int)) = l := by
    intro l hl
    rw [List.map_map]
    conv => rhs; rw [← List.map_id l]
    apply List.map_congr_left
    intro x hx
    have := hl x hx
    simp only [Function.comp_apply, id, UInt8.toNat_ofNat']
    omega
  rw [← key a ha, ← key b hb, h1]
theorem run_string {P : Program} {w : World} {src dst e : TypeId} {A : Option Addr} {l : List Int} {c : Nat} (hs : P.underlying src = some (.slice e)) (he : P.underlying e = some (.int .u8)) (hd : P.underlying dst = some .string)
    (h : Cells w A (b8s l)) : (convert src dst (.slice A l.length c)).run P w = .ok (.string (strOf l)) w := by
  rw [run_convert_bytes_string w src dst e A l.length c hs he hd]
  cases A with
  | none =>
    cases l with
    | nil => simp [Conv.bytesToString, strOf, Sem.run_pure]
    | cons x l =>
      obtain ⟨a, ha, _⟩ := h.at_ 0 (by simp [b8s])
      cases ha
  | some a =>
    refine run_bytesToString w a l.length c l ?_
    have := run_loadCells_list (P := P) (w := w) a (b8s l) (fun j u hj => h.some_ j u hj)
    simpa [b8s] using this

set_option maxHeartbeats 1000000 in
set_option maxRecDepth 100000 in
theorem bytesEqual_ok (A0 A1 : Option Addr) (l0 l1 : List Int) (c0 c1 : Nat) (w : World) (h0 : Cells w A0 (b8s l0)) (h1 : Cells w A1 (b8s l1)) (b0 : Bytes l0) (b1 : Bytes l1) :
    Calls Try.prog 19 #[.slice A0 l0.length c0, .slice A1 l1.length c1] w fun e w' => e = .returned (.bool (decide (l0 = l1))) ∧ w' = w := by
  have e0 := run_string (P := Try.prog) (c := c0) Try.underlying22 Try.underlying5 Try.underlying9 h0
  have e1 := run_string (P := Try.prog) (c := c1) Try.underlying22 Try.underlying5 Try.underlying9 h1
  have hd : ((strOf l0).toList == (strOf l1).toList) = decide (l0 = l1) := by
    rw [ByteArray.toList_eq, ByteArray.toList_eq]
    by_cases h : l0 = l1
    · simp [h]
    · have : ¬ (strOf l0).data.toList = (strOf l1).data.toList := fun h2 => h (strOf_inj b0 b1 (Go.WideShapes.bytes_inj h2))
      have h3 : ¬ (strOf l0).data = (strOf l1).data := fun h2 => this (by rw [h2])
      simp [h, h3]
  have HD := Aside.mk hd
  clear hd h0 h1
  go_enter Try.func19, Try.ntmps19
  go_wp2
  go_ret
  exact ⟨ret_bool HD.out, rfl⟩

theorem bytesEq_ok (A0 A1 : Option Addr) (l0 l1 : List Int) (n0 n1 c0 c1 : Nat) (w : World) (e0 : l0.length = n0) (e1 : l1.length = n1) (h0 : Cells w A0 (b8s l0)) (h1 : Cells w A1 (b8s l1)) (b0 : Bytes l0) (b1 : Bytes l1) :
    Calls Try.prog 19 #[.slice A0 n0 c0, .slice A1 n1 c1] w fun e w' => e = .returned (.bool (decide (l0 = l1))) ∧ w' = w := by
  subst e0
  subst e1
  exact bytesEqual_ok A0 A1 l0 l1 c0 c1 w h0 h1 b0 b1
theorem made_one (z : Value) (n : Nat) (h : z.cells = #[z]) : (madeCells z.cells n).toList = List.replicate n z := by
  rw [h]
  apply List.ext_getElem
  · simp [madeCells]
  · intro i h1 h2
    have e1 : i % 1 = 0 := Nat.mod_one i
    simp [madeCells, e1]
/-- 'make([]T, n)': a row of zeros. -/
theorem run_make_row {P : Program} {E : Env} {q : HP} {w : World} {t e : TypeId} {z : Value} {bytes : Nat} (T : SlTy P t e z 1 bytes) (hz1 : z.cells = #[z]) (h : Sat E w q) (n : Nat) (hn : n ≤ maxLen) (hb : n * bytes ≤ 140737488355328) (kl kc : IntKind) :
    ∃ w', (Instr.makeSlice t (.int kl n) (.int kc n)).run P w = .ok (.slice (some ⟨w.heap.size, 0, none⟩) n n) w' ∧ Sat E w' (HP.row e 1 (.slice (some ⟨w.heap.size, 0, none⟩) n n) n (List.replicate n z) * q) := by
  obtain ⟨i, hi, hz, hsize, hby⟩ := info_parts T.info
  have hn' : (n : Int) ≤ 9223372036854775807 := by unfold maxLen at hn; omega
  have hr := run_make (P := P) w t e i z T.under hi hz kl kc n n (by omega) (Int.le_refl _) (by rw [hby]; have : ((bytes * n : Nat) : Int) ≤ 140737488355328 := by rw [Nat.mul_comm]; omega
                                                                                                rw [Int.natCast_mul] at this; omega) hn'
  simp only [Int.toNat_natCast, hsize, Nat.mul_one] at hr
  refine ⟨_, hr, ?_⟩
  have h1 := h.alloc (.cells (madeCells z.cells n) e)
  have h2 := Sat.row_mk (n := n) (cap := n) (off := 0) (size := 1) (cs := List.replicate n z) h1 (Nat.le_refl _) hn (by simp [size_madeCells]) (by rw [made_one z n hz1]; simp)
  simpa using h2
/-- 'copy(dst, src)' into a row. -/
theorem run_copy_sat {P : Program} {E : Env} {q : HP} {w : World} {dT sT ty e : TypeId} {dA : Option Addr} {n c : Nat} {cs : List Value} (hu : P.underlying dT = some (.slice e)) (hs : (P.info? e).map (·.size) = some 1) (h : Sat E w (HP.row e 1 (.slice dA n c) n cs * q))
    {A : Option Addr} {m k : Nat} {src : List Value} (hm : src.length = m) (hsrc : Cells w A src) (h1 : src.all Value.oneCell' = true) :
    ∃ w', (Builtin.copy_ #[dT, sT] ty #[.slice dA n c, .slice A m k]).run P w = .ok (goInt (Nat.min m n)) w' ∧ Sat E w' (HP.row e 1 (.slice dA n c) n (src.take n ++ cs.drop m) * q) := by
  have hcl := h.row_cases.1
  rw [Nat.mul_one] at hcl
  obtain ⟨i, hi⟩ : ∃ i, P.info? e = some i := by
    cases hq : P.info? e with
    | none => simp [hq] at hs
    | some i => exact ⟨i, rfl⟩
  have hi1 : i.size = 1 := by simpa [hi] using hs
  rcases h.row_cases.2 with ⟨A', hv, hn, hq⟩ | ⟨g, off, cap, cur, hv, hnc, hcm, hsz, htk, hp⟩
  · cases hv
    have hz : cs = [] := List.eq_nil_of_length_eq_zero (by omega)
    subst hz
    refine ⟨w, ?_, by simpa using h⟩
    have hmin : Nat.min m 0 = 0 := Nat.min_zero m
    cases A with
    | none => cases dA <;> simp [Builtin.copy_, run_underlying hu, Builtin.lenOf, Builtin.firstCells, sizeOf, typeInfo, hi, hi1, hmin, storeCells, loadCells, loadCellsFrom]
    | some a => cases dA <;> simp [Builtin.copy_, run_underlying hu, Builtin.lenOf, Builtin.firstCells, sizeOf, typeInfo, hi, hi1, hmin, storeCells, loadCells, loadCellsFrom]
  · cases hv
    rw [Nat.mul_one] at *
    simp only [Nat.mul_one] at hsz htk
    cases A with
    | none =>
      have hs0 : src = [] := by
        cases src with
        | nil => rfl
        | cons x l => obtain ⟨a, ha, _⟩ := hsrc.at_ 0 (by simp); cases ha
      subst hs0
      obtain rfl : m = 0 := by simpa using hm.symm
      refine ⟨w, ?_, by simpa using h⟩
      have hmin : Nat.min 0 n = 0 := Nat.zero_min n
      simp [Builtin.copy_, run_underlying hu, Builtin.lenOf, Builtin.firstCells, sizeOf, typeInfo, hi, hi1, hmin, storeCells, loadCells, loadCellsFrom]
    | some a =>
      have hlt : (src.take n).length = Nat.min m n := by rw [List.length_take, hm, Nat.min_comm]
      have hle : (src.take n).length ≤ n := by rw [List.length_take]; omega
      have hr := run_copy_row (P := P) w dT sT ty e g off n c a m k cur e (src.take n) hu hs hp.get hlt (fun j u hj => (hsrc.take n).some_ j u hj) (by omega) (fun v hv => List.all_eq_true.1 h1 v (List.mem_of_mem_take hv))
      refine ⟨w.setRow g (splice cur.toList off (src.take n)).toArray, by rw [← hlt]; exact hr, ?_⟩
      have h2 := hp.splice (splice cur.toList off (src.take n))
      have hcur : cur.toList.length = cur.size := Array.length_toList
      have hlen : (splice cur.toList off (src.take n)).length = cur.size := by
        unfold splice
        simp only [List.length_append, List.length_take, List.length_drop, Array.length_toList]
        rw [List.length_take] at hle
        omega
      have h3 := Sat.row_mk (n := n) (cap := c) (off := off) (size := 1) (cs := src.take n ++ cs.drop m) h2 hnc hcm (by rw [List.size_toArray, hlen]; omega) (by
        rw [Nat.mul_one, Nat.mul_one]
        show ((splice cur.toList off (src.take n)).drop off).take n = _
        unfold splice
        rw [List.append_assoc, List.drop_append_of_le_length (by rw [List.length_take]; omega), List.drop_take, Nat.sub_self, List.take_zero, List.nil_append]
        rw [List.take_append]
        congr 1
        · rw [List.take_of_length_le hle]
        · rw [← htk, List.drop_take, List.drop_drop]
          by_cases hmn : m ≤ n
          · rw [List.length_take, Nat.min_eq_right (by omega), hm]
          · have e1 : (src.take n).length = n := by rw [List.length_take]; omega
            rw [e1, Nat.sub_self, List.take_zero, show n - m = 0 by omega, List.take_zero])
      rw [Nat.mul_one] at h3
      exact h3

/-- What was read as a step. -/
structure StepV where
  op : Int
  i : Int
  at_ : Int
  n : Int
  name : ByteArray
  b : Sl Int
  mask : Int
  kept : Sl Kep
def rdKep : Rd Kep := rdMap (rdPair rdStr (rdPair (rdInt .i64) (rdPair (rdInt .i64) rdEnd))) (fun x => (⟨x.1, x.2.1, x.2.2.1⟩ : Kep)) (fun k => (k.name, k.index, k.bytes, ())) (fun a => rfl)
theorem rdKep_at : rdKep.At Try.prog 59 :=
  rdStruct_at Try.underlying59 (total := 1 + (1 + (1 + 0))) (by kernel_rfl) (rdPair_fs rfl (by kernel_rfl) (rdStr_at Try.underlying9) (rdPair_fs rfl (by kernel_rfl) (rdInt_at Try.underlying3) (rdPair_fs rfl (by kernel_rfl) (rdInt_at Try.underlying3) (rdEnd_fs _)))) _ _ _
def rdStep : Rd StepV := rdMap (rdPair (rdInt .i64) (rdPair (rdInt .i64) (rdPair (rdInt .i64) (rdPair (rdInt .i64) (rdPair rdStr (rdPair (rdSl (rdInt .u8)) (rdPair (rdInt .u8) (rdPair (rdSl rdKep) rdEnd))))))))
  (fun x => (⟨x.1, x.2.1, x.2.2.1, x.2.2.2.1, x.2.2.2.2.1, x.2.2.2.2.2.1, x.2.2.2.2.2.2.1, x.2.2.2.2.2.2.2.1⟩ : StepV)) (fun s => (s.op, s.i, s.at_, s.n, s.name, s.b, s.mask, s.kept, ())) (fun a => rfl)
theorem rdStep_at : rdStep.At Try.prog 52 :=
  rdStruct_at Try.underlying52 (total := 1 + (1 + (1 + (1 + (1 + (1 + (1 + (1 + 0)))))))) (by kernel_rfl) (rdPair_fs rfl (by kernel_rfl) (rdInt_at Try.underlying3) (rdPair_fs rfl (by kernel_rfl) (rdInt_at Try.underlying3) (rdPair_fs rfl (by kernel_rfl) (rdInt_at Try.underlying3) (rdPair_fs rfl (by kernel_rfl) (rdInt_at Try.underlying3)
    (rdPair_fs rfl (by kernel_rfl) (rdStr_at Try.underlying9) (rdPair_fs rfl (by kernel_rfl) (rdSl_at (n := 1) Try.underlying22 (by kernel_rfl) (rdInt_at Try.underlying5)) (rdPair_fs rfl (by kernel_rfl) (rdInt_at Try.underlying5) (rdPair_fs rfl (by kernel_rfl) (rdSl_at (n := 3) Try.underlying50 (by kernel_rfl) rdKep_at) (rdEnd_fs _))))))))) _ _ _
def StepV.vals (s : StepV) : List Value := [.int .i64 s.op, .int .i64 s.i, .int .i64 s.at_, .int .i64 s.n, .string s.name, s.b.val, .int .u8 s.mask, s.kept.val]
theorem StepV.cells_eq (s : StepV) : rdStep.cells s = s.vals := rfl
structure StepV.Ok (W : World) (s : StepV) : Prop where
  op : wf64 s.op
  i : wf64 s.i
  at_ : wf64 s.at_
  n : wf64 s.n
  name : s.name.size ≤ maxLen
  mask : 0 ≤ s.mask ∧ s.mask ≤ 255
  b : s.b.l.length ≤ s.b.cap ∧ s.b.cap ≤ maxLen ∧ Cells W s.b.A (b8s s.b.l) ∧ Bytes s.b.l
  kept : s.kept.l.length ≤ s.kept.cap ∧ s.kept.cap ≤ maxLen ∧ Cells W s.kept.A (kepCells s.kept.l) ∧ ∀ k ∈ s.kept.l, k.name.size ≤ maxLen ∧ wf64 k.index ∧ wf64 k.bytes
theorem wf64_of {i : Int} (h : (Lit.int .i64 i).wf = true) : wf64 i := by
  simp [Lit.wf, IntKind.min, IntKind.max, IntKind.signed, IntKind.bits] at h
  unfold wf64
  omega
theorem byte_of {i : Int} (h : (Lit.int .u8 i).wf = true) : 0 ≤ i ∧ i ≤ 255 := by
  simp [Lit.wf, IntKind.min, IntKind.max, IntKind.signed, IntKind.bits] at h
  omega
theorem int_cells (k : IntKind) (l : List Int) : l.flatMap (rdInt k).cells = l.map (Value.int k) := by
  induction l with
  | nil => rfl
  | cons x l ih => rw [List.flatMap_cons, ih]; rfl
theorem bytes_ok {W : World} {s : Sl Int} (h : (rdSl (rdInt .u8)).ok W s) : s.l.length ≤ s.cap ∧ s.cap ≤ maxLen ∧ Cells W s.A (b8s s.l) ∧ Bytes s.l := by
  obtain ⟨h1, h2, h3, h4⟩ := h
  rw [int_cells] at h3
  exact ⟨h1, h2, h3, fun x hx => byte_of (h4 x hx)⟩
theorem kept_ok {W : World} {s : Sl Kep} (h : (rdSl rdKep).ok W s) : s.l.length ≤ s.cap ∧ s.cap ≤ maxLen ∧ Cells W s.A (kepCells s.l) ∧ ∀ k ∈ s.l, k.name.size ≤ maxLen ∧ wf64 k.index ∧ wf64 k.bytes := by
  obtain ⟨h1, h2, h3, h4⟩ := h
  refine ⟨h1, h2, h3, fun k hk => ?_⟩
  obtain ⟨a, b, c, -⟩ := h4 k hk
  exact ⟨a, wf64_of b, wf64_of c⟩
theorem step_ok {W : World} {s : StepV} (h : rdStep.ok W s) : s.Ok W := by
  obtain ⟨h1, h2, h3, h4, h5, h6, h7, h8, -⟩ := h
  exact ⟨wf64_of h1, wf64_of h2, wf64_of h3, wf64_of h4, h5, byte_of h7, bytes_ok h6, kept_ok h8⟩
/-- A step's bytes, as many as an extent has. -/
def fullOf (b : List Int) : List Int := b.take 128 ++ z128.drop b.length
theorem fullOf_length (b : List Int) : (fullOf b).length = 128 := by
  unfold fullOf z128
  simp only [List.length_append, List.length_take, List.length_drop, List.length_replicate]
  omega
theorem z128_bytes : Bytes z128 := fun x hx => by
  have := List.eq_of_mem_replicate hx
  omega
theorem fullOf_bytes {b : List Int} (h : Bytes b) : Bytes (fullOf b) := fun x hx => by
  rcases List.mem_append.1 hx with hx | hx
  · exact h x (List.mem_of_mem_take hx)
  · exact z128_bytes x (List.mem_of_mem_drop hx)
theorem full_cells (b : List Int) : (b8s b).take 128 ++ (List.replicate 128 (Value.int .u8 0)).drop b.length = b8s (fullOf b) := by
  unfold fullOf b8s z128
  rw [List.map_append, List.map_take, List.map_drop, List.map_replicate]
theorem wpList_make_row {P : Program} {E : Env} {q : HP} {ops : Array Oper} {rest : List Oper} {o : Oper} {a : Act} {w : World} {Q : Exit → Act → World → Prop} {t e : TypeId} {z : Value} {bytes : Nat} {x y : Operand} (T : SlTy P t e z 1 bytes) (hz1 : z.cells = #[z]) (hg : o.guard = none) (ho : o.op = .makeSlice t x y) {n : Nat} {kl kc : IntKind} (hx : a.eval x = .int kl n) (hy : a.eval y = .int kc n)
    (h : Sat E w q) (hn : n ≤ maxLen) (hb : n * bytes ≤ 140737488355328)
    (hk : ∀ (g : Nat) (w' : World), Sat E w' (HP.row e 1 (.slice (some ⟨g, 0, none⟩) n n) n (List.replicate n z) * q) → wpList P ops Q rest (a.put o.dst (.slice (some ⟨g, 0, none⟩) n n)) w') : wpList P ops Q (o :: rest) a w := by
  obtain ⟨w', hr, h2⟩ := run_make_row T hz1 h n hn hb kl kc
  refine wpList_plain hg fun K hK => ?_
  unfold Oper.wp execOp
  simp only [ho, hx, hy, Sem.run_bind, hr, Result.andThen_ok]
  exact hK _ _ (hk _ w' h2)
theorem wpList_copy_sat {P : Program} {E : Env} {q : HP} {ops : Array Oper} {rest : List Oper} {o : Oper} {a : Act} {w : World} {Q : Exit → Act → World → Prop} {dT sT e : TypeId} {x y : Operand} {dA : Option Addr} {n c : Nat} {cs : List Value} (hu : P.underlying dT = some (.slice e)) (hs : (P.info? e).map (·.size) = some 1) (hg : o.guard = none) (ho : o.op = .call { callee := .builtin .copy, args := #[x, y], argTypes := #[dT, sT] })
    {A : Option Addr} {m k : Nat} {src : List Value} (hx : a.eval x = .slice dA n c) (hy : a.eval y = .slice A m k) (h : Sat E w (HP.row e 1 (.slice dA n c) n cs * q)) (hm : src.length = m) (hsrc : Cells w A src) (h1 : src.all Value.oneCell' = true)
    (hk : ∀ w', Sat E w' (HP.row e 1 (.slice dA n c) n (src.take n ++ cs.drop m) * q) → wpList P ops Q rest (a.put o.dst (goInt (Nat.min m n))) w') : wpList P ops Q (o :: rest) a w := by
  obtain ⟨w', hr, h2⟩ := run_copy_sat (sT := sT) (ty := o.type) (k := k) hu hs h hm hsrc h1
  refine wpList_plain hg fun K hK => ?_
  exact wp_copy_run ho hx hy hr (hK _ _ (hk w' h2))
theorem wp_make_row {P : Program} {E : Env} {q : HP} {o : Oper} {a : Act} {w : World} {K : Act → World → Prop} {Q : Exit → Act → World → Prop} {t e : TypeId} {z : Value} {bytes : Nat} {x y : Operand} (T : SlTy P t e z 1 bytes) (hz1 : z.cells = #[z]) (ho : o.op = .makeSlice t x y) {n : Nat} {kl kc : IntKind} (hx : a.eval x = .int kl n) (hy : a.eval y = .int kc n)
    (h : Sat E w q) (hn : n ≤ maxLen) (hb : n * bytes ≤ 140737488355328)
    (hk : ∀ (g : Nat) (w' : World), Sat E w' (HP.row e 1 (.slice (some ⟨g, 0, none⟩) n n) n (List.replicate n z) * q) → K (a.put o.dst (.slice (some ⟨g, 0, none⟩) n n)) w') : o.wp P a w K Q := by
  obtain ⟨w', hr, h2⟩ := run_make_row T hz1 h n hn hb kl kc
  unfold Oper.wp execOp
  simp only [ho, hx, hy, Sem.run_bind, hr, Result.andThen_ok]
  exact hk _ w' h2
end Go.Proofs.Ytjlfhfknnpjikaa
