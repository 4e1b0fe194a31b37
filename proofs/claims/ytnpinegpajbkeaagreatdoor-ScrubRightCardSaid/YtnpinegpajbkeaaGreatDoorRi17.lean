/- Texts of one claim, one behind the other: ScrP, ScrA, ScrS, ScrB, ScrM, ScRiP, Itoa, Digits, Nms, ScrG. -/
import Derived.Test.YtnpinegpajbkeaaGreatDoorRi16
import Derived.Test.YtnpinegpajbkeaaGreatDoorProg
import Derived.Shelf.Strconv.Itoa3
set_option linter.unusedSimpArgs false
set_option linter.unusedVariables false
namespace Go.Proofs.YtnpinegpajbkeaaGreatDoor
open Go.RowKit HP
structure Sgp where
  kind : Int
  name : ByteArray
  idx : Int
  gen : Int
deriving DecidableEq
def Sgp.vals (g : Sgp) : List Value := [.int .i64 g.kind, .string g.name, .int .i64 g.idx, .int .i64 g.gen]
def Sgp.ends (g : Sgp) : List ByteArray := if g.kind = 1 then [dotA, dotB] else if g.kind = 2 then [dot0, dot1, dot2, dotP] else []
def Sgp.spots (g : Sgp) : List (ByteArray × Int) := g.ends.map fun s => (g.name ++ s, g.idx)
def Sgp.right (A : Dk) (g : Sgp) (k : Nat) (f : ByteArray) : Bool :=
  match A.cel f g.idx with
  | none => false
  | some c => match openI c.read f g.idx with
    | none => false
    | some x => if g.kind = 2 then decide ((x.2 : Int) = g.gen) && (decide (x.1.length = 106) == decide (k = 3)) else true
def Sgp.badK (A : Dk) (g : Sgp) : Nat → Nat
  | 0 => 0
  | k + 1 => g.badK A k + (match g.ends[k]? with | none => 0 | some s => if g.right A k (g.name ++ s) = true then 0 else 1)
def Sgp.bad (A : Dk) (g : Sgp) : Nat := g.badK A g.ends.length
theorem Sgp.badK_le (A : Dk) (g : Sgp) : ∀ k, g.badK A k ≤ k
  | 0 => Nat.le_refl _
  | k + 1 => by
    have := g.badK_le A k
    unfold Sgp.badK
    split
    · omega
    · split <;> omega
theorem Sgp.ends_length (g : Sgp) : g.ends.length ≤ 4 := by
  unfold Sgp.ends
  split
  · exact (by decide : (2 : Nat) ≤ 4)
  · split
    · exact Nat.le_refl _
    · exact Nat.zero_le _
theorem ends_1 {g : Sgp} (h : g.kind = 1) : g.ends = [dotA, dotB] := by unfold Sgp.ends; rw [if_pos h]
theorem ends_2 {g : Sgp} (h : g.kind = 2) : g.ends = [dot0, dot1, dot2, dotP] := by unfold Sgp.ends; rw [if_neg (by omega), if_pos h]
theorem ends_0 {g : Sgp} (h1 : g.kind ≠ 1) (h2 : g.kind ≠ 2) : g.ends = [] := by unfold Sgp.ends; rw [if_neg h1, if_neg h2]
theorem right_slot {A : Dk} {g : Sgp} (h : g.kind = 2) {k : Nat} (hk : k < 4) : g.right A k (stripeF g.name k) = (slotOf A g.name g.gen g.idx k).2 := by
  unfold Sgp.right slotOf readS
  cases hc : A.cel (stripeF g.name k) g.idx with
  | none => rfl
  | some c =>
    dsimp only
    cases ho : openI c.read (stripeF g.name k) g.idx with
    | none => rfl
    | some x =>
      dsimp only
      rw [if_pos h]
      have hl := (openI_gen (p := x.1) (g := x.2) ho).2
      by_cases hg : (x.2 : Int) = g.gen
      · rw [if_neg (by simpa using hg), decide_eq_true hg, Bool.true_and]
        unfold readT
        by_cases h3 : k = 3
        · rw [if_pos h3, decide_eq_true h3]
          simp
        · rw [if_neg h3, decide_eq_false h3]
          by_cases h6 : x.1.length = 106
          · rw [decide_eq_true h6, decide_eq_false (by omega)]
            rfl
          · rw [decide_eq_false h6, decide_eq_true (by omega)]
            rfl
      · rw [if_pos hg, decide_eq_false hg]
        rfl
theorem bad_stripe {A : Dk} {g : Sgp} (h : g.kind = 2) : g.bad A = badN A g.name g.gen g.idx 4 := by
  have e := ends_2 h
  unfold Sgp.bad
  rw [e]
  show g.badK A 4 = _
  have s0 : stripeF g.name 0 = g.name ++ dot0 := rfl
  have s1 : stripeF g.name 1 = g.name ++ dot1 := rfl
  have s2 : stripeF g.name 2 = g.name ++ dot2 := rfl
  have s3 : stripeF g.name 3 = g.name ++ dotP := rfl
  simp only [Sgp.badK, e, badN, List.getElem?_cons_zero, List.getElem?_cons_succ]
  rw [← s0, ← s1, ← s2, ← s3, right_slot h (by omega), right_slot h (by omega), right_slot h (by omega), right_slot h (by omega)]
def ofV (g : Sgp) : Value := if g.kind = 1 then .iface 132 (.agg #[.int .i64 g.kind, .string g.name, .int .i64 g.idx, .int .i64 g.gen]) else if g.kind = 2 then .iface 133 (.agg #[.int .i64 g.kind, .string g.name, .int .i64 g.idx, .int .i64 g.gen]) else .nilIface
theorem slSpt : SlTy Tryz.prog 66 68 (.agg #[.string ⟨#[]⟩, .int .i64 0]) 2 24 := ⟨Tryz.underlying66, by kernel_rfl, rfl, by decide⟩
set_option maxHeartbeats 2000000 in
set_option maxRecDepth 100000 in
theorem scrub_of (E : Env) (q : HP) (g : Sgp) (w : World) (hw : Sat E w q) :
    Calls Tryz.prog 92 #[.agg #[.int .i64 g.kind, .string g.name, .int .i64 g.idx, .int .i64 g.gen]] w fun e w' => e = .returned (ofV g) ∧ Sat E w' q := by
  have h1 := hw.alloc (.cells #[.int .i64 g.kind, .string g.name, .int .i64 g.idx, .int .i64 g.gen] 37)
  have k0 := h1.cell 0
  have k1 := h1.cell 1
  have k2 := h1.cell 2
  have k3 := h1.cell 3
  simp only [List.getElem?_toArray, List.getElem?_cons_zero, List.getElem?_cons_succ] at k0 k1 k2 k3
  have H1 := Aside.mk h1
  obtain ⟨kind, name, idx, gen⟩ := g
  dsimp only at *
  have HV : Aside (ofV ⟨kind, name, idx, gen⟩ = if kind = 1 then .iface 132 (.agg #[.int .i64 kind, .string name, .int .i64 idx, .int .i64 gen]) else if kind = 2 then .iface 133 (.agg #[.int .i64 kind, .string name, .int .i64 idx, .int .i64 gen]) else .nilIface) := ⟨rfl⟩
  clear hw h1
  have hc : kind = 1 ∨ kind = 2 ∨ (¬ kind = 1 ∧ ¬ kind = 2) := by omega
  rcases hc with rfl | rfl | ⟨h1, h2⟩
  · rw [HV.out, if_pos rfl]
    go_enter Tryz.func92, Tryz.ntmps92
    go_wp2
    go_ret
    exact ⟨rfl, H1.out.right⟩
  · rw [HV.out, if_neg (by omega), if_pos rfl]
    go_enter Tryz.func92, Tryz.ntmps92
    go_wp2
    go_ret
    exact ⟨rfl, H1.out.right⟩
  · rw [HV.out, if_neg h1, if_neg h2]
    go_enter Tryz.func92, Tryz.ntmps92
    go_wp2
    go_ret
    exact ⟨rfl, H1.out.right⟩
theorem ta_pp (k i n : Int) (s : ByteArray) (w : World) : (Instr.typeAssert (.iface 132 (.agg #[.int .i64 k, .string s, .int .i64 i, .int .i64 n])) 20 132 true).run Tryz.prog w = .ok (.tuple #[.agg #[.int .i64 k, .string s, .int .i64 i, .int .i64 n], .bool true]) w := by kernel_rfl
theorem ta_ps (k i n : Int) (s : ByteArray) (w : World) : (Instr.typeAssert (.iface 133 (.agg #[.int .i64 k, .string s, .int .i64 i, .int .i64 n])) 20 132 true).run Tryz.prog w = .ok (.tuple #[.agg #[.int .i64 0, .string ⟨#[]⟩, .int .i64 0, .int .i64 0], .bool false]) w := by kernel_rfl
theorem ta_sp (k i n : Int) (s : ByteArray) (w : World) : (Instr.typeAssert (.iface 132 (.agg #[.int .i64 k, .string s, .int .i64 i, .int .i64 n])) 20 133 true).run Tryz.prog w = .ok (.tuple #[.agg #[.int .i64 0, .string ⟨#[]⟩, .int .i64 0, .int .i64 0], .bool false]) w := by kernel_rfl
theorem ta_ss (k i n : Int) (s : ByteArray) (w : World) : (Instr.typeAssert (.iface 133 (.agg #[.int .i64 k, .string s, .int .i64 i, .int .i64 n])) 20 133 true).run Tryz.prog w = .ok (.tuple #[.agg #[.int .i64 k, .string s, .int .i64 i, .int .i64 n], .bool true]) w := by kernel_rfl
theorem ta_pn (w : World) : (Instr.typeAssert .nilIface 20 132 true).run Tryz.prog w = .ok (.tuple #[.agg #[.int .i64 0, .string ⟨#[]⟩, .int .i64 0, .int .i64 0], .bool false]) w := by kernel_rfl
theorem ta_sn (w : World) : (Instr.typeAssert .nilIface 20 133 true).run Tryz.prog w = .ok (.tuple #[.agg #[.int .i64 0, .string ⟨#[]⟩, .int .i64 0, .int .i64 0], .bool false]) w := by kernel_rfl
theorem spots_len (g : Sgp) : g.spots.length = g.ends.length := by unfold Sgp.spots; rw [List.length_map]
theorem spots_take {name : ByteArray} {idx : Int} {l : List ByteArray} {k : Nat} {s : ByteArray} (h : l[k]? = some s) : ((l.take (k + 1)).map fun s => (name ++ s, idx)).flatMap encSpot = ((l.take k).map fun s => (name ++ s, idx)).flatMap encSpot ++ [.string (name ++ s), .int .i64 idx] := by
  rw [List.take_add_one, h, Option.toList_some, List.map_append, List.flatMap_append]
  rfl
set_option maxHeartbeats 4000000 in
set_option maxRecDepth 100000 in
theorem scrub_spots (E : Env) (q : HP) (g : Sgp) (w : World) (hn : g.name.size + 2 ≤ maxLen) (hw : Sat E w q) :
    Calls Tryz.prog 27 #[.agg #[.int .i64 g.kind, .string g.name, .int .i64 g.idx, .int .i64 g.gen]] w fun e w' => ∃ v, e = .returned v ∧ Sat E w' (HP.row 68 2 v g.ends.length (g.spots.flatMap encSpot) * q) := by
  have h1 := hw.alloc (.cells #[.int .i64 g.kind, .string g.name, .int .i64 g.idx, .int .i64 g.gen] 37)
  have k0 := h1.cell 0
  have k1 := h1.cell 1
  have k2 := h1.cell 2
  have k3 := h1.cell 3
  simp only [List.getElem?_toArray, List.getElem?_cons_zero, List.getElem?_cons_succ] at k0 k1 k2 k3
  have H1 := Aside.mk h1
  obtain ⟨kind, name, idx, gen⟩ := g
  dsimp only at *
  have HOF : ∀ E q w, Sat E w q → Aside (Calls Tryz.prog 92 #[.agg #[.int .i64 kind, .string name, .int .i64 idx, .int .i64 gen]] w fun e w' => e = .returned (ofV ⟨kind, name, idx, gen⟩) ∧ Sat E w' q) := fun E q w h => ⟨scrub_of E q ⟨kind, name, idx, gen⟩ w h⟩
  have hn2 : name.size + 2 ≤ 9223372036854775807 := by unfold maxLen at hn; omega
  obtain ⟨es, hes⟩ : ∃ es, es = Sgp.ends ⟨kind, name, idx, gen⟩ := ⟨_, rfl⟩
  have hsp : Sgp.spots ⟨kind, name, idx, gen⟩ = es.map fun s => (name ++ s, idx) := by rw [hes]; rfl
  rw [hsp, ← hes]
  have HES := Aside.mk hes
  clear hw h1 hsp hes hn
  have hc : kind = 1 ∨ kind = 2 ∨ (¬ kind = 1 ∧ ¬ kind = 2) := by omega
  rcases hc with rfl | rfl | ⟨hk1, hk2⟩
  · have he : es = [dotA, dotB] := by rw [HES.out]; rfl
    have hof : ofV ⟨1, name, idx, gen⟩ = .iface 132 (.agg #[.int .i64 1, .string name, .int .i64 idx, .int .i64 gen]) := by rfl
    rw [he]
    go_enter Tryz.func27, Tryz.ntmps27
    go_wp2_with fail
    refine (HOF E _ _ H1.out).out.mono ?_
    rintro e w2 ⟨rfl, h2⟩
    rw [hof]
    have ta1 := fun w => ta_pp 1 idx gen name w
    have H2 := Aside.mk (h2.alloc (.cells #[.string ⟨#[46, 97]⟩, .string ⟨#[46, 98]⟩] 9))
    have k1 := H2.out.s2.cell 1
    have k2 := H2.out.s2.cell 2
    simp only [List.getElem?_toArray, List.getElem?_cons_zero, List.getElem?_cons_succ] at k1 k2
    obtain ⟨bE, hbE⟩ : ∃ bE, bE = w2.heap.size := ⟨_, rfl⟩
    rw [← hbE] at H2
    have H3 := Aside.mk (H2.out.row_nil 68 2 none)
    clear h2 H1 HES k0 k3 hof H2 k1 k2
    go_wp2
    rw [← hbE]
    clear hbE
    go_loopw [4, 19] (fun v4 v19 wr => ∃ k : Nat, v19 = .int .i64 k ∧ k ≤ 2 ∧ Aside (Sat E wr (HP.row 68 2 v4 k (((es.take k).map fun s => (name ++ s, idx)).flatMap encSpot) * (HP.pt bE (.cells #[.string ⟨#[46, 97]⟩, .string ⟨#[46, 98]⟩] 9) * (HP.pt w.heap.size (.cells #[.int .i64 1, .string name, .int .i64 idx, .int .i64 gen] 37) * q))))) (fun _ x _ => 2 - (intOf x).toNat)
    case atStart => exact ⟨0, rfl, Nat.zero_le _, H3⟩
    case round =>
      clear H3
      obtain ⟨k, rfl, hk, HS⟩ := hrel
      by_cases hlt : k < 2
      · have hlt1 : (k : Int) < 2 := by omega
        have hlt0 : (0 : Int) ≤ (k : Int) := by omega
        obtain ⟨s, hs⟩ : ∃ s, es[k]? = some s := ⟨_, List.getElem?_eq_getElem (by rw [he]; exact hlt)⟩
        have hcs : (#[.string ⟨#[46, 97]⟩, .string ⟨#[46, 98]⟩] : Array Value)[k]? = some (.string s) ∧ s.size = 2 := by
          rw [he] at hs
          have hc : k = 0 ∨ k = 1 := by omega
          rcases hc with rfl | rfl <;> (obtain rfl := Option.some.inj hs; exact ⟨rfl, rfl⟩)
        have kc : wr.cell? ⟨bE, k, none⟩ = some (.string s) := by rw [HS.out.s2.cell]; exact hcs.1
        have hsz : name.size + s.size ≤ 9223372036854775807 := by rw [hcs.2]; exact hn2
        have c1 := HS.out.s3.cell 1
        have c2 := HS.out.s3.cell 2
        simp only [List.getElem?_toArray, List.getElem?_cons_zero, List.getElem?_cons_succ] at c1 c2
        have HT := Aside.mk (spots_take (name := name) (idx := idx) hs)
        clear hcs hs
        go_wp2_with (at_builtin; refine wpList_append_new slSpt rfl rfl (by rfl) (by rfl) HS.out (by rfl) (by rfl) (by unfold maxLen; omega) (by omega) (fun v5 w5 hw5 => ?_); have HW5 := Aside.mk hw5; clear hw5)
        have H6 : Aside (Sat E w5 (HP.row 68 2 v5 (k + 1) (((es.take (k + 1)).map fun s => (name ++ s, idx)).flatMap encSpot) * (HP.pt bE (.cells #[.string ⟨#[46, 97]⟩, .string ⟨#[46, 98]⟩] 9) * (HP.pt w.heap.size (.cells #[.int .i64 1, .string name, .int .i64 idx, .int .i64 gen] 37) * q)))) := ⟨by rw [HT.out]; exact HW5.out⟩
        clear HW5 HT HS kc c1 c2
        go_roundw
        case rel => exact ⟨k + 1, by go_num, by omega, H6⟩
        case measure => simp [intOf]; omega
      · obtain rfl : k = 2 := by omega
        obtain ⟨Av, cv, rfl, -, -⟩ := HS.out.row_slice
        have H7 : Aside (Sat E wr (HP.row 68 2 (.slice Av 2 cv) [dotA, dotB].length (([dotA, dotB].map fun s => (name ++ s, idx)).flatMap encSpot) * q)) := ⟨by
          have h := HS.out
          rw [he] at h
          exact h.drop2.drop2⟩
        clear HS
        go_wp2
        go_ret
        exact ⟨_, rfl, H7.out⟩
  · have he : es = [dot0, dot1, dot2, dotP] := by rw [HES.out]; rfl
    have hof : ofV ⟨2, name, idx, gen⟩ = .iface 133 (.agg #[.int .i64 2, .string name, .int .i64 idx, .int .i64 gen]) := by rfl
    rw [he]
    go_enter Tryz.func27, Tryz.ntmps27
    go_wp2_with fail
    refine (HOF E _ _ H1.out).out.mono ?_
    rintro e w2 ⟨rfl, h2⟩
    rw [hof]
    have ta1 := fun w => ta_ps 2 idx gen name w
    have ta2 := fun w => ta_ss 2 idx gen name w
    have H2 := Aside.mk (h2.alloc (.cells #[.string ⟨#[46, 48]⟩, .string ⟨#[46, 49]⟩, .string ⟨#[46, 50]⟩, .string ⟨#[46, 112]⟩] 9))
    have k1 := H2.out.s2.cell 1
    have k2 := H2.out.s2.cell 2
    simp only [List.getElem?_toArray, List.getElem?_cons_zero, List.getElem?_cons_succ] at k1 k2
    obtain ⟨bE, hbE⟩ : ∃ bE, bE = w2.heap.size := ⟨_, rfl⟩
    rw [← hbE] at H2
    have H3 := Aside.mk (H2.out.row_nil 68 2 none)
    clear h2 H1 HES k0 k3 hof H2 k1 k2
    go_wp2
    rw [← hbE]
    clear hbE
    go_loopw [4, 19] (fun v4 v19 wr => ∃ k : Nat, v19 = .int .i64 k ∧ k ≤ 4 ∧ Aside (Sat E wr (HP.row 68 2 v4 k (((es.take k).map fun s => (name ++ s, idx)).flatMap encSpot) * (HP.pt bE (.cells #[.string ⟨#[46, 48]⟩, .string ⟨#[46, 49]⟩, .string ⟨#[46, 50]⟩, .string ⟨#[46, 112]⟩] 9) * (HP.pt w.heap.size (.cells #[.int .i64 2, .string name, .int .i64 idx, .int .i64 gen] 37) * q))))) (fun _ x _ => 4 - (intOf x).toNat)
    case atStart => exact ⟨0, rfl, Nat.zero_le _, H3⟩
    case round =>
      clear H3
      obtain ⟨k, rfl, hk, HS⟩ := hrel
      by_cases hlt : k < 4
      · have hlt1 : (k : Int) < 4 := by omega
        have hlt0 : (0 : Int) ≤ (k : Int) := by omega
        obtain ⟨s, hs⟩ : ∃ s, es[k]? = some s := ⟨_, List.getElem?_eq_getElem (by rw [he]; exact hlt)⟩
        have hcs : (#[.string ⟨#[46, 48]⟩, .string ⟨#[46, 49]⟩, .string ⟨#[46, 50]⟩, .string ⟨#[46, 112]⟩] : Array Value)[k]? = some (.string s) ∧ s.size = 2 := by
          rw [he] at hs
          have hc : k = 0 ∨ k = 1 ∨ k = 2 ∨ k = 3 := by omega
          rcases hc with rfl | rfl | rfl | rfl <;> (obtain rfl := Option.some.inj hs; exact ⟨rfl, rfl⟩)
        have kc : wr.cell? ⟨bE, k, none⟩ = some (.string s) := by rw [HS.out.s2.cell]; exact hcs.1
        have hsz : name.size + s.size ≤ 9223372036854775807 := by rw [hcs.2]; exact hn2
        have c1 := HS.out.s3.cell 1
        have c2 := HS.out.s3.cell 2
        simp only [List.getElem?_toArray, List.getElem?_cons_zero, List.getElem?_cons_succ] at c1 c2
        have HT := Aside.mk (spots_take (name := name) (idx := idx) hs)
        clear hcs hs
        go_wp2_with (at_builtin; refine wpList_append_new slSpt rfl rfl (by rfl) (by rfl) HS.out (by rfl) (by rfl) (by unfold maxLen; omega) (by omega) (fun v5 w5 hw5 => ?_); have HW5 := Aside.mk hw5; clear hw5)
        have H6 : Aside (Sat E w5 (HP.row 68 2 v5 (k + 1) (((es.take (k + 1)).map fun s => (name ++ s, idx)).flatMap encSpot) * (HP.pt bE (.cells #[.string ⟨#[46, 48]⟩, .string ⟨#[46, 49]⟩, .string ⟨#[46, 50]⟩, .string ⟨#[46, 112]⟩] 9) * (HP.pt w.heap.size (.cells #[.int .i64 2, .string name, .int .i64 idx, .int .i64 gen] 37) * q)))) := ⟨by rw [HT.out]; exact HW5.out⟩
        clear HW5 HT HS kc c1 c2
        go_roundw
        case rel => exact ⟨k + 1, by go_num, by omega, H6⟩
        case measure => simp [intOf]; omega
      · obtain rfl : k = 4 := by omega
        obtain ⟨Av, cv, rfl, -, -⟩ := HS.out.row_slice
        have H7 : Aside (Sat E wr (HP.row 68 2 (.slice Av 4 cv) [dot0, dot1, dot2, dotP].length (([dot0, dot1, dot2, dotP].map fun s => (name ++ s, idx)).flatMap encSpot) * q)) := ⟨by
          have h := HS.out
          rw [he] at h
          exact h.drop2.drop2⟩
        clear HS
        go_wp2
        go_ret
        exact ⟨_, rfl, H7.out⟩
  · have he : es = [] := by rw [HES.out]; unfold Sgp.ends; rw [if_neg hk1, if_neg hk2]
    have hof : ofV ⟨kind, name, idx, gen⟩ = .nilIface := by unfold ofV; rw [if_neg hk1, if_neg hk2]
    rw [he]
    go_enter Tryz.func27, Tryz.ntmps27
    go_wp2_with fail
    refine (HOF E _ _ H1.out).out.mono ?_
    rintro e w2 ⟨rfl, h2⟩
    rw [hof]
    have ta1 := ta_pn
    have ta2 := ta_sn
    have k1 := h2.cell 1
    have k2 := h2.cell 2
    simp only [List.getElem?_toArray, List.getElem?_cons_zero, List.getElem?_cons_succ] at k1 k2
    have H2 := Aside.mk h2.right
    clear h2 H1 HES k0 k3 hof he
    go_wp2
    go_loopw [4, 19] (fun v4 v19 wr => v4 = .slice none 0 0 ∧ v19 = .int .i64 0 ∧ Aside (Sat E wr q)) (fun _ x _ => 0 - (intOf x).toNat)
    case atStart => exact ⟨rfl, rfl, H2⟩
    case round =>
      obtain ⟨rfl, rfl, HS⟩ := hrel
      clear k1 k2 H2
      go_wp2
      go_ret
      exact ⟨_, rfl, HS.out.row_nil _ _ _⟩
theorem disk_read_all (E : Env) (q : HP) (d : Nat) (A : Dk) (name : ByteArray) (i : Int) (w : World) (hn : name.size ≤ maxLen) (hw : Sat E w (HP.disk d A * q)) :
    Calls Tryz.prog 36 #[.pointer (some ⟨d, 0, none⟩), .string name, .int .i64 i] w fun e w' => ∃ V c code R, e = .returned (.tuple #[.slice V (readO A name i).length c, .int .i64 code]) ∧ (readO A name i).length ≤ c ∧ Sat E w' (HP.disk d A * (R * q)) ∧ ∀ w'' q', Sat E w'' (HP.disk d A * (R * q')) → Cells w'' V (b8s (readO A name i)) := by
  refine (disk_read_ok E q d A name i w hn hw).mono fun e w' h => ?_
  unfold readEnd at h
  unfold readO
  cases hc : A.cel name i with
  | none =>
    rw [hc] at h
    obtain ⟨rfl, h⟩ := h
    exact ⟨none, 0, 30, HP.emp, rfl, Nat.le_refl _, by rw [HP.emp_mul]; exact h, fun w'' q' _ => Cells.nil _ _⟩
  | some x =>
    rw [hc] at h
    obtain ⟨v, rfl, h⟩ := h
    obtain ⟨V, c, rfl, hc2, -⟩ := h.row_slice
    have hl := h.row_cases.1
    rw [b8s_length] at hl
    refine ⟨V, c, 0, HP.row 5 1 (.slice V 128 c) 128 (b8s x.read), ?_, ?_, h.perm (by ac_rfl), fun w'' q' h' => (h'.perm (by ac_rfl : _ = HP.row 5 1 (.slice V 128 c) 128 (b8s x.read) * (HP.disk d A * q'))).row_cells⟩
    · dsimp only; rw [hl]
    · dsimp only; rw [hl]; exact hc2
theorem right_readO (A : Dk) (g : Sgp) (k : Nat) (f : ByteArray) : g.right A k f = match openI (readO A f g.idx) f g.idx with
    | none => false
    | some x => if g.kind = 2 then decide ((x.2 : Int) = g.gen) && (decide (x.1.length = 106) == decide (k = 3)) else true := by
  unfold Sgp.right readO
  cases A.cel f g.idx with
  | none =>
    dsimp only
    have : openI [] f g.idx = none := by unfold openI; rw [if_pos (.inl (by decide))]
    rw [this]
  | some c => rfl
theorem spot_at {w : World} {A : Option Addr} {l : List (ByteArray × Int)} (h : Cells w A (l.flatMap encSpot)) {k : Nat} {x : ByteArray × Int} (hk : l[k]? = some x) : ∃ g o, A = some ⟨g, o, none⟩ ∧ w.cell? ⟨g, o + k * 2, none⟩ = some (.string x.1) ∧ w.cell? ⟨g, o + k * 2 + 1, none⟩ = some (.int .i64 x.2) := by
  have g0 := flat_get encSpot 2 l (fun _ => rfl) k 0 x hk (by omega)
  have g1 := flat_get encSpot 2 l (fun _ => rfl) k 1 x hk (by omega)
  obtain ⟨a, ha, -⟩ := h _ _ g0
  obtain ⟨g, o, rfl⟩ : ∃ g o, a = ⟨g, o, none⟩ := slice_addr h ha (List.getElem?_eq_some_iff.1 g0).1
  subst ha
  have h0 := h.some_ _ _ g0
  have h1 := h.some_ _ _ g1
  rw [addr_add] at h0 h1
  exact ⟨g, o, rfl, h0, h1⟩
theorem badK_step {A : Dk} {g : Sgp} {k : Nat} {s : ByteArray} (hs : g.ends[k]? = some s) : g.badK A (k + 1) = g.badK A k + if g.right A k (g.name ++ s) = true then 0 else 1 := by
  rw [Sgp.badK, hs]
def bitG (kind gen : Int) (k : Nat) : Option (List Int × Nat) → Nat
  | none => 1
  | some x => if kind = 2 then (if (x.2 : Int) = gen then (if x.1.length = 106 then (if k = 3 then 0 else 1) else (if k = 3 then 1 else 0)) else 1) else 0
theorem badK_bit {A : Dk} {g : Sgp} {k : Nat} {s : ByteArray} (hs : g.ends[k]? = some s) : g.badK A (k + 1) = g.badK A k + bitG g.kind g.gen k (openI (readO A (g.name ++ s) g.idx) (g.name ++ s) g.idx) := by
  rw [badK_step hs, right_readO]
  congr 1
  cases openI (readO A (g.name ++ s) g.idx) (g.name ++ s) g.idx with
  | none => rfl
  | some x =>
    by_cases h2 : g.kind = 2 <;> by_cases hg : (x.2 : Int) = g.gen <;> by_cases h6 : x.1.length = 106 <;> by_cases h3 : k = 3 <;> simp [bitG, h2, hg, h6, h3]
theorem end_size {g : Sgp} {k : Nat} {s : ByteArray} (hs : g.ends[k]? = some s) : s.size = 2 := by
  have hm := List.mem_of_getElem? hs
  unfold Sgp.ends at hm
  split at hm
  · simp only [List.mem_cons, List.not_mem_nil, or_false] at hm
    rcases hm with rfl | rfl <;> rfl
  · split at hm
    · simp only [List.mem_cons, List.not_mem_nil, or_false] at hm
      rcases hm with rfl | rfl | rfl | rfl <;> rfl
    · cases hm
set_option maxHeartbeats 4000000 in
set_option maxRecDepth 100000 in
theorem scrub_bad (E : Env) (q : HP) (d : Nat) (A : Dk) (g : Sgp) (w : World) (hn : g.name.size + 2 ≤ maxLen) (hby : ∀ f (i : Int) c, A.cel f i = some c → Bytes c.read) (hq : ∀ w, Sat E w q → Quarter w) (hw : Sat E w (HP.disk d A * q)) :
    Calls Tryz.prog 29 #[.pointer (some ⟨d, 0, none⟩), .agg #[.int .i64 g.kind, .string g.name, .int .i64 g.idx, .int .i64 g.gen]] w fun e w' => e = .returned (.int .i64 (g.bad A : Nat)) ∧ Sat E w' (HP.disk d A * q) := by
  obtain ⟨kind, name, idx, gen⟩ := g
  dsimp only at *
  have HQ := Aside.mk (And.intro hq (And.intro hby hn))
  have H0 : Aside (Sat E (w.alloc (.cells #[.int .i64 kind, .string name, .int .i64 idx, .int .i64 gen] 37)) (HP.disk d A * (HP.pt w.heap.size (.cells #[.int .i64 kind, .string name, .int .i64 idx, .int .i64 gen] 37) * q))) := ⟨(hw.alloc (.cells #[.int .i64 kind, .string name, .int .i64 idx, .int .i64 gen] 37)).s2⟩
  have hn2 : name.size + 2 ≤ 9223372036854775807 := by unfold maxLen at hn; omega
  obtain ⟨g, hg⟩ : ∃ g : Sgp, g = ⟨kind, name, idx, gen⟩ := ⟨_, rfl⟩
  have HG := Aside.mk hg
  obtain ⟨es, hes⟩ : ∃ es, es = g.ends := ⟨_, rfl⟩
  obtain ⟨N, hN⟩ : ∃ N, N = g.ends.length := ⟨_, rfl⟩
  have hN4 : N ≤ 4 := by rw [hN]; exact g.ends_length
  have HN := Aside.mk hN
  have HBD : Aside (Sgp.bad A ⟨kind, name, idx, gen⟩ = g.badK A N) := ⟨by rw [hN, hg]; rfl⟩
  rw [HBD.out]
  clear hw hq hby hn hN hes hg es HBD
  go_enter Tryz.func29, Tryz.ntmps29
  go_wp2_with fail
  refine (disk_asked E _ d A _ H0.out).mono ?_
  rintro e w1 ⟨rfl, h1⟩
  obtain ⟨bG, hbG⟩ : ∃ bG, bG = w.heap.size := ⟨_, rfl⟩
  rw [← hbG] at h1 ⊢
  have k0 := h1.s2.cell 0
  have k1 := h1.s2.cell 1
  have k2 := h1.s2.cell 2
  have k3 := h1.s2.cell 3
  simp only [List.getElem?_toArray, List.getElem?_cons_zero, List.getElem?_cons_succ] at k0 k1 k2 k3
  have H1 := Aside.mk h1
  clear h1 H0 hbG
  go_wp2_with fail
  refine (scrub_spots E _ ⟨kind, name, idx, gen⟩ _ HQ.out.2.2 H1.out).mono ?_
  rintro e w2 ⟨v, rfl, h2⟩
  rw [← HG.out, ← HN.out] at h2
  obtain ⟨V, c, rfl, -, -⟩ := h2.row_slice
  have H2 : Aside (Sat E w2 (HP.disk d A * (HP.row 68 2 (.slice V N c) N (g.spots.flatMap encSpot) * (HP.pt bG (.cells #[.int .i64 kind, .string name, .int .i64 idx, .int .i64 gen] 37) * q)))) := ⟨h2.s2⟩
  clear h2 H1 k0 k1 k2 k3
  go_wp2
  go_loopw [5, 25] (fun v5 v25 wr => ∃ k b : Nat, v25 = .int .i64 k ∧ k ≤ N ∧ v5 = .int .i64 b ∧ b ≤ 4 ∧ Aside (b = g.badK A k) ∧ Aside (Sat E wr (HP.disk d A * (HP.row 68 2 (.slice V N c) N (g.spots.flatMap encSpot) * (HP.pt bG (.cells #[.int .i64 kind, .string name, .int .i64 idx, .int .i64 gen] 37) * q))))) (fun _ x _ => N - (intOf x).toNat)
  case atStart => exact ⟨0, 0, rfl, Nat.zero_le _, rfl, by omega, ⟨rfl⟩, H2⟩
  case round =>
    clear H2
    obtain ⟨k, b, rfl, hk, rfl, hb4, HB, HS⟩ := hrel
    by_cases hlt : k < N
    · have hlt1 : (k : Int) < (N : Int) := by omega
      have hlt0 : (0 : Int) ≤ (k : Int) := by omega
      obtain ⟨s, hs⟩ : ∃ s, g.ends[k]? = some s := ⟨_, List.getElem?_eq_getElem (by rw [← HN.out]; exact hlt)⟩
      have hsp : g.spots[k]? = some (g.name ++ s, g.idx) := by unfold Sgp.spots; rw [List.getElem?_map, hs]; rfl
      obtain ⟨gS, oS, rfl, c0, c1⟩ := spot_at HS.out.s2.row_cells hsp
      have hst := badK_bit (A := A) hs
      have hszs := end_size hs
      have hb3 : b ≤ 3 := by rw [HB.out]; have := g.badK_le A k; omega
      have hgf : g.name = name ∧ g.idx = idx ∧ g.kind = kind ∧ g.gen = gen := by rw [HG.out]; exact ⟨rfl, rfl, rfl, rfl⟩
      rw [hgf.1, hgf.2.1] at c0 c1
      dsimp only at c0 c1
      rw [hgf.1, hgf.2.1, hgf.2.2.1, hgf.2.2.2, ← HB.out] at hst
      obtain ⟨f, hf⟩ : ∃ f, f = name ++ s := ⟨_, rfl⟩
      have HFS : Aside (f.size ≤ maxLen) := ⟨by rw [hf, ByteArray.size_append, hszs]; exact HQ.out.2.2⟩
      rw [← hf] at c0 hst
      have HST := Aside.mk hst
      have HBY : Aside (Bytes (readO A f idx)) := ⟨by
        unfold readO
        cases hcc : A.cel f idx with
        | none => intro x hx; cases hx
        | some c => exact HQ.out.2.1 f idx c hcc⟩
      have HN4 : Aside (kind = 2 → N = 4) := ⟨fun h => by rw [HN.out, HG.out, ends_2 (g := ⟨kind, name, idx, gen⟩) h]; rfl⟩
      have H3 : Aside (Sat E (wr.alloc (.cells #[.string f, .int .i64 idx] 68)) (HP.disk d A * (HP.pt wr.heap.size (.cells #[.string f, .int .i64 idx] 68) * (HP.row 68 2 (.slice (some ⟨gS, oS, none⟩) N c) N (g.spots.flatMap encSpot) * (HP.pt bG (.cells #[.int .i64 kind, .string name, .int .i64 idx, .int .i64 gen] 37) * q))))) := ⟨(HS.out.alloc _).s2⟩
      clear hsp hst hszs hs hf hgf HB HS
      go_wp2_with fail
      refine (disk_read_all E _ d A f idx _ HFS.out H3.out).mono ?_
      rintro e w3 ⟨VR, cR, code, R, rfl, hcR, h4, hR⟩
      have H4 := Aside.mk h4
      have HR := Aside.mk (And.intro hcR hR)
      have b0 := h4.right.right.cell 0
      have b1 := h4.right.right.cell 1
      simp only [List.getElem?_toArray, List.getElem?_cons_zero, List.getElem?_cons_succ] at b0 b1
      obtain ⟨rd, hrd⟩ : ∃ rd, rd = readO A f idx := ⟨_, rfl⟩
      rw [← hrd] at HR HST HBY ⊢
      clear hrd h4 hcR hR H3
      go_wp2_with fail
      refine (ext_open E _ f idx VR rd rd.length cR _ HFS.out rfl HR.out.1 HBY.out (fun w h => ⟨HQ.out.1 w h.right.right.right.right.right, HR.out.2 w _ h⟩) H4.out).mono ?_
      rintro e w4 (⟨hop, rfl, h5⟩ | ⟨p, gn, v, hop, rfl, h5⟩)
      · rw [hop] at HST
        have hst : g.badK A (k + 1) = b + 1 := HST.out
        have H5 : Aside (Sat E w4 (HP.disk d A * (HP.row 68 2 (.slice (some ⟨gS, oS, none⟩) N c) N (g.spots.flatMap encSpot) * (HP.pt bG (.cells #[.int .i64 kind, .string name, .int .i64 idx, .int .i64 gen] 37) * q)))) := ⟨h5.drop2.drop2⟩
        have HST2 := Aside.mk hst
        have k0 := H5.out.right.right.cell 0
        have k1 := H5.out.right.right.cell 1
        have k2 := H5.out.right.right.cell 2
        have k3 := H5.out.right.right.cell 3
        simp only [List.getElem?_toArray, List.getElem?_cons_zero, List.getElem?_cons_succ] at k0 k1 k2 k3
        clear h5 H4 HR HST hop hst c0 c1 b0 b1
        go_wp2_with fail
        refine (scrub_of E _ ⟨kind, name, idx, gen⟩ _ H5.out).mono ?_
        rintro e w5 ⟨rfl, h6⟩
        have H6 := Aside.mk h6
        clear h6 H5 k0 k1 k2 k3
        by_cases h2 : kind = 2
        · subst h2
          rw [show ofV ⟨2, name, idx, gen⟩ = .iface 133 (.agg #[.int .i64 2, .string name, .int .i64 idx, .int .i64 gen]) from rfl]
          have ta := fun w => ta_ss 2 idx gen name w
          go_wp2
          go_roundw
          case rel => exact ⟨k + 1, b + 1, by go_num, by omega, by go_num, by omega, ⟨HST2.out.symm⟩, ⟨(H6.out.alloc _).right⟩⟩
          case measure => simp [intOf]; omega
        · by_cases h1 : kind = 1
          · subst h1
            rw [show ofV ⟨1, name, idx, gen⟩ = .iface 132 (.agg #[.int .i64 1, .string name, .int .i64 idx, .int .i64 gen]) from rfl]
            have ta := fun w => ta_sp 1 idx gen name w
            go_wp2
            go_roundw
            case rel => exact ⟨k + 1, b + 1, by go_num, by omega, by go_num, by omega, ⟨HST2.out.symm⟩, ⟨(H6.out.alloc _).right⟩⟩
            case measure => simp [intOf]; omega
          · exfalso
            rw [HN.out, HG.out, ends_0 h1 h2] at hlt
            exact Nat.not_lt_zero _ hlt
      · rw [hop] at HST
        have hst : g.badK A (k + 1) = b + (if kind = 2 then (if (gn : Int) = gen then (if p.length = 106 then (if k = 3 then 0 else 1) else (if k = 3 then 1 else 0)) else 1) else 0) := HST.out
        obtain ⟨VP, cP, rfl, -, -⟩ := h5.row_slice
        have H5 : Aside (Sat E w4 (HP.disk d A * (HP.row 68 2 (.slice (some ⟨gS, oS, none⟩) N c) N (g.spots.flatMap encSpot) * (HP.pt bG (.cells #[.int .i64 kind, .string name, .int .i64 idx, .int .i64 gen] 37) * q)))) := ⟨h5.right.drop2.drop2⟩
        have HST2 := Aside.mk hst
        have k0 := H5.out.right.right.cell 0
        have k1 := H5.out.right.right.cell 1
        have k2 := H5.out.right.right.cell 2
        have k3 := H5.out.right.right.cell 3
        simp only [List.getElem?_toArray, List.getElem?_cons_zero, List.getElem?_cons_succ] at k0 k1 k2 k3
        obtain ⟨pl, hpl⟩ : ∃ pl, pl = p.length := ⟨_, rfl⟩
        rw [← hpl] at HST2 ⊢
        clear h5 H4 HR HST hop hst c0 c1 b0 b1 hpl
        go_wp2_with fail
        refine (scrub_of E _ ⟨kind, name, idx, gen⟩ _ H5.out).mono ?_
        rintro e w5 ⟨rfl, h6⟩
        have H6 := Aside.mk h6
        have k3 := H6.out.right.right.cell 3
        simp only [List.getElem?_toArray, List.getElem?_cons_zero, List.getElem?_cons_succ] at k3
        clear h6 H5 k0 k1 k2
        by_cases h2 : kind = 2
        · subst h2
          have hN5 := HN4.out rfl
          rw [show ofV ⟨2, name, idx, gen⟩ = .iface 133 (.agg #[.int .i64 2, .string name, .int .i64 idx, .int .i64 gen]) from rfl]
          have ta := fun w => ta_ss 2 idx gen name w
          have k3 := (H6.out.alloc (.cells #[.int .i64 2, .string name, .int .i64 idx, .int .i64 gen] 133)).right.right.right.cell 3
          simp only [List.getElem?_toArray, List.getElem?_cons_zero, List.getElem?_cons_succ] at k3
          have hst2 := HST2.out
          rw [if_pos rfl] at hst2
          by_cases hgn : (gn : Int) = gen
          · subst hgn
            by_cases hp6 : pl = 106
            · by_cases hk3 : k = 3
              · have hke : (N : Int) - 1 = (k : Int) := by omega
                have HE : Aside (g.badK A (k + 1) = b) := ⟨by rw [hst2, if_pos rfl, if_pos hp6, if_pos hk3, Nat.add_zero]⟩
                clear hst2 HST2 hN5 hk3
                go_wp2
                go_roundw
                case rel => exact ⟨k + 1, b, by go_num, by omega, by go_num, by omega, ⟨HE.out.symm⟩, ⟨(H6.out.alloc _).right⟩⟩
                case measure => simp [intOf]; omega
              · have hk3i : ¬ (k : Int) = (N : Int) - 1 := by omega
                have hk3b : ((k : Int) == (N : Int) - 1) = false := by rw [beq_eq_false_iff_ne]; omega
                have HE : Aside (g.badK A (k + 1) = b + 1) := ⟨by rw [hst2, if_pos rfl, if_pos hp6, if_neg hk3]⟩
                clear hst2 HST2 hN5 hk3
                go_wp2
                go_roundw
                case rel => exact ⟨k + 1, b + 1, by go_num, by omega, by go_num, by omega, ⟨HE.out.symm⟩, ⟨(H6.out.alloc _).right⟩⟩
                case measure => simp [intOf]; omega
            · have hp6i : ¬ (pl : Int) = 106 := by omega
              have hp6b : ((pl : Int) == 106) = false := by rw [beq_eq_false_iff_ne]; omega
              by_cases hk3 : k = 3
              · have hke : (N : Int) - 1 = (k : Int) := by omega
                have HE : Aside (g.badK A (k + 1) = b + 1) := ⟨by rw [hst2, if_pos rfl, if_neg hp6, if_pos hk3]⟩
                clear hst2 HST2 hN5 hk3 hp6
                go_wp2
                go_roundw
                case rel => exact ⟨k + 1, b + 1, by go_num, by omega, by go_num, by omega, ⟨HE.out.symm⟩, ⟨(H6.out.alloc _).right⟩⟩
                case measure => simp [intOf]; omega
              · have hk3i : ¬ (k : Int) = (N : Int) - 1 := by omega
                have hk3b : ((k : Int) == (N : Int) - 1) = false := by rw [beq_eq_false_iff_ne]; omega
                have HE : Aside (g.badK A (k + 1) = b) := ⟨by rw [hst2, if_pos rfl, if_neg hp6, if_neg hk3, Nat.add_zero]⟩
                clear hst2 HST2 hN5 hk3 hp6
                go_wp2
                go_roundw
                case rel => exact ⟨k + 1, b, by go_num, by omega, by go_num, by omega, ⟨HE.out.symm⟩, ⟨(H6.out.alloc _).right⟩⟩
                case measure => simp [intOf]; omega
          · have hgn2 : ((gn : Int) == gen) = false := by simpa using hgn
            have HE : Aside (g.badK A (k + 1) = b + 1) := ⟨by rw [hst2, if_neg hgn]⟩
            clear hst2 HST2 hN5
            go_wp2
            go_roundw
            case rel => exact ⟨k + 1, b + 1, by go_num, by omega, by go_num, by omega, ⟨HE.out.symm⟩, ⟨(H6.out.alloc _).right⟩⟩
            case measure => simp [intOf]; omega
        · by_cases h1 : kind = 1
          · subst h1
            rw [show ofV ⟨1, name, idx, gen⟩ = .iface 132 (.agg #[.int .i64 1, .string name, .int .i64 idx, .int .i64 gen]) from rfl]
            have ta := fun w => ta_sp 1 idx gen name w
            have HE : Aside (g.badK A (k + 1) = b) := ⟨by have h := HST2.out; rw [if_neg h2] at h; exact h⟩
            clear HST2
            go_wp2
            go_roundw
            case rel => exact ⟨k + 1, b, by go_num, by omega, rfl, by omega, ⟨HE.out.symm⟩, ⟨(H6.out.alloc _).right⟩⟩
            case measure => simp [intOf]; omega
          · exfalso
            rw [HN.out, HG.out, ends_0 h1 h2] at hlt
            exact Nat.not_lt_zero _ hlt
    · obtain rfl : k = N := by omega
      have hkk : ¬ (k : Int) < (k : Int) := by omega
      have H7 : Aside (Sat E wr (HP.disk d A * q)) := ⟨HS.out.drop2.drop2⟩
      clear HS
      go_wp2
      go_ret
      obtain rfl := HB.out
      exact ⟨rfl, H7.out⟩
def mendG (A : Dk) (g : Sgp) : (Bool × Int) × Dk := if g.kind = 1 then mendP A g.name g.idx else if g.kind = 2 then mendS A g.name g.gen g.idx else ((false, 1), A)
set_option maxHeartbeats 4000000 in
set_option maxRecDepth 100000 in
theorem scrub_mend (E : Env) (q : HP) (d : Nat) (A : Dk) (g : Sgp) (w : World) (hn : g.name.size + 2 ≤ maxLen) (hi64 : wf64 g.idx) (hby : ∀ f (i : Int) c, A.cel f i = some c → Bytes c.read) (hq : ∀ w, Sat E w q → Quarter w) (hw : Sat E w (HP.disk d A * q)) :
    Calls Tryz.prog 31 #[.pointer (some ⟨d, 0, none⟩), .agg #[.int .i64 g.kind, .string g.name, .int .i64 g.idx, .int .i64 g.gen]] w fun e w' => e = .returned (.tuple #[.bool (mendG A g).1.1, .int .i64 (mendG A g).1.2]) ∧ Sat E w' (HP.disk d (mendG A g).2 * q) := by
  obtain ⟨kind, name, idx, gen⟩ := g
  dsimp only at *
  have HQ := Aside.mk (And.intro hq (And.intro hby hn))
  have H0 : Aside (Sat E (w.alloc (.cells #[.int .i64 kind, .string name, .int .i64 idx, .int .i64 gen] 37)) (HP.disk d A * (HP.pt w.heap.size (.cells #[.int .i64 kind, .string name, .int .i64 idx, .int .i64 gen] 37) * q))) := ⟨(hw.alloc _).s2⟩
  have HM : Aside (mendG A ⟨kind, name, idx, gen⟩ = if kind = 1 then mendP A name idx else if kind = 2 then mendS A name gen idx else ((false, 1), A)) := ⟨rfl⟩
  obtain ⟨r, hr⟩ : ∃ r, r = mendG A ⟨kind, name, idx, gen⟩ := ⟨_, rfl⟩
  rw [← hr] at HM ⊢
  clear hw hq hby hn hr
  go_enter Tryz.func31, Tryz.ntmps31
  go_wp2_with fail
  refine (disk_asked E _ d A _ H0.out).mono ?_
  rintro e w1 ⟨rfl, h1⟩
  have k0 := h1.s2.cell 0
  have k1 := h1.s2.cell 1
  have k2 := h1.s2.cell 2
  have k3 := h1.s2.cell 3
  simp only [List.getElem?_toArray, List.getElem?_cons_zero, List.getElem?_cons_succ] at k0 k1 k2 k3
  have H1 := Aside.mk h1
  clear h1 H0
  go_wp2_with fail
  refine (scrub_of E _ ⟨kind, name, idx, gen⟩ _ H1.out).mono ?_
  rintro e w2 ⟨rfl, h2⟩
  clear k0 k1 k2 k3
  by_cases hk1 : kind = 1
  · subst hk1
    obtain rfl : r = mendP A name idx := by rw [HM.out, if_pos rfl]
    rw [show ofV ⟨1, name, idx, gen⟩ = .iface 132 (.agg #[.int .i64 1, .string name, .int .i64 idx, .int .i64 gen]) from rfl]
    have ta1 := fun w => ta_pp 1 idx gen name w
    have H2 : Aside (Sat E (w2.alloc (.cells #[.int .i64 1, .string name, .int .i64 idx, .int .i64 gen] 132)) (HP.disk d A * q)) := ⟨(h2.alloc _).right.drop2⟩
    clear h2 H1 HM
    go_wp2_with fail
    refine (pair_mend E q d A name idx _ HQ.out.2.2 (fun f _ c hc => HQ.out.2.1 f idx c hc) HQ.out.1 H2.out).mono ?_
    rintro e w3 ⟨rfl, h3⟩
    have H3 := Aside.mk h3
    clear h3 H2
    go_wp2
    go_ret2
    exact ⟨rfl, H3.out⟩
  · by_cases hk2 : kind = 2
    · subst hk2
      obtain rfl : r = mendS A name gen idx := by rw [HM.out, if_neg hk1, if_pos rfl]
      rw [show ofV ⟨2, name, idx, gen⟩ = .iface 133 (.agg #[.int .i64 2, .string name, .int .i64 idx, .int .i64 gen]) from rfl]
      have ta1 := fun w => ta_ps 2 idx gen name w
      have ta2 := fun w => ta_ss 2 idx gen name w
      have H2 : Aside (Sat E (w2.alloc (.cells #[.int .i64 2, .string name, .int .i64 idx, .int .i64 gen] 133)) (HP.disk d A * q)) := ⟨(h2.alloc _).right.drop2⟩
      clear h2 H1 HM
      go_wp2_with fail
      refine (stripe_mend E q d A name gen idx _ HQ.out.2.2 hi64 (fun k _ i c hc => HQ.out.2.1 _ i c hc) HQ.out.1 H2.out).mono ?_
      rintro e w3 ⟨rfl, h3⟩
      have H3 := Aside.mk h3
      clear h3 H2
      go_wp2
      go_ret2
      exact ⟨rfl, H3.out⟩
    · obtain rfl : r = ((false, 1), A) := by rw [HM.out, if_neg hk1, if_neg hk2]
      rw [show ofV ⟨kind, name, idx, gen⟩ = .nilIface by unfold ofV; rw [if_neg hk1, if_neg hk2]]
      have ta1 := ta_pn
      have ta2 := ta_sn
      have H2 : Aside (Sat E w2 (HP.disk d A * q)) := ⟨h2.drop2⟩
      clear h2 H1 HM
      go_wp2
      go_ret2
      exact ⟨rfl, H2.out⟩
theorem readS_of_reads {A B : Dk} {f : ByteArray} {file : Nat} {gen i : Int} (h : readO B f i = readO A f i) : readS B f file gen i = readS A f file gen i := by
  have key : ∀ C : Dk, readS C f file gen i = (match openI (readO C f i) f i with | none => (slotZ, false) | some x => if (x.2 : Int) ≠ gen then (slotZ, false) else readT file x.1) := fun C => by
    unfold readS readO
    cases C.cel f i with
    | none =>
      dsimp only
      have : openI [] f i = none := by unfold openI; rw [if_pos (.inl (by decide))]
      rw [this]
    | some c => rfl
  rw [key B, key A, h]
theorem badN_twoR {A : Dk} {x : ByteArray} {gen i : Int} {f h : Nat} (hf : f < 4) (hh : h < 4) (e : f ≠ h) (bf : (slotOf A x gen i f).2 = false) (bh : (slotOf A x gen i h).2 = false) : 1 < badN A x gen i 4 := by
  have cf : f = 0 ∨ f = 1 ∨ f = 2 ∨ f = 3 := by omega
  have ch : h = 0 ∨ h = 1 ∨ h = 2 ∨ h = 3 := by omega
  rcases cf with rfl | rfl | rfl | rfl <;> rcases ch with rfl | rfl | rfl | rfl <;> first | exact absurd rfl e | (simp only [badN, bf, bh]; simp; try omega)
theorem write_syncd {A : Dk} (hs : Sorted A.files) (hS : A.Sane) (f : ByteArray) (i : Int) (b : List Int) {g : ByteArray} {j : Int} (h : g ≠ f ∨ j ≠ i) : readO ((A.write f i b).2.sync f).2 g j = readO A g j := by
  rw [sync_reads (write_sorted hs f i b) (hS.write f i b), write_reads hs f i b h]
theorem write_synced {A : Dk} (hs : Sorted A.files) (hS : A.Sane) {f : ByteArray} {i : Int} {b : List Int} (h : (A.write f i b).1 = 0) : readO ((A.write f i b).2.sync f).2 f i = b := by
  rw [sync_reads (write_sorted hs f i b) (hS.write f i b), write_read hs h]
theorem mend1_reads {A : Dk} (hs : Sorted A.files) (hS : A.Sane) (f : ByteArray) (i n : Nat) (p : List Int) {g : ByteArray} {j : Int} (h : g ≠ f ∨ j ≠ (i : Int)) : readO (mend1 A f i n p).2 g j = readO A g j := by
  unfold mend1
  split
  · exact write_syncd hs hS f i _ h
  · exact write_reads hs f i _ h
theorem mend1_read {A : Dk} (hs : Sorted A.files) (hS : A.Sane) {f : ByteArray} {i n : Nat} {p : List Int} (h : (mend1 A f i n p).1.2 = 0) : readO (mend1 A f i n p).2 f i = extI f i n p := by
  unfold mend1 at h ⊢
  split
  · rename_i h0
    exact write_synced hs hS h0
  · rename_i h0
    rw [if_neg h0] at h
    exact absurd h h0
theorem mendL_reads (i n : Nat) (p : List Int) {g : ByteArray} {j : Int} : ∀ (fs : List ByteArray) (wr : Bool) {A : Dk}, Sorted A.files → A.Sane → (g ∉ fs ∨ j ≠ (i : Int)) → readO (mendL i n p wr A fs).2 g j = readO A g j
  | [], wr, A, hs, hS, h => rfl
  | f :: r, wr, A, hs, hS, h => by
    have hg : g ≠ f ∨ j ≠ (i : Int) := h.imp (fun h e => h (by rw [e]; exact List.mem_cons_self ..)) id
    have hr : g ∉ r ∨ j ≠ (i : Int) := h.imp (fun h e => h (List.mem_cons_of_mem _ e)) id
    rw [mendL_cons]
    split
    · exact mendL_reads i n p r wr hs hS hr
    · split
      · split
        · rw [mendL_reads i n p r true (sync_sorted (write_sorted hs f i _) f) ((hS.write f i _).sync f) hr, write_syncd hs hS f i _ hg]
        · exact write_syncd hs hS f i _ hg
      · exact write_reads hs f i _ hg
theorem mendL_read (i n : Nat) (p : List Int) : ∀ (fs : List ByteArray) (wr : Bool) {A : Dk}, Sorted A.files → A.Sane → fs.Nodup → (mendL i n p wr A fs).1.2 = 0 → ∀ f ∈ fs, readO (mendL i n p wr A fs).2 f i = extI f i n p
  | [], wr, A, hs, hS, hn, h, f, hf => by cases hf
  | f :: r, wr, A, hs, hS, hn, h, g, hg => by
    obtain ⟨hf, hr⟩ := List.nodup_cons.1 hn
    rw [mendL_cons] at h ⊢
    split at h
    · rename_i h0
      rw [if_pos h0]
      rcases List.mem_cons.1 hg with rfl | hg
      · rw [mendL_reads i n p r wr hs hS (.inl hf)]; exact h0
      · exact mendL_read i n p r wr hs hS hr h g hg
    · rename_i h0
      rw [if_neg h0]
      split at h
      · rename_i h1
        rw [if_pos h1]
        split at h
        · rename_i h2
          rw [if_pos h2]
          rcases List.mem_cons.1 hg with rfl | hg
          · rw [mendL_reads i n p r true (sync_sorted (write_sorted hs _ i _) _) ((hS.write _ i _).sync _) (.inl hf)]
            exact write_synced hs hS h1
          · exact mendL_read i n p r true (sync_sorted (write_sorted hs f i _) f) ((hS.write f i _).sync f) hr h g hg
        · rename_i h2
          exact absurd h h2
      · rename_i h1
        exact absurd h h1
theorem mendG_reads {A : Dk} (hs : Sorted A.files) (hS : A.Sane) (g : Sgp) {f : ByteArray} {j : Int} (h : (f, j) ∉ g.spots) : readO (mendG A g).2 f j = readO A f j := by
  have hsp : ∀ e, e ∈ g.ends → f ≠ g.name ++ e ∨ j ≠ g.idx := fun e he => by
    by_cases h1 : f = g.name ++ e
    · right
      intro h2
      refine h ?_
      unfold Sgp.spots
      exact List.mem_map.2 ⟨e, he, by rw [h1, h2]⟩
    · exact .inl h1
  unfold mendG
  split
  · rename_i hk
    rw [ends_1 hk] at hsp
    unfold mendP
    split
    · rfl
    · rename_i h0
      have hi := (getP_ok A g.name g.idx).place (by omega)
      have hij : ((g.idx.toNat : Nat) : Int) = g.idx := by omega
      refine mendL_reads _ _ _ _ _ hs hS ?_
      rw [hij]
      by_cases hj : j = g.idx
      · left
        intro hm
        unfold halvesL at hm
        simp only [List.mem_cons, List.not_mem_nil, or_false] at hm
        rcases hm with hm | hm
        · exact (hsp dotA (by simp)).elim (fun h => h hm) (fun h => h hj)
        · exact (hsp dotB (by simp)).elim (fun h => h hm) (fun h => h hj)
      · exact .inr hj
  · split
    · rename_i hk
      rw [ends_2 hk] at hsp
      unfold mendS
      split
      · rfl
      · rename_i hi
        cases hf : firstBad A g.name g.gen g.idx with
        | none => rfl
        | some k =>
          have hk4 : k < 4 := by
            have := List.mem_of_find?_eq_some hf
            simp at this
            omega
          unfold mendK
          dsimp only
          split
          · refine mend1_reads hs hS _ _ _ _ ?_
            rw [show ((g.idx.toNat : Nat) : Int) = g.idx by omega]
            have hc : k = 0 ∨ k = 1 ∨ k = 2 ∨ k = 3 := by omega
            rcases hc with rfl | rfl | rfl | rfl
            · exact hsp dot0 (by simp)
            · exact hsp dot1 (by simp)
            · exact hsp dot2 (by simp)
            · exact hsp dotP (by simp)
          · rfl
    · rfl
theorem badK_none {A : Dk} {g : Sgp} (h : ∀ k s, g.ends[k]? = some s → g.right A k (g.name ++ s) = true) : ∀ k, g.badK A k = 0
  | 0 => rfl
  | k + 1 => by
    cases hs : g.ends[k]? with
    | none => rw [Sgp.badK, badK_none h k, hs]; rfl
    | some s => rw [badK_step hs, badK_none h k, h k s hs]; rfl
theorem mendG_right {A : Dk} (hs : Sorted A.files) (hS : A.Sane) (g : Sgp) (h : (mendG A g).1.2 = 0) : g.bad (mendG A g).2 = 0 := by
  unfold mendG at h ⊢
  split at h
  · rename_i hk
    rw [if_pos hk]
    unfold mendP at h ⊢
    split at h
    · exact absurd h (show ¬ (50 : Int) = 0 by decide)
    · rename_i h0
      rw [if_neg h0]
      have ok := getP_ok A g.name g.idx
      have hi := ok.place (by omega)
      have hg := ok.gen
      have hl := ok.len
      have hnd : (halvesL g.name).Nodup := by
        unfold halvesL
        refine List.nodup_cons.2 ⟨fun hm => ?_, List.nodup_cons.2 ⟨by simp, List.nodup_nil⟩⟩
        have e := List.mem_singleton.1 hm
        have e2 := congrArg (fun b : ByteArray => b.toList.reverse.head?) e
        simp [ByteArray.toList_eq, dotA, dotB, ByteArray.data_append] at e2
      have hr := mendL_read g.idx.toNat (getP A g.name g.idx).1.toNat (getP A g.name g.idx).2 (halvesL g.name) false hs hS hnd h
      generalize (mendL g.idx.toNat (getP A g.name g.idx).1.toNat (getP A g.name g.idx).2 false A (halvesL g.name)).2 = B at *
      unfold Sgp.bad
      refine badK_none (fun k s he => ?_) _
      rw [right_readO]
      have hm : g.name ++ s ∈ halvesL g.name := by
        have := List.mem_of_getElem? he
        rw [ends_1 hk] at this
        simp only [List.mem_cons, List.not_mem_nil, or_false] at this
        rcases this with rfl | rfl <;> simp [halvesL]
      have e := hr _ hm
      rw [show ((g.idx.toNat : Nat) : Int) = g.idx by omega] at e
      have ho : openI (extI (g.name ++ s) g.idx.toNat (getP A g.name g.idx).1.toNat (getP A g.name g.idx).2) (g.name ++ s) ((g.idx.toNat : Nat) : Int) = some ((getP A g.name g.idx).2, (getP A g.name g.idx).1.toNat) := openI_extI (by omega) (by omega) hl
      rw [show ((g.idx.toNat : Nat) : Int) = g.idx by omega] at ho
      rw [e, ho]
      dsimp only
      rw [if_neg (by omega)]
  · rename_i hk1
    rw [if_neg hk1]
    split at h
    · rename_i hk
      rw [if_pos hk]
      rw [bad_stripe hk]
      unfold mendS at h ⊢
      split at h
      · exact absurd h (show ¬ (1 : Int) = 0 by decide)
      · rename_i hi
        rw [if_neg hi]
        cases hf : firstBad A g.name g.gen g.idx with
        | none =>
          unfold firstBad at hf
          have := List.find?_eq_none.1 hf
          refine badN_right 4 fun j hj => ?_
          have hm : j ∈ [0, 1, 2, 3] := by simp; omega
          have := this j hm
          show (slotOf A g.name g.gen g.idx j).2 = true
          simpa using this
        | some k =>
          rw [hf] at h
          have hk4 : k < 4 := by
            have := List.mem_of_find?_eq_some hf
            simp at this
            omega
          have hbad : (slotOf A g.name g.gen g.idx k).2 = false := by
            have := List.find?_some hf
            simpa using this
          unfold mendK at h ⊢
          dsimp only at h ⊢
          split at h
          · rename_i ha
            rw [if_pos ha]
            have hn1 : ¬ 1 < badN A g.name g.gen g.idx 4 := by
              intro hlt
              unfold atF at ha
              rw [if_neg (by rw [hbad]; exact Bool.false_ne_true), if_pos hlt] at ha
              cases ha
            have hoth : ∀ j, j < 4 → j ≠ k → (slotOf A g.name g.gen g.idx j).2 = true := fun j hj hne => by
              cases hb : (slotOf A g.name g.gen g.idx j).2 with
              | true => rfl
              | false => exact absurd (badN_twoR hk4 hj (Ne.symm hne) hbad hb) hn1
            have hij : ((g.idx.toNat : Nat) : Int) = g.idx := by omega
            have hgen : ∃ j, j < 4 ∧ (slotOf A g.name g.gen g.idx j).2 = true := ⟨if k = 0 then 1 else 0, by split <;> omega, hoth _ (by split <;> omega) (by split <;> omega)⟩
            have hgr : 0 ≤ g.gen ∧ g.gen ≤ 4611686018427387904 := by
              obtain ⟨j, hj, hr⟩ := hgen
              unfold slotOf readS at hr
              cases hc : A.cel (stripeF g.name j) g.idx with
              | none => rw [hc] at hr; cases hr
              | some c =>
                rw [hc] at hr
                dsimp only at hr
                cases ho : openI c.read (stripeF g.name j) g.idx with
                | none => rw [ho] at hr; cases hr
                | some x =>
                  rw [ho] at hr
                  dsimp only at hr
                  have hx := (openI_gen (p := x.1) (g := x.2) ho).1
                  by_cases e : (x.2 : Int) = g.gen
                  · omega
                  · rw [if_pos e] at hr; cases hr
            have hlen : (payI k (atF A g.name g.gen g.idx k).1).length ≤ 106 ∧ (readT k (payI k (atF A g.name g.gen g.idx k).1)).2 = true := by
              have hl := atF_length A g.name g.gen g.idx k
              unfold payI readT
              by_cases h3 : k = 3
              · rw [if_pos h3, if_pos h3]
                exact ⟨by omega, by simp [hl]⟩
              · rw [if_neg h3, if_neg h3]
                have hfine : fineS (atF A g.name g.gen g.idx k).1 = true := by
                  unfold atF at ha ⊢
                  rw [if_neg (by rw [hbad]; exact Bool.false_ne_true), if_neg hn1] at ha ⊢
                  rw [decide_eq_false h3, Bool.false_or] at ha
                  exact ha
                unfold fineS at hfine
                simp only [Bool.and_eq_true, decide_eq_true_eq] at hfine
                refine ⟨by rw [List.length_take]; omega, ?_⟩
                rw [List.length_take]
                simp
                omega
            have hrd := mend1_read hs hS h
            have hfr : ∀ j, j < 4 → j ≠ k → stripeF g.name j ≠ stripeF g.name k := fun j hj hne e => by
              have e2 := congrArg (fun b : ByteArray => b.toList.reverse.head?) e
              have cj : j = 0 ∨ j = 1 ∨ j = 2 ∨ j = 3 := by omega
              have ck : k = 0 ∨ k = 1 ∨ k = 2 ∨ k = 3 := by omega
              rcases cj with rfl | rfl | rfl | rfl <;> rcases ck with rfl | rfl | rfl | rfl <;> first | exact hne rfl | (simp [stripeF, ByteArray.toList_eq, dot0, dot1, dot2, dotP, ByteArray.data_append] at e2)
            have hothr := fun j (hj : j < 4) (hne : j ≠ k) => mend1_reads hs hS (stripeF g.name k) g.idx.toNat g.gen.toNat (payI k (atF A g.name g.gen g.idx k).1) (g := stripeF g.name j) (j := g.idx) (.inl (hfr j hj hne))
            generalize (mend1 A (stripeF g.name k) g.idx.toNat g.gen.toNat (payI k (atF A g.name g.gen g.idx k).1)).2 = B at *
            rw [hij] at hrd
            refine badN_right 4 fun j hj => ?_
            by_cases hne : j = k
            · subst hne
              unfold slotOf
              have ho : openI (extI (stripeF g.name j) g.idx.toNat g.gen.toNat (payI j (atF A g.name g.gen g.idx j).1)) (stripeF g.name j) ((g.idx.toNat : Nat) : Int) = some (payI j (atF A g.name g.gen g.idx j).1, g.gen.toNat) := openI_extI (by omega) (by omega) hlen.1
              rw [hij] at ho
              have hcel : ∃ c, B.cel (stripeF g.name j) g.idx = some c ∧ c.read = extI (stripeF g.name j) g.idx.toNat g.gen.toNat (payI j (atF A g.name g.gen g.idx j).1) := by
                unfold readO at hrd
                cases hc : B.cel (stripeF g.name j) g.idx with
                | none =>
                  rw [hc] at hrd
                  rw [← hrd] at ho
                  unfold openI at ho
                  rw [if_pos (.inl (by decide))] at ho
                  cases ho
                | some c => rw [hc] at hrd; exact ⟨c, rfl, hrd⟩
              obtain ⟨c, hc, hcr⟩ := hcel
              unfold readS
              rw [hc]
              dsimp only
              rw [hcr, ho]
              dsimp only
              rw [if_neg (by simp; omega)]
              exact hlen.2
            · have e : slotOf B g.name g.gen g.idx j = slotOf A g.name g.gen g.idx j := by
                unfold slotOf
                exact readS_of_reads (hothr j hj hne)
              rw [e]
              exact hoth j hj hne
          · exact absurd h (show ¬ (50 : Int) = 0 by decide)
    · exact absurd h (show ¬ (1 : Int) = 0 by decide)
end Go.Proofs.YtnpinegpajbkeaaGreatDoor
namespace Go.Proofs.YtnpinegpajbkeaaGreatDoor
open Go.Shelf Go.RowKit HP
def laysItoa_ren : Go.Shelf.Ren := ⟨fun | 171 => 49 | 243 => 107 | 246 => 139 | 283 => 161 | 284 => 162 | 285 => 163 | 286 => 164 | 129 => 180 | 317 => 190 | 318 => 191 | 319 => 192 | 320 => 193 | 337 => 204 | 338 => 205 | n => n, fun | 3 => 3 | 9 => 9 | 2 => 2 | 4 => 4 | 171 => 219 | 0 => 0 | 53 => 167 | 37 => 43 | 5 => 5 | 173 => 222 | 212 => 245 | 51 => 168 | 20 => 20 | 213 => 246 | 46 => 50 | 232 => 264 | 233 => 265 | n => n, fun | 17 => 0 | 18 => 4 | 19 => 5 | n => n⟩
theorem laysItoa : Go.Proofs.LaysM.n171 Tryz.prog laysItoa_ren := {
  mixed := by kernel_rfl
  f129 := Tryz.func180.trans (congrArg some (by kernel_rfl))
  f171 := Tryz.func49.trans (congrArg some (by kernel_rfl))
  f243 := Tryz.func107.trans (congrArg some (by kernel_rfl))
  f246 := Tryz.func139.trans (congrArg some (by kernel_rfl))
  f283 := Tryz.func161.trans (congrArg some (by kernel_rfl))
  f284 := Tryz.func162.trans (congrArg some (by kernel_rfl))
  f285 := Tryz.func163.trans (congrArg some (by kernel_rfl))
  f286 := Tryz.func164.trans (congrArg some (by kernel_rfl))
  f317 := Tryz.func190.trans (congrArg some (by kernel_rfl))
  f318 := Tryz.func191.trans (congrArg some (by kernel_rfl))
  f319 := Tryz.func192.trans (congrArg some (by kernel_rfl))
  f320 := Tryz.func193.trans (congrArg some (by kernel_rfl))
  f337 := Tryz.func204.trans (congrArg some (by kernel_rfl))
  f338 := Tryz.func205.trans (congrArg some (by kernel_rfl))
  t0 := Tryz.underlying0
  a0 := Tryz.isAgg0
  z0 := Tryz.sizeOf0
  v0 := Tryz.zeroValue0
  t2 := Tryz.underlying2
  a2 := Tryz.isAgg2
  z2 := Tryz.sizeOf2
  v2 := Tryz.zeroValue2
  t3 := Tryz.underlying3
  a3 := Tryz.isAgg3
  z3 := Tryz.sizeOf3
  v3 := Tryz.zeroValue3
  t4 := Tryz.underlying4
  a4 := Tryz.isAgg4
  z4 := Tryz.sizeOf4
  v4 := Tryz.zeroValue4
  t5 := Tryz.underlying5
  a5 := Tryz.isAgg5
  z5 := Tryz.sizeOf5
  v5 := Tryz.zeroValue5
  t9 := Tryz.underlying9
  a9 := Tryz.isAgg9
  z9 := Tryz.sizeOf9
  v9 := Tryz.zeroValue9
  t20 := Tryz.underlying20
  a20 := Tryz.isAgg20
  z20 := Tryz.sizeOf20
  v20 := Tryz.zeroValue20
  t37 := Tryz.underlying43
  a37 := Tryz.isAgg43
  z37 := Tryz.sizeOf43
  v37 := Tryz.zeroValue43
  t46 := Tryz.underlying50
  a46 := Tryz.isAgg50
  z46 := Tryz.sizeOf50
  v46 := Tryz.zeroValue50
  t51 := Tryz.underlying168
  a51 := Tryz.isAgg168
  z51 := Tryz.sizeOf168
  v51 := Tryz.zeroValue168
  t53 := Tryz.underlying167
  a53 := Tryz.isAgg167
  z53 := Tryz.sizeOf167
  v53 := Tryz.zeroValue167
  t171 := Tryz.underlying219
  a171 := Tryz.isAgg219
  z171 := Tryz.sizeOf219
  v171 := Tryz.zeroValue219
  t173 := Tryz.underlying222
  a173 := Tryz.isAgg222
  z173 := Tryz.sizeOf222
  v173 := Tryz.zeroValue222
  t212 := Tryz.underlying245
  a212 := Tryz.isAgg245
  z212 := Tryz.sizeOf245
  v212 := Tryz.zeroValue245
  t213 := Tryz.underlying246
  a213 := Tryz.isAgg246
  z213 := Tryz.sizeOf246
  t232 := Tryz.underlying264
  a232 := Tryz.isAgg264
  z232 := Tryz.sizeOf264
  v232 := Tryz.zeroValue264
  t233 := Tryz.underlying265
  a233 := Tryz.isAgg265
  z233 := Tryz.sizeOf265
  v233 := Tryz.zeroValue265
  g17 := by kernel_rfl
  g18 := by kernel_rfl
  g19 := by kernel_rfl
  i0 := by kernel_rfl
  i2 := by kernel_rfl
  i3 := by kernel_rfl
  i4 := by kernel_rfl
  i5 := by kernel_rfl
  i9 := by kernel_rfl
  i20 := by kernel_rfl
  i37 := by kernel_rfl
  i46 := by kernel_rfl
  i51 := by kernel_rfl
  i53 := by kernel_rfl
  i171 := by kernel_rfl
  i173 := by kernel_rfl
  i212 := by kernel_rfl
  i232 := by kernel_rfl
  i233 := by kernel_rfl
  m17 := by kernel_rfl
  m18 := by kernel_rfl
  m19 := by kernel_rfl }
theorem Sat.grown {E : Env} {q : HP} : ∀ (l : List Obj) {w : World}, Sat E w q → Sat E (Go.Sort.grow w l.toArray) q
  | [], w, h => by
    have : Go.Sort.grow w ([] : List Obj).toArray = w := by simp [Go.Sort.grow]
    rw [this]; exact h
  | o :: l, w, h => by
    have h1 : Sat E (w.alloc o) q := (h.alloc o).right
    have h2 := Sat.grown l h1
    rw [Go.Sort.alloc_eq_grow, Go.Sort.grow_grow] at h2
    have e : #[o] ++ l.toArray = (o :: l).toArray := by simp
    rw [e] at h2; exact h2
theorem itoa_ok (E : Env) (q : HP) (n : Int) (w : World) (hn : wf64 n) (ht : ∀ w, Sat E w q → Lib.TabIs Tryz.prog w "internal/strconv.uint64pow10" .u64 Lib.pow10Tab) (hw : Sat E w q) :
    Calls Tryz.prog 49 #[.int .i64 n] w fun e w' => e = .returned (.string ⟨(Lib.itoa n).toArray⟩) ∧ Sat E w' q := by
  refine (Any.strconv_Itoa laysItoa n hn.1 hn.2 w (ht w hw)).mono ?_
  rintro e w' ⟨rfl, k, os, rfl⟩
  refine ⟨rfl, ?_⟩
  have := Sat.grown os.toList (hw.drewN (n := k))
  simpa using this
end Go.Proofs.YtnpinegpajbkeaaGreatDoor
namespace Go.Proofs.YtnpinegpajbkeaaGreatDoor
open Go.RowKit HP
def decB (m : Nat) : ByteArray := ⟨(Lib.decDigits m).toArray⟩
def digB (d : Nat) : ByteArray := ⟨#[UInt8.ofNat (48 + d)]⟩
theorem decB_small {m : Nat} (h : m < 10) : decB m = digB m := by
  unfold decB digB Lib.decDigits
  rw [dif_pos h]
theorem decB_more {m : Nat} (h : ¬ m < 10) : decB m = decB (m / 10) ++ digB (m % 10) := by
  unfold decB digB
  rw [Lib.decDigits, dif_neg h]
  apply ByteArray.ext
  simp
theorem decB_size : ∀ (k u : Nat), u < 10 ^ (k + 1) → (decB u).size ≤ k + 1
  | 0, u, h => by rw [decB_small (by omega)]; exact Nat.le_refl _
  | k + 1, u, h => by
    by_cases h10 : u < 10
    · rw [decB_small h10]
      show 1 ≤ k + 1 + 1
      omega
    · rw [decB_more h10, ByteArray.size_append]
      have h2 : u / 10 < 10 ^ (k + 1) := by
        rw [Nat.pow_succ] at h
        omega
      have := decB_size k (u / 10) h2
      show _ + 1 ≤ k + 1 + 1
      omega
def mB : ByteArray := ⟨#[109]⟩
def tB : ByteArray := ⟨#[116]⟩
theorem itoa_nat (d : Nat) : (⟨(Lib.itoa (d : Int)).toArray⟩ : ByteArray) = decB d := by
  unfold Lib.itoa decB
  rw [if_neg (by omega), Int.toNat_natCast]
set_option maxHeartbeats 1000000 in
set_option maxRecDepth 100000 in
theorem names_ok (E : Env) (q : HP) (n : Int) (w : World) (hn : wf64 n) (ht : ∀ w, Sat E w q → Lib.TabIs Tryz.prog w "internal/strconv.uint64pow10" .u64 Lib.pow10Tab) (hw : Sat E w q) :
    Calls Tryz.prog 47 #[.int .i64 n] w fun e w' => e = .returned (.tuple #[.string (mB ++ decB n.toNat), .string (tB ++ decB n.toNat)]) ∧ Sat E w' q := by
  obtain ⟨d, hd⟩ : ∃ d : Nat, d = n.toNat := ⟨_, rfl⟩
  have hmx : max n 0 = (d : Int) := by omega
  have hmx2 : (if (0 : Int) > n then (0 : Int) else n) = (d : Int) := by split <;> omega
  unfold wf64 at hn
  have hsz := decB_size 18 d (by omega)
  have HI := Aside.mk (itoa_ok E q (d : Int) w ⟨by omega, by omega⟩ ht hw)
  rw [← hd]
  have hs1 : mB.size + (decB d).size ≤ 100 := by show 1 + (decB d).size ≤ 100; omega
  have hs2 : tB.size + (decB d).size ≤ 100 := by show 1 + (decB d).size ≤ 100; omega
  have hs3 : 1 + (decB d).size ≤ 100 := by omega
  clear ht hw hd hn hsz
  go_enter Tryz.func47, Tryz.ntmps47
  go_wp2_with fail
  refine HI.out.mono ?_
  rintro e w1 ⟨rfl, h1⟩
  rw [itoa_nat]
  have H1 := Aside.mk h1
  clear h1 HI
  go_wp2
  go_ret2
  exact ⟨rfl, H1.out⟩
def wB : ByteArray := ⟨#[119]⟩
def nameW (seg : Int) : ByteArray := wB ++ decB seg.toNat
set_option maxHeartbeats 1000000 in
set_option maxRecDepth 100000 in
theorem wal_name (E : Env) (q : HP) (n : Int) (w : World) (hn : wf64 n) (ht : ∀ w, Sat E w q → Lib.TabIs Tryz.prog w "internal/strconv.uint64pow10" .u64 Lib.pow10Tab) (hw : Sat E w q) :
    Calls Tryz.prog 48 #[.int .i64 n] w fun e w' => e = .returned (.string (nameW n)) ∧ Sat E w' q := by
  obtain ⟨d, hd⟩ : ∃ d : Nat, d = n.toNat := ⟨_, rfl⟩
  have hmx : max n 0 = (d : Int) := by omega
  have hmx2 : (if (0 : Int) > n then (0 : Int) else n) = (d : Int) := by split <;> omega
  unfold wf64 at hn
  have hsz := decB_size 18 d (by omega)
  have HI := Aside.mk (itoa_ok E q (d : Int) w ⟨by omega, by omega⟩ ht hw)
  have HN : Aside (nameW n = wB ++ decB d) := ⟨by unfold nameW; rw [hd]⟩
  have hs3 : 1 + (decB d).size ≤ 100 := by omega
  clear ht hw hd hn hsz
  go_enter Tryz.func48, Tryz.ntmps48
  go_wp2_with fail
  refine HI.out.mono ?_
  rintro e w1 ⟨rfl, h1⟩
  rw [itoa_nat]
  have H1 := Aside.mk h1
  clear h1 HI
  go_wp2
  go_ret
  rw [HN.out]
  exact ⟨rfl, H1.out⟩
structure Ftr where
  number : Int
  gen : Int
  level : Int
  rank : Int
  mn : Int
  mx : Int
  bytes : Int
  pA : Option Addr
  pn : Nat
  pc : Nat
def Ftr.vals (f : Ftr) : List Value := [.int .i64 f.number, .int .i64 f.gen, .int .i64 f.level, .int .i64 f.rank, .int .i64 f.mn, .int .i64 f.mx, .int .i64 f.bytes, .slice f.pA f.pn f.pc]
def Ftr.ok (f : Ftr) : Bool := decide (0 ≤ f.bytes) && decide (f.bytes ≤ 2147483647) && decide (1 ≤ f.number)
def pairsG (name : ByteArray) (n : Nat) : List Sgp := (List.range n).map fun i : Nat => ⟨1, name, i, 0⟩
def stripesG (name : ByteArray) (n : Nat) (gen : Int) : List Sgp := (List.range n).map fun i : Nat => ⟨2, name, i, gen⟩
def longN (A : Dk) (name : ByteArray) : Nat := max 1 (max (A.at (name ++ dotA)).length (A.at (name ++ dotB)).length)
def fB : ByteArray := ⟨#[102]⟩
def iB : ByteArray := ⟨#[105]⟩
def cB : ByteArray := ⟨#[99]⟩
def anchorS : ByteArray := ⟨#[97, 110, 99, 104, 111, 114]⟩
def ftG (A : Dk) (f : Ftr) : List Sgp := pairsG (fB ++ decB f.number.toNat) 1 ++ (pairsG (iB ++ decB f.number.toNat) (longN A (iB ++ decB f.number.toNat)) ++ stripesG (cB ++ decB f.number.toNat) (groupsI f.bytes).toNat f.gen)
def groupsG (A : Dk) (a : Anch) (l : List Ftr) : List Sgp :=
  if canA a = true ∧ a.ext ≤ 2147483647 ∧ l.all Ftr.ok = true then
    pairsG anchorS 1 ++ (pairsG (mB ++ decB a.gen.toNat) (longN A (mB ++ decB a.gen.toNat)) ++ (pairsG (tB ++ decB a.gen.toNat) (longN A (tB ++ decB a.gen.toNat)) ++ (pairsG (nameW a.seg) a.ext.toNat ++ l.flatMap (ftG A))))
  else []
def HP.gs (bO : Nat) (gs : List Sgp) : HP := HP.ex fun v => HP.pt bO (.cells #[v] 35) * HP.row 37 4 v gs.length (gs.flatMap Sgp.vals)
theorem slGrp : SlTy Tryz.prog 35 37 (.agg #[.int .i64 0, .string ⟨#[]⟩, .int .i64 0, .int .i64 0]) 4 40 := ⟨Tryz.underlying35, by kernel_rfl, rfl, by decide⟩
theorem Sat.gs_open {E : Env} {w : World} {q : HP} {bO : Nat} {gs : List Sgp} (h : Sat E w (HP.gs bO gs * q)) : ∃ v, Sat E w (HP.row 37 4 v gs.length (gs.flatMap Sgp.vals) * (HP.pt bO (.cells #[v] 35) * q)) := by
  obtain ⟨v, h⟩ := h.ex_elim
  exact ⟨v, h.perm (by ac_rfl)⟩
theorem Sat.gs_close {E : Env} {w : World} {q : HP} {bO : Nat} {gs : List Sgp} {v : Value} {n : Nat} {cs : List Value} (hn : n = gs.length) (hc : cs = gs.flatMap Sgp.vals) (h : Sat E w (HP.row 37 4 v n cs * (HP.pt bO (.cells #[v] 35) * q))) : Sat E w (HP.gs bO gs * q) := by
  subst hn hc
  exact Sat.ex_intro (f := fun v => HP.pt bO (.cells #[v] 35) * HP.row 37 4 v gs.length (gs.flatMap Sgp.vals)) v (h.perm (by ac_rfl))
theorem pairsG_step (name : ByteArray) (k : Nat) : pairsG name (k + 1) = pairsG name k ++ [⟨1, name, k, 0⟩] := by
  unfold pairsG; rw [List.range_succ, List.map_append]; rfl
theorem stripesG_step (name : ByteArray) (k : Nat) (gen : Int) : stripesG name (k + 1) gen = stripesG name k gen ++ [⟨2, name, k, gen⟩] := by
  unfold stripesG; rw [List.range_succ, List.map_append]; rfl
theorem pairsG_length (name : ByteArray) (n : Nat) : (pairsG name n).length = n := by unfold pairsG; rw [List.length_map, List.length_range]
theorem stripesG_length (name : ByteArray) (n : Nat) (gen : Int) : (stripesG name n gen).length = n := by unfold stripesG; rw [List.length_map, List.length_range]
set_option maxHeartbeats 4000000 in
set_option maxRecDepth 100000 in
theorem groups_pairs (E : Env) (q : HP) (bO : Nat) (gs : List Sgp) (name : ByteArray) (n : Nat) (w : World) (hs : gs.length + n ≤ 4000000) (hw : Sat E w (HP.gs bO gs * q)) :
    Calls Tryz.prog 45 #[.string name, .int .i64 n, .pointer (some ⟨bO, 0, none⟩)] w fun e w' => e = .returned (.tuple #[]) ∧ Sat E w' (HP.gs bO (gs ++ pairsG name n) * q) := by
  have H0 : Aside (Sat E w (HP.gs bO (gs ++ pairsG name 0) * q)) := ⟨by rw [show pairsG name 0 = [] from rfl, List.append_nil]; exact hw⟩
  obtain ⟨z, hz⟩ : ∃ z, z = gs.length := ⟨_, rfl⟩
  rw [← hz] at hs
  have HZ := Aside.mk hz
  clear hw hz
  go_enter Tryz.func45, Tryz.ntmps45
  go_wp2
  go_loopw [7] (fun v7 wr => ∃ k : Nat, v7 = .int .i64 k ∧ k ≤ n ∧ Aside (Sat E wr (HP.gs bO (gs ++ pairsG name k) * q))) (fun x _ => n - (intOf x).toNat)
  case atStart => exact ⟨0, rfl, Nat.zero_le _, H0⟩
  case round =>
    clear H0
    obtain ⟨k, rfl, hk, HS⟩ := hrel
    by_cases hlt : k < n
    · have hlt1 : (k : Int) < (n : Int) := by omega
      obtain ⟨v, h1⟩ := HS.out.gs_open
      obtain ⟨Av, cv, rfl, -, -⟩ := h1.row_slice
      have hl : (gs ++ pairsG name k).length = z + k := by rw [List.length_append, pairsG_length, HZ.out]
      rw [hl] at h1
      obtain ⟨L, hL⟩ : ∃ L, L = (gs ++ pairsG name k).flatMap Sgp.vals := ⟨_, rfl⟩
      rw [← hL] at h1
      have HL := Aside.mk hL
      have b0 := h1.s2.cell1
      have H1 := Aside.mk h1
      obtain ⟨zk, hzk⟩ : ∃ zk, zk = z + k := ⟨_, rfl⟩
      have hzk1 : zk ≤ 3999999 := by omega
      rw [← hzk] at H1 b0
      have HK := Aside.mk hzk
      clear hL hl h1 HS hzk
      go_wp2_with (at_builtin; refine wpList_append_new slGrp rfl rfl (by rfl) (by rfl) H1.out (by rfl) (by rfl) (by unfold maxLen; omega) (by omega) (fun v5 w5 hw5 => ?_); obtain ⟨A5, c5, rfl, -, -⟩ := hw5.row_slice; have b5 := hw5.s2.cell1; have t5 := hw5.s2.thaw 0; have HW5 := Aside.mk hw5; clear hw5)
      have H6 : Aside (Sat E _ (HP.gs bO (gs ++ pairsG name (k + 1)) * q)) := ⟨Sat.gs_close (n := zk + 1) (by rw [List.length_append, pairsG_length, ← HZ.out, HK.out]; omega) (by rw [pairsG_step, ← List.append_assoc, List.flatMap_append, ← HL.out]; rfl) (HW5.out.s2.set1 (.slice A5 (zk + 1) c5)).s2⟩
      clear HW5 H1 b0 b5 t5
      go_roundw
      case rel => exact ⟨k + 1, by go_num, by omega, H6⟩
      case measure => simp [intOf]; omega
    · obtain rfl : k = n := by omega
      have hkk : ¬ (k : Int) < (k : Int) := by omega
      go_wp2
      exact ⟨rfl, .tuple #[], by first | rfl | (unfold results; rw [show Tryz.f45.results = #[] by kernel_rfl]; simp), rfl, HS.out⟩
set_option maxHeartbeats 4000000 in
set_option maxRecDepth 100000 in
theorem groups_long (E : Env) (q : HP) (d bD : Nat) (A : Dk) (name : ByteArray) (w : World) (hn : name.size + 2 ≤ maxLen) (hw : Sat E w (HP.disk d A * (HP.pt bD (.cells #[.pointer (some ⟨d, 0, none⟩)] 26) * q))) :
    Calls Tryz.prog 46 #[.string name, .pointer (some ⟨bD, 0, none⟩)] w fun e w' => e = .returned (.int .i64 (longN A name)) ∧ Sat E w' (HP.disk d A * (HP.pt bD (.cells #[.pointer (some ⟨d, 0, none⟩)] 26) * q)) := by
  have hn2 : name.size + 2 ≤ 9223372036854775807 := by unfold maxLen at hn; omega
  have hn3 : ¬ 9223372036854775807 < name.size + 2 := by omega
  have HX : Aside (∀ x : ByteArray, x.size = 2 → Calls Tryz.prog 35 #[.pointer (some ⟨d, 0, none⟩), .string (name ++ x)] w.drew fun e w' => e = .returned (.int .i64 ((A.at (name ++ x)).length : Int)) ∧ w' = w.drew) := ⟨fun x hx => disk_extents E _ d A (name ++ x) _ (by rw [ByteArray.size_append, hx]; exact hn) hw.drew⟩
  have HX1 := Aside.mk (HX.out dotA rfl)
  have HX2 := Aside.mk (HX.out dotB rfl)
  have HF := hw.disk_fine
  have ha := at_small HF (name ++ dotA)
  have hb := at_small HF (name ++ dotB)
  have HL : Aside (longN A name = max 1 (max (A.at (name ++ dotA)).length (A.at (name ++ dotB)).length)) := ⟨rfl⟩
  obtain ⟨x, hx⟩ : ∃ x, x = (A.at (name ++ dotA)).length := ⟨_, rfl⟩
  obtain ⟨y, hy⟩ : ∃ y, y = (A.at (name ++ dotB)).length := ⟨_, rfl⟩
  rw [← hx] at HX1 HL ha
  rw [← hy] at HX2 HL hb
  have b0 := hw.drew.s2.cell1
  have H0 := Aside.mk hw.drew
  obtain ⟨r, hr⟩ : ∃ r, r = longN A name := ⟨_, rfl⟩
  rw [← hr] at HL ⊢
  clear HX HF hw hx hy hr hn
  unfold dotA at HX1
  unfold dotB at HX2
  go_enter Tryz.func46, Tryz.ntmps46
  go_wp2
  refine region_R [3, 7] [3] (fun W => W = w.drew) #[false, false, false, false, false, false, false, false, false, false] (by kernel_rfl) rfl rfl ?_
  refine wpR_rd 0 #[true, false, false, false, false, false, false, false, false, false] rfl onlyN_noPanic (by kernel_rfl) (fun K hK => ?_); (go_simp; try go_bits); refine hK _ ?_; clear hK K
  refine wpR_rd 1 #[true, true, false, false, false, false, false, false, false, false] rfl onlyN_noPanic (by kernel_rfl) (fun K hK => ?_); (go_simp; try go_bits); refine hK _ ?_; clear hK K
  refine wpR_rd 2 #[true, true, true, false, false, false, false, false, false, false] rfl onlyN_noPanic (by kernel_rfl) (fun K hK => ?_); (go_simp; try go_bits); refine hK _ ?_; clear hK K
  refine wpR_held (i := 4) (v := .pointer (some ⟨d, 0, none⟩)) #[true, true, true, false, true, false, false, false, false, false] rfl onlyN_noPanic (by kernel_rfl) (by go_simp) (.inl ⟨rfl, fun w' hT => ?_⟩) ?_
  · subst hT; go_simp
  simp only [Act.put, List.setIfInBounds_toArray, List.set_cons_zero, List.set_cons_succ]
  refine wpR_pu 5 #[true, true, true, false, true, true, false, false, false, false] rfl onlyN_noPanic (by kernel_rfl) (fun K hK => ?_); (go_simp; try go_bits); refine hK _ ?_; clear hK K
  refine wpR_pu 6 #[true, true, true, false, true, true, true, false, false, false] rfl onlyN_noPanic (by kernel_rfl) (fun K hK => ?_); (go_simp; try go_bits); refine hK _ ?_; clear hK K
  refine wpR_keep #[true, true, true, true, true, true, true, false, false, false] (i := 3) rfl (by kernel_rfl) (fun K hK => ?_)
  go_simp; refine (HX1.out).mono ?_; rintro e w5 ⟨rfl, hw5⟩; subst w5; refine hK _ _ rfl ?_; clear hK K
  refine wpR_eff #[true, true, true, true, true, true, true, true, false, false] (i := 7) rfl (by kernel_rfl) (fun K hK => ?_)
  go_simp; refine (HX2.out).mono ?_; rintro e w5 ⟨rfl, hw5⟩; subst w5; refine hK _ _ ?_; clear hK K
  refine wpR_rd 8 #[true, true, true, true, true, true, true, true, true, false] rfl onlyN_noPanic (by kernel_rfl) (fun K hK => ?_); (go_simp; try go_bits); refine hK _ ?_; clear hK K
  refine wpR_rd 9 #[true, true, true, true, true, true, true, true, true, true] rfl onlyN_noPanic (by kernel_rfl) (fun K hK => ?_); (go_simp; try go_bits); refine hK _ ?_; clear hK K
  refine wpR_done (by kernel_rfl) ?_ _
  simp only [OnlyN]
  go_wp2
  all_goals
    go_ret
    refine ⟨?_, H0.out⟩
    refine congrArg (fun z : Int => Ending.returned (Value.int .i64 z)) ?_
    have hr : 1 ≤ r ∧ x ≤ r ∧ y ≤ r ∧ (r = 1 ∨ r = x ∨ r = y) := by have := HL.out; omega
    clear HX1 HX2 b0 H0 HL hn2 hn3
    by_cases h1 : (1 : Int) < (x : Int)
    · have h2 : 2 ≤ x := by omega
      simp only [h1, if_true, if_false] at * <;> omega
    · have h2 : x ≤ 1 := by omega
      simp only [h1, if_true, if_false] at * <;> omega
set_option maxHeartbeats 2000000 in
set_option maxRecDepth 100000 in
theorem groups_wrong (E : Env) (q : HP) (f : Ftr) (w : World) (hw : Sat E w q) :
    Calls Tryz.prog 41 #[.agg #[.int .i64 f.number, .int .i64 f.gen, .int .i64 f.level, .int .i64 f.rank, .int .i64 f.mn, .int .i64 f.mx, .int .i64 f.bytes, .slice f.pA f.pn f.pc]] w fun e w' => e = .returned (.bool (!f.ok)) ∧ Sat E w' q := by
  have h1 := hw.alloc (.cells #[.int .i64 f.number, .int .i64 f.gen, .int .i64 f.level, .int .i64 f.rank, .int .i64 f.mn, .int .i64 f.mx, .int .i64 f.bytes, .slice f.pA f.pn f.pc] 33)
  have k0 := h1.cell 0
  have k6 := h1.cell 6
  simp only [List.getElem?_toArray, List.getElem?_cons_zero, List.getElem?_cons_succ] at k0 k6
  have H1 := Aside.mk h1.right
  have HO : Aside (f.ok = (decide (0 ≤ f.bytes) && decide (f.bytes ≤ 2147483647) && decide (1 ≤ f.number))) := ⟨rfl⟩
  clear hw h1
  by_cases h0 : f.bytes < 0
  · have HR : Aside (f.ok = false) := ⟨by rw [HO.out, decide_eq_false (by omega)]; rfl⟩
    clear HO
    rw [HR.out]
    go_enter Tryz.func41, Tryz.ntmps41
    go_wp2
    go_ret
    exact ⟨rfl, H1.out⟩
  · by_cases h2 : 2147483647 < f.bytes
    · have HR : Aside (f.ok = false) := ⟨by rw [HO.out, decide_eq_true (show 0 ≤ f.bytes by omega), decide_eq_false (show ¬ f.bytes ≤ 2147483647 by omega)]; rfl⟩
      clear HO
      rw [HR.out]
      go_enter Tryz.func41, Tryz.ntmps41
      go_wp2
      go_ret
      exact ⟨rfl, H1.out⟩
    · by_cases h3 : f.number < 1
      · have HR : Aside (f.ok = false) := ⟨by rw [HO.out, decide_eq_true (show 0 ≤ f.bytes by omega), decide_eq_true (show f.bytes ≤ 2147483647 by omega), decide_eq_false (show ¬ 1 ≤ f.number by omega)]; rfl⟩
        clear HO
        rw [HR.out]
        go_enter Tryz.func41, Tryz.ntmps41
        go_wp2
        go_ret
        exact ⟨rfl, H1.out⟩
      · have HR : Aside (f.ok = true) := ⟨by rw [HO.out, decide_eq_true (show 0 ≤ f.bytes by omega), decide_eq_true (show f.bytes ≤ 2147483647 by omega), decide_eq_true (show 1 ≤ f.number by omega)]; rfl⟩
        clear HO
        rw [HR.out]
        go_enter Tryz.func41, Tryz.ntmps41
        go_wp2
        go_ret
        exact ⟨rfl, H1.out⟩
theorem ftr_at {w : World} {A : Option Addr} {l : List Ftr} (h : Cells w A (l.flatMap Ftr.vals)) {k : Nat} {x : Ftr} (hk : l[k]? = some x) : ∃ g o, A = some ⟨g, o, none⟩ ∧ ∀ j v, x.vals[j]? = some v → w.cell? ⟨g, o + k * 8 + j, none⟩ = some v := by
  have g0 := flat_get Ftr.vals 8 l (fun _ => rfl) k 0 x hk (by omega)
  obtain ⟨a, ha, -⟩ := h _ _ g0
  obtain ⟨g, o, rfl⟩ : ∃ g o, a = ⟨g, o, none⟩ := slice_addr h ha (List.getElem?_eq_some_iff.1 g0).1
  subst ha
  refine ⟨g, o, rfl, fun j u hj => ?_⟩
  have hj2 : j < 8 := (List.getElem?_eq_some_iff.1 hj).1
  have := h.some_ (k * 8 + j) u (by rw [flat_get Ftr.vals 8 l (fun _ => rfl) k j x hk hj2]; exact hj)
  rw [addr_add] at this
  rw [show o + k * 8 + j = o + (k * 8 + j) by omega]
  exact this
theorem okAll_take {l : List Ftr} {k : Nat} {x : Ftr} (hx : l[k]? = some x) : (l.take (k + 1)).all Ftr.ok = ((l.take k).all Ftr.ok && x.ok) := by
  rw [List.take_add_one, hx, List.all_append]
  simp
set_option maxHeartbeats 2000000 in
set_option maxRecDepth 100000 in
theorem ftr_index (E : Env) (q : HP) (A : Option Addr) (l : List Ftr) (n c : Nat) (w : World) (hln : l.length = n) (hm : n ≤ 4611686018427387904) (hq : ∀ w, Sat E w q → Cells w A (l.flatMap Ftr.vals)) (hw : Sat E w q) :
    Calls Tryz.prog 106 #[.slice A n c, .func (.func 41) #[] #[]] w fun e w' => (∃ i : Int, e = .returned (.int .i64 i) ∧ (if 0 ≤ i then l.all Ftr.ok = false else l.all Ftr.ok = true)) ∧ Sat E w' q := by
  have HL := Aside.mk (And.intro hln hq)
  have H0 := Aside.mk hw
  clear hln hq hw
  go_enter Tryz.func106, Tryz.ntmps106
  go_wp2
  go_loopw [8] (fun v8 wr => ∃ k : Nat, k ≤ n ∧ v8 = .int .i64 k ∧ Aside ((l.take k).all Ftr.ok = true) ∧ Aside (Sat E wr q)) (fun i _ => n - (intOf i).toNat)
  case atStart => exact ⟨0, by omega, rfl, ⟨rfl⟩, H0⟩
  case round =>
    clear H0
    obtain ⟨k, hk, rfl, HB, HS⟩ := hrel
    by_cases hlt : k < n
    · have hlt2 : (k : Int) < n := by omega
      have hlt0 : (0 : Int) ≤ (k : Int) := by omega
      have hkl : k < l.length := by rw [HL.out.1]; exact hlt
      obtain ⟨x, hx⟩ : ∃ x, l[k]? = some x := ⟨_, List.getElem?_eq_getElem hkl⟩
      obtain ⟨g, o, rfl, gx⟩ := ftr_at (HL.out.2 _ HS.out) hx
      have c0 : wr.cell? ⟨g, o + k * 8, none⟩ = some (.int .i64 x.number) := gx 0 _ rfl
      have c1 : wr.cell? ⟨g, o + k * 8 + 1, none⟩ = some (.int .i64 x.gen) := gx 1 _ rfl
      have c2 : wr.cell? ⟨g, o + k * 8 + 2, none⟩ = some (.int .i64 x.level) := gx 2 _ rfl
      have c3 : wr.cell? ⟨g, o + k * 8 + 3, none⟩ = some (.int .i64 x.rank) := gx 3 _ rfl
      have c4 : wr.cell? ⟨g, o + k * 8 + 4, none⟩ = some (.int .i64 x.mn) := gx 4 _ rfl
      have c5 : wr.cell? ⟨g, o + k * 8 + 5, none⟩ = some (.int .i64 x.mx) := gx 5 _ rfl
      have c6 : wr.cell? ⟨g, o + k * 8 + 6, none⟩ = some (.int .i64 x.bytes) := gx 6 _ rfl
      have c7 : wr.cell? ⟨g, o + k * 8 + 7, none⟩ = some (.slice x.pA x.pn x.pc) := gx 7 _ rfl
      have HX := Aside.mk hx
      clear hx hkl
      cases hq : x.ok with
      | false =>
        have HQ : Aside (l.all Ftr.ok = false) := ⟨by
          rw [Bool.eq_false_iff]
          intro hn
          rw [List.all_eq_true] at hn
          have := hn x (List.mem_of_getElem? HX.out)
          rw [hq] at this
          cases this⟩
        go_wp2_with fail
        refine (groups_wrong E q x _ HS.out).mono ?_
        rintro e w1 ⟨rfl, hw1⟩
        rw [hq]
        have H1 := Aside.mk hw1
        clear hw1 HS gx c0 c1 c2 c3 c4 c5 c6 c7
        go_wp2
        go_ret
        exact ⟨⟨_, rfl, by rw [if_pos (by omega)]; exact HQ.out⟩, H1.out⟩
      | true =>
        have HQ : Aside ((l.take (k + 1)).all Ftr.ok = true) := ⟨by rw [okAll_take HX.out, HB.out, hq]; rfl⟩
        go_wp2_with fail
        refine (groups_wrong E q x _ HS.out).mono ?_
        rintro e w1 ⟨rfl, hw1⟩
        rw [hq]
        have H1 := Aside.mk hw1
        clear hw1 HS gx c0 c1 c2 c3 c4 c5 c6 c7
        go_wp2
        go_roundw
        case rel => exact ⟨k + 1, by omega, by push_cast; rfl, HQ, H1⟩
        case measure => simp [intOf]; omega
    · obtain rfl : k = n := by omega
      have HQ : Aside (l.all Ftr.ok = true) := ⟨by have := HB.out; rwa [List.take_of_length_le (by rw [HL.out.1]; exact Nat.le_refl _)] at this⟩
      go_wp2
      go_ret
      exact ⟨⟨_, rfl, by rw [if_neg (by omega)]; exact HQ.out⟩, HS.out⟩
set_option maxHeartbeats 4000000 in
set_option maxRecDepth 100000 in
theorem ftr_contains (E : Env) (q : HP) (A : Option Addr) (l : List Ftr) (n c : Nat) (w : World) (hln : l.length = n) (hm : n ≤ 4611686018427387904) (hq : ∀ w, Sat E w q → Cells w A (l.flatMap Ftr.vals)) (hw : Sat E w q) :
    Calls Tryz.prog 44 #[.slice A n c, .func (.func 41) #[] #[]] w fun e w' => e = .returned (.bool (!l.all Ftr.ok)) ∧ Sat E w' q := by
  have HI := Aside.mk (ftr_index E q A l n c w hln hm hq hw)
  clear hln hq hw
  go_enter Tryz.func44, Tryz.ntmps44
  go_wp2_with fail
  refine HI.out.mono ?_
  rintro e w1 ⟨⟨i, rfl, hi⟩, hw1⟩
  have H1 := Aside.mk hw1
  clear hw1 HI
  by_cases h0 : 0 ≤ i
  · rw [if_pos h0] at hi
    have HV := Aside.mk hi
    clear hi
    go_wp2
    go_ret
    rw [HV.out]
    exact ⟨rfl, H1.out⟩
  · rw [if_neg h0] at hi
    have HV := Aside.mk hi
    clear hi
    go_wp2
    go_ret
    rw [HV.out]
    exact ⟨by show Ending.returned (Value.bool (decide (0 ≤ i))) = _; rw [decide_eq_false (by omega)]; rfl, H1.out⟩
end Go.Proofs.YtnpinegpajbkeaaGreatDoor
