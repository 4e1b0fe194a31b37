/- Texts of one claim, one behind the other: CmpA, DamC, DamS, SortS, LaySp, Dam, SpSt, SpEq, SpCo, SpCl, SpGr, NoteP, ScrP, ScrA, ScrS, ScrB, SpIx, SpDf, SpCm. -/
import Derived.Test.YtnpinegpajbkeaaDoorLe2
import Derived.Laws.Cover1
import Derived.Sort.Grow
import Derived.Sort.Statements
import Derived.Shelf.SlSortCmp.NoneTotal
import Derived.Test.YtnpinegpajbkeaaDoorProg
import Derived.Lib.SliceRun
import Derived.Shelf.Spec.SlicesGrow
set_option linter.unusedSimpArgs false
set_option linter.unusedVariables false
namespace Go.Proofs.YtnpinegpajbkeaaDoor
open Go.RowKit HP
def cmpS (a b : ByteArray) : Int := if ltN a b = true then -1 else if ltN b a = true then 1 else 0
def cmpI (a b : Int) : Int := if a < b then -1 else if b < a then 1 else 0
def orL (l : List Int) : Int := (l.find? (fun x => decide (x ≠ 0))).getD 0
set_option maxHeartbeats 1000000 in
theorem isNaN_str (a : ByteArray) (w : World) : Calls Tryd.prog 71 #[.string a] w fun e w' => e = .returned (.bool false) ∧ w' = w := by
  go_enter Tryd.func71, Tryd.ntmps71
  go_wp2
  go_ret
  exact ⟨rfl, rfl⟩
set_option maxHeartbeats 1000000 in
theorem isNaN_int (a : Int) (w : World) : Calls Tryd.prog 72 #[.int .i64 a] w fun e w' => e = .returned (.bool false) ∧ w' = w := by
  go_enter Tryd.func72, Tryd.ntmps72
  go_wp2
  go_ret
  exact ⟨rfl, rfl⟩
theorem gtr_less (a b : ByteArray) : (!(Op.bytesLess a.toList b.toList || a.toList == b.toList)) = Op.bytesLess b.toList a.toList := by
  by_cases h : a.toList = b.toList
  · rw [h, bytesLess_irrefl]; simp
  · cases h1 : Op.bytesLess a.toList b.toList with
    | true =>
      cases h2 : Op.bytesLess b.toList a.toList with
      | false => rfl
      | true =>
        have := bytesLess_trans h1 h2
        rw [bytesLess_irrefl] at this
        cases this
    | false => rw [bytesLess_total h1 h]; simp [h]
set_option maxHeartbeats 1000000 in
theorem compare_str (a b : ByteArray) (w : World) : Calls Tryd.prog 32 #[.string a, .string b] w fun e w' => e = .returned (.int .i64 (cmpS a b)) ∧ w' = w := by
  have hg := gtr_less a b
  go_enter Tryd.func32, Tryd.ntmps32
  go_wp2_with fail
  refine (isNaN_str a _).mono ?_
  rintro e w1 ⟨rfl, rfl⟩
  go_wp2_with fail
  refine (isNaN_str b _).mono ?_
  rintro e w1 ⟨rfl, rfl⟩
  go_wp2
  all_goals (go_ret; refine ⟨?_, rfl⟩; unfold cmpS ltN; rw [← hg]; simp_all)
set_option maxHeartbeats 1000000 in
theorem compare_int (a b : Int) (w : World) : Calls Tryd.prog 33 #[.int .i64 a, .int .i64 b] w fun e w' => e = .returned (.int .i64 (cmpI a b)) ∧ w' = w := by
  go_enter Tryd.func33, Tryd.ntmps33
  go_wp2_with fail
  refine (isNaN_int a _).mono ?_
  rintro e w1 ⟨rfl, rfl⟩
  go_wp2_with fail
  refine (isNaN_int b _).mono ?_
  rintro e w1 ⟨rfl, rfl⟩
  go_wp2
  all_goals (go_ret; refine ⟨?_, rfl⟩; unfold cmpI; first | (rw [if_pos (by omega)]; rfl) | (rw [if_neg (by omega), if_pos (by omega)]; rfl) | (rw [if_neg (by omega), if_neg (by omega)]; rfl))
set_option maxHeartbeats 1000000 in
theorem cmp_or2 (x y : Int) (A : Addr) (c : Nat) (w : World) (h : Cells w (some A) [.int .i64 x, .int .i64 y]) : Calls Tryd.prog 31 #[.slice (some A) 2 c] w fun e w' => e = .returned (.int .i64 (if x = 0 then y else x)) ∧ w' = w := by
  obtain ⟨g, o, rfl⟩ := slice_addr h rfl (k := 0) (by simp)
  have g0 : w.cell? ⟨g, o, none⟩ = some (.int .i64 x) := by
    obtain ⟨a, ha, hc⟩ := h.at_ 0 (by simp)
    cases ha
    exact hc
  have g1 : w.cell? ⟨g, o + 1, none⟩ = some (.int .i64 y) := by
    obtain ⟨a, ha, hc⟩ := h.at_ 1 (by simp)
    cases ha
    exact hc
  clear h
  go_enter Tryd.func31, Tryd.ntmps31
  go_wp2
  go_loopw [8] (fun v8 wr => ∃ k : Nat, k ≤ 2 ∧ v8 = .int .i64 k ∧ wr = w ∧ (0 < k → x = 0) ∧ (1 < k → y = 0)) (fun i _ => 2 - (intOf i).toNat)
  case atStart => exact ⟨0, by omega, rfl, rfl, by omega, by omega⟩
  case round =>
    obtain ⟨k, hk, rfl, rfl, hkx, hky⟩ := hrel
    have hc : k = 0 ∨ k = 1 ∨ k = 2 := by omega
    rcases hc with h0 | h0 | h0 <;> subst h0
    · clear hkx hky
      by_cases hx : x = 0
      · subst hx
        go_wp2
        go_roundw
        case rel => exact ⟨1, by omega, by simp, by simp, by simp, by simp⟩
        case measure => simp [intOf]
      · have hxb : (x == 0) = false := by rw [beq_eq_false_iff_ne]; exact hx
        go_wp2
        all_goals (go_ret; exact ⟨rfl, rfl⟩)
    · have hx := hkx (by omega)
      subst hx
      clear hkx hky
      by_cases hy : y = 0
      · subst hy
        go_wp2
        go_roundw
        case rel => exact ⟨2, by omega, by simp, by simp, by simp, by simp⟩
        case measure => simp [intOf]
      · have hyb : (y == 0) = false := by rw [beq_eq_false_iff_ne]; exact hy
        go_wp2
        all_goals (go_ret; exact ⟨rfl, rfl⟩)
    · have hx := hkx (by omega)
      have hy := hky (by omega)
      subst hx
      subst hy
      go_wp2
      go_ret
      exact ⟨rfl, rfl⟩
end Go.Proofs.YtnpinegpajbkeaaDoor
namespace Go.Proofs.YtnpinegpajbkeaaDoor
open Go.RowKit Go.Sort HP
def encSpot (x : ByteArray × Int) : List Value := [.string x.1, .int .i64 x.2]
def cmpSpot (x y : ByteArray × Int) : Int := if cmpS x.1 y.1 = 0 then cmpI x.2 y.2 else cmpS x.1 y.1
def ltC {α : Type} (cf : α → α → Int) (x y : α) : Bool := decide (cf x y < 0)
theorem cmpS_zero {a b : ByteArray} : cmpS a b = 0 ↔ a = b := by
  unfold cmpS
  constructor
  · intro h
    split at h
    · omega
    · rename_i h1
      split at h
      · omega
      · rename_i h2
        by_cases e : a = b
        · exact e
        · exact absurd (ltN_total (by simpa using h1) e) h2
  · rintro rfl
    rw [ltN_irrefl]
    rfl
theorem ltSpot_iff (x y : ByteArray × Int) : ltC cmpSpot x y = true ↔ ltN x.1 y.1 = true ∨ x.1 = y.1 ∧ x.2 < y.2 := by
  unfold ltC cmpSpot
  rw [decide_eq_true_eq]
  by_cases e : x.1 = y.1
  · rw [if_pos (cmpS_zero.2 e), e, ltN_irrefl]
    unfold cmpI
    constructor
    · intro h
      refine .inr ⟨rfl, ?_⟩
      split at h
      · assumption
      · split at h <;> omega
    · rintro (h | ⟨-, h⟩)
      · cases h
      · rw [if_pos h]; omega
  · rw [if_neg (fun h => e (cmpS_zero.1 h))]
    unfold cmpS
    constructor
    · intro h
      left
      split at h
      · assumption
      · split at h <;> omega
    · rintro (h | ⟨h, -⟩)
      · rw [if_pos h]; omega
      · exact absurd h e
theorem ltSpot_irrefl (x : ByteArray × Int) : ltC cmpSpot x x = false := by
  rw [Bool.eq_false_iff]
  intro h
  rcases (ltSpot_iff x x).1 h with h | h
  · rw [ltN_irrefl] at h; cases h
  · omega
theorem ltSpot_trans {x y z : ByteArray × Int} (h1 : ltC cmpSpot x y = true) (h2 : ltC cmpSpot y z = true) : ltC cmpSpot x z = true := by
  rw [ltSpot_iff] at *
  rcases h1 with h1 | ⟨e1, h1⟩ <;> rcases h2 with h2 | ⟨e2, h2⟩
  · exact .inl (ltN_trans h1 h2)
  · exact .inl (by rw [← e2]; exact h1)
  · exact .inl (by rw [e1]; exact h2)
  · exact .inr ⟨e1.trans e2, by omega⟩
theorem ltSpot_total {x y : ByteArray × Int} (h1 : ltC cmpSpot x y = false) (h2 : ltC cmpSpot y x = false) : x = y := by
  have n1 : ¬ (ltN x.1 y.1 = true ∨ x.1 = y.1 ∧ x.2 < y.2) := fun h => by have := (ltSpot_iff x y).2 h; rw [h1] at this; cases this
  have n2 : ¬ (ltN y.1 x.1 = true ∨ y.1 = x.1 ∧ y.2 < x.2) := fun h => by have := (ltSpot_iff y x).2 h; rw [h2] at this; cases this
  have e : x.1 = y.1 := by
    by_cases e : x.1 = y.1
    · exact e
    · cases h : ltN x.1 y.1 with
      | true => exact (n1 (.inl h)).elim
      | false => exact (n2 (.inl (ltN_total h e))).elim
  have e2 : x.2 = y.2 := by
    rcases Int.lt_trichotomy x.2 y.2 with h | h | h
    · exact (n1 (.inr ⟨e, h⟩)).elim
    · exact h
    · exact (n2 (.inr ⟨e.symm, h⟩)).elim
  exact Prod.ext e e2
theorem ltSpot_ntrans {x y z : ByteArray × Int} (h1 : ltC cmpSpot x y = false) (h2 : ltC cmpSpot y z = false) : ltC cmpSpot x z = false := by
  cases h : ltC cmpSpot x z with
  | false => rfl
  | true =>
    cases h3 : ltC cmpSpot y x with
    | true =>
      have := ltSpot_trans h3 h
      rw [h2] at this; cases this
    | false =>
      obtain rfl := ltSpot_total h1 h3
      rw [h2] at h; cases h
theorem swo_spot : SWO (ltC cmpSpot) := ⟨ltSpot_irrefl, fun _ _ _ h1 h2 => ltSpot_trans h1 h2, fun _ _ _ h1 h2 => ltSpot_ntrans h1 h2⟩
def Cel.bad (c : Cel) : Bool := decide (c.durable ≠ c.synced) && decide (c.durable ≠ c.written)
def spotsN (s : ByteArray) (l : List Cel) : Nat → List (ByteArray × Int)
  | 0 => []
  | k + 1 => spotsN s l k ++ if (l[k]?).any Cel.bad = true then [(s, (k : Int))] else []
def spotsF (x : ByteArray × List Cel) : List (ByteArray × Int) := spotsN x.1 x.2 x.2.length
def Dk.damaged (A : Dk) : List (ByteArray × Int) := A.files.flatMap spotsF
end Go.Proofs.YtnpinegpajbkeaaDoor
namespace Go.Proofs.YtnpinegpajbkeaaDoor
open Go.RowKit Go.Sort Go.Shelf HP
theorem Sat.grownS {E : Env} {q : HP} : ∀ (l : List Obj) {w : World}, Sat E w q → Sat E (Go.Sort.grow w l.toArray) q
  | [], w, h => by
    have : Go.Sort.grow w ([] : List Obj).toArray = w := by simp [Go.Sort.grow]
    rw [this]; exact h
  | o :: l, w, h => by
    have h1 : Sat E (w.alloc o) q := (h.alloc o).right
    have h2 := Sat.grownS l h1
    rw [Go.Sort.alloc_eq_grow, Go.Sort.grow_grow] at h2
    have e : #[o] ++ l.toArray = (o :: l).toArray := by simp
    rw [e] at h2; exact h2
section
variable {α : Type} [Inhabited α]
theorem flatK_list (enc : α → List Value) (k : Nat) (hk : ∀ x, (enc x).length = k) (l : List α) : (flatK enc k l.toArray).toList = l.flatMap enc := by
  have hl : (l.flatMap enc).length = l.length * k := by
    induction l with
    | nil => simp
    | cons x l ih => rw [List.flatMap_cons, List.length_append, ih, hk, List.length_cons, Nat.add_mul, Nat.one_mul, Nat.add_comm]
  apply List.ext_getElem?
  intro t
  by_cases ht : t < l.length * k
  · have k0 : 0 < k := by
      rcases Nat.eq_zero_or_pos k with h | h
      · subst h; simp at ht
      · exact h
    have hd : t / k < l.length := Nat.div_lt_of_lt_mul (by rw [Nat.mul_comm]; exact ht)
    have hm : t % k < k := Nat.mod_lt _ k0
    have e1 : (flatK enc k l.toArray).toList[t]? = some ((enc (l[t / k]))[t % k]'(by rw [hk]; exact hm)) := by
      rw [Array.getElem?_toList, Array.getElem?_eq_getElem (by simpa using ht)]
      have := get_flatK enc k l.toArray t (by simpa using ht)
      rw [getElem!_pos _ t (by simpa using ht)] at this
      rw [this]
      congr 1
      rw [getElem!_pos l.toArray (t / k) (by simpa using hd)]
      rw [getElem!_pos _ (t % k) (by rw [hk]; exact hm)]
      simp
    have e2 : (l.flatMap enc)[t]? = (enc (l[t / k]))[t % k]? := by
      have ht' : t = t / k * k + t % k := by rw [Nat.mul_comm]; exact (Nat.div_add_mod t k).symm
      have key : ∀ (l : List α) (i r : Nat) (x : α), l[i]? = some x → r < k → (l.flatMap enc)[i * k + r]? = (enc x)[r]? := by
        intro l
        induction l with
        | nil => intro i r x h; simp at h
        | cons y l ih =>
          intro i r x h hr
          rw [List.flatMap_cons]
          cases i with
          | zero =>
            simp only [List.getElem?_cons_zero, Option.some.injEq] at h
            subst h
            rw [Nat.zero_mul, Nat.zero_add, List.getElem?_append_left (by rw [hk]; exact hr)]
          | succ i =>
            simp only [List.getElem?_cons_succ] at h
            rw [List.getElem?_append_right (by rw [hk, Nat.add_mul]; omega), hk, ← ih i r x h hr]
            congr 1
            rw [Nat.add_mul, Nat.one_mul]
            omega
      have := key l (t / k) (t % k) (l[t / k]) (List.getElem?_eq_getElem hd) hm
      rwa [← ht'] at this
    rw [e1, e2, List.getElem?_eq_getElem]
  · rw [List.getElem?_eq_none (l := (flatK enc k l.toArray).toList) (by simp; omega), List.getElem?_eq_none (by rw [hl]; omega)]
theorem put_take (F : Array Value) (o : Nat) (c : Array Value) (h : o + F.size ≤ c.size) : ((putCells id o F c).toList.drop o).take F.size = F.toList := by
  apply List.ext_getElem?
  intro j
  rw [List.getElem?_take]
  split
  · rename_i hj
    rw [List.getElem?_drop, Array.getElem?_toList]
    unfold putCells
    rw [Array.getElem?_mapIdx, Array.getElem?_eq_getElem (by omega), Array.getElem?_toList, Array.getElem?_eq_getElem hj]
    simp only [Option.map_some]
    rw [if_pos (by omega), Nat.add_sub_cancel_left]
    simp [hj]
  · rw [List.getElem?_eq_none (by simp; omega)]
theorem put_size (F : Array Value) (o : Nat) (c : Array Value) : (putCells id o F c).size = c.size := by simp [putCells]
variable {E : Env} {q : HP} {w : World} {e : TypeId} {k n cap g o : Nat}
theorem sat_sorted {enc : α → List Value} (hk : ∀ x, (enc x).length = k) {cur : Array Value} {l' : List α} (hw : Sat E w (HP.pt g (.cells cur e) * q)) (hl : l'.length = n) (hs : o + n * k ≤ cur.size) (m : Nat) (os : Array Obj) :
    Sat E (sortWorldK enc k w g o m l'.toArray os) (HP.pt g (.cells (putCells id o (flatK enc k l'.toArray) cur) e) * q) := by
  have h1 : Sat E (Go.Sort.ahead w m) (HP.pt g (.cells cur e) * q) := hw.drewN (n := m)
  have hg := h1.get
  have h2 : Sat E (putRowK enc k (Go.Sort.ahead w m) g o l'.toArray) (HP.pt g (.cells (putCells id o (flatK enc k l'.toArray) cur) e) * q) := by
    refine h1.turn (w' := putRowK enc k (Go.Sort.ahead w m) g o l'.toArray) ⟨rfl, rfl, rfl, ?_⟩ ?_ fun b hb _ => ?_
    · unfold putRowK
      rw [size_putRow]
      exact Nat.le_refl _
    · unfold putRowK putRow mapBlock
      simp only [Array.getElem?_modify, if_true, hg, Option.map_some, onCells]
    · unfold putRowK putRow mapBlock
      simp only [Array.getElem?_modify]
      rw [if_neg (Ne.symm hb)]
  have := Sat.grownS os.toList h2
  simpa [sortWorldK] using this
variable {P : Program} {ρ : Ren}
theorem sort_row (L : SlLaysF0.n6 P ρ) (aE : ∀ w, (isAgg (ρ.t 24)).run P w = .ok true w) (zE : ∀ w, (Go.sizeOf (ρ.t 24)).run P w = .ok k w) (enc : α → List Value) (hk : ∀ x, (enc x).length = k) (h1 : ∀ x, ∀ v ∈ enc x, v.oneCell' = true) (cf : α → α → Int) (hO : SWO (ltOf cf)) (hT : ∀ x y, (ltOf cf) x y = false → (ltOf cf) y x = false → x = y) (f : Nat) (cb : Array Value)
    (eg : ∀ args w, (callFunc f args).run P w = .ok (.enter f args) w) (hcmp : ∀ x y W, Calls P f (#[.agg (enc x).toArray, .agg (enc y).toArray] ++ cb) W fun e w' => e = .returned (.int .i64 (cf x y)) ∧ ∃ q os', w' = grow (W.drewN q) os')
    {v : Value} {l : List α} (hl : l.length = n) (hn : n ≤ maxLen / 4) (hw : Sat E w (HP.row e k v n (l.flatMap enc) * q)) :
    Calls P (ρ.f 6) #[v, .func (.func f) #[] cb] w fun r w' => r = .returned (.tuple #[]) ∧ Sat E w' (HP.row e k v n ((l.mergeSort fun x y => !(ltOf cf) y x).flatMap enc) * q) := by
  have hln : (l.mergeSort fun x y => !(ltOf cf) y x).length = n := by rw [List.length_mergeSort, hl]
  by_cases h0 : n = 0
  · have hnil : l = [] := List.eq_nil_of_length_eq_zero (by omega)
    subst hnil
    subst h0
    obtain ⟨A, c, rfl, -, -⟩ := hw.row_slice
    refine (AnyF.slices_SortFunc_none L A c _ w).mono ?_
    rintro r w' ⟨rfl, rfl⟩
    exact ⟨rfl, by simpa using hw⟩
  · rcases hw.row_cases.2 with ⟨A, -, hz, -⟩ | ⟨g, off, cap, cur, rfl, hnc, hcm, hsz, htk, hp⟩
    · exact absurd hz h0
    · have hfl := flatK_list enc k hk l
      have hsz1 : (flatK enc k l.toArray).size = n * k := by simp [hl]
      have hH : HoldsK enc k w g (off * k) l.toArray := by
        intro j hj
        rw [hsz1] at hj
        have hjc : off * k + j < cur.size := by
          have : (off + cap) * k = off * k + cap * k := Nat.add_mul _ _ _
          have := Nat.mul_le_mul_right k hnc
          omega
        refine ⟨?_, hp.thaw _⟩
        rw [hp.cell, Array.getElem?_eq_getElem hjc]
        have e1 := congrArg (fun l => l[j]?) (htk.trans hfl.symm)
        simp only [List.getElem?_take, if_pos hj, List.getElem?_drop, Array.getElem?_toList] at e1
        rw [Array.getElem?_eq_getElem hjc, Array.getElem?_eq_getElem (by rw [hsz1]; exact hj)] at e1
        rw [e1]
        simp [hj, hl]
      have hsl : l.toArray.size = n := by simpa using hl
      have hc := AnyQ.slices_SortFunc_total L k aE zE enc hk h1 cf hO f cb g (off * k) cap l.toArray w eg (fun m os dk hs x y => hcmp x y _) hH hp.lt (by rw [hsl]; unfold maxLen at hn; omega) hT
      rw [hsl] at hc
      refine hc.mono ?_
      rintro r w' ⟨rfl, m, os, rfl⟩
      refine ⟨rfl, ?_⟩
      simp only at hln ⊢
      have hsk : off * k + n * k ≤ cur.size := by
        have : (off + cap) * k = off * k + cap * k := Nat.add_mul _ _ _
        have := Nat.mul_le_mul_right k hnc
        omega
      have h3 := sat_sorted hk (l' := l.mergeSort fun x y => !(ltOf cf) y x) hp hln hsk m os
      refine h3.row_mk (n := n) (cap := cap) (off := off) (size := k) hnc hcm (by rw [put_size]; exact hsz) ?_
      have hs2 : (flatK enc k (l.mergeSort fun x y => !(ltOf cf) y x).toArray).size = n * k := by rw [size_flatK]; simp [hl]
      have := put_take (flatK enc k (l.mergeSort fun x y => !(ltOf cf) y x).toArray) (off * k) cur (by rw [hs2]; exact hsk)
      rw [hs2, flatK_list enc k hk] at this
      exact this
end
end Go.Proofs.YtnpinegpajbkeaaDoor
namespace Go.Proofs.YtnpinegpajbkeaaDoor
open Go.Shelf
def laysSpot_ren : Go.Shelf.Ren := ⟨fun | 6 => 29 | 15 => 70 | 14 => 69 | 28 => 94 | 29 => 95 | 20 => 86 | 21 => 87 | 22 => 88 | 23 => 89 | 24 => 90 | 25 => 91 | 26 => 92 | 27 => 93 | 46 => 111 | 47 => 112 | 48 => 113 | 49 => 114 | 50 => 115 | 57 => 127 | n => n, fun | 22 => 22 | 24 => 25 | 25 => 71 | 3 => 3 | 39 => 56 | 0 => 0 | 53 => 155 | 55 => 133 | 4 => 4 | 46 => 148 | 45 => 147 | 50 => 152 | 5 => 5 | 9 => 9 | 66 => 171 | 70 => 175 | 76 => 188 | 77 => 189 | n => n, fun | n => n⟩
theorem laysSpot : Go.Proofs.SlLaysF0.n6 Tryd.prog laysSpot_ren := {
  mixed := by kernel_rfl
  f6 := ⟨Tryd.f29.name, by decide, Tryd.func29.trans (congrArg some (by kernel_rfl))⟩
  f14 := ⟨Tryd.f69.name, by decide, Tryd.func69.trans (congrArg some (by kernel_rfl))⟩
  f15 := Tryd.func70.trans (congrArg some (by kernel_rfl))
  f20 := ⟨Tryd.f86.name, by decide, Tryd.func86.trans (congrArg some (by kernel_rfl))⟩
  f21 := ⟨Tryd.f87.name, by decide, Tryd.func87.trans (congrArg some (by kernel_rfl))⟩
  f22 := ⟨Tryd.f88.name, by decide, Tryd.func88.trans (congrArg some (by kernel_rfl))⟩
  f23 := ⟨Tryd.f89.name, by decide, Tryd.func89.trans (congrArg some (by kernel_rfl))⟩
  f24 := ⟨Tryd.f90.name, by decide, Tryd.func90.trans (congrArg some (by kernel_rfl))⟩
  f25 := ⟨Tryd.f91.name, by decide, Tryd.func91.trans (congrArg some (by kernel_rfl))⟩
  f26 := ⟨Tryd.f92.name, by decide, Tryd.func92.trans (congrArg some (by kernel_rfl))⟩
  f27 := ⟨Tryd.f93.name, by decide, Tryd.func93.trans (congrArg some (by kernel_rfl))⟩
  f28 := Tryd.func94.trans (congrArg some (by kernel_rfl))
  f29 := Tryd.func95.trans (congrArg some (by kernel_rfl))
  f46 := ⟨Tryd.f111.name, by decide, Tryd.func111.trans (congrArg some (by kernel_rfl))⟩
  f47 := Tryd.func112.trans (congrArg some (by kernel_rfl))
  f48 := Tryd.func113.trans (congrArg some (by kernel_rfl))
  f49 := ⟨Tryd.f114.name, by decide, Tryd.func114.trans (congrArg some (by kernel_rfl))⟩
  f50 := ⟨Tryd.f115.name, by decide, Tryd.func115.trans (congrArg some (by kernel_rfl))⟩
  f57 := ⟨Tryd.f127.name, by decide, Tryd.func127.trans (congrArg some (by kernel_rfl))⟩
  t0 := Tryd.underlying0
  a0 := Tryd.isAgg0
  z0 := Tryd.sizeOf0
  v0 := Tryd.zeroValue0
  t3 := Tryd.underlying3
  a3 := Tryd.isAgg3
  z3 := Tryd.sizeOf3
  v3 := Tryd.zeroValue3
  t4 := Tryd.underlying4
  a4 := Tryd.isAgg4
  z4 := Tryd.sizeOf4
  v4 := Tryd.zeroValue4
  t5 := Tryd.underlying5
  a5 := Tryd.isAgg5
  z5 := Tryd.sizeOf5
  v5 := Tryd.zeroValue5
  t9 := Tryd.underlying9
  a9 := Tryd.isAgg9
  z9 := Tryd.sizeOf9
  v9 := Tryd.zeroValue9
  t22 := Tryd.underlying22
  a22 := Tryd.isAgg22
  z22 := Tryd.sizeOf22
  v22 := Tryd.zeroValue22
  t25 := Tryd.underlying71
  a25 := Tryd.isAgg71
  z25 := Tryd.sizeOf71
  v25 := Tryd.zeroValue71
  t39 := Tryd.underlying56
  a39 := Tryd.isAgg56
  z39 := Tryd.sizeOf56
  v39 := Tryd.zeroValue56
  t45 := Tryd.underlying147
  a45 := Tryd.isAgg147
  z45 := Tryd.sizeOf147
  v45 := Tryd.zeroValue147
  t46 := Tryd.underlying148
  a46 := Tryd.isAgg148
  z46 := Tryd.sizeOf148
  v46 := Tryd.zeroValue148
  t50 := Tryd.underlying152
  a50 := Tryd.isAgg152
  z50 := Tryd.sizeOf152
  v50 := Tryd.zeroValue152
  t53 := Tryd.underlying155
  a53 := Tryd.isAgg155
  z53 := Tryd.sizeOf155
  v53 := Tryd.zeroValue155
  t55 := Tryd.underlying133
  a55 := Tryd.isAgg133
  z55 := Tryd.sizeOf133
  v55 := Tryd.zeroValue133
  t66 := Tryd.underlying171
  a66 := Tryd.isAgg171
  z66 := Tryd.sizeOf171
  v66 := Tryd.zeroValue171
  t70 := Tryd.underlying175
  a70 := Tryd.isAgg175
  z70 := Tryd.sizeOf175
  v70 := Tryd.zeroValue175
  t76 := Tryd.underlying188
  a76 := Tryd.isAgg188
  z76 := Tryd.sizeOf188
  v76 := Tryd.zeroValue188
  t77 := Tryd.underlying189
  a77 := Tryd.isAgg189
  z77 := Tryd.sizeOf189
  v77 := Tryd.zeroValue189 }
end Go.Proofs.YtnpinegpajbkeaaDoor
namespace Go.Proofs.YtnpinegpajbkeaaDoor
open Go.RowKit HP
theorem encSpot_one (x : ByteArray × Int) : ∀ v ∈ encSpot x, v.oneCell' = true := by
  intro v hv
  simp [encSpot] at hv
  rcases hv with rfl | rfl <;> rfl
def leftS (es : Array MapEntry) (seen : Array Nat) (fs : List Fil) : List (ByteArray × Int) := (leftZ es seen fs).flatMap fun x => spotsF (x.2.name, x.2.cs)
end Go.Proofs.YtnpinegpajbkeaaDoor
namespace Go.Proofs.YtnpinegpajbkeaaDoor
open Go.RowKit Go.Sort HP
set_option maxHeartbeats 2000000 in
set_option maxRecDepth 100000 in
theorem note_cmp (s t : ByteArray) (i j : Int) (W : World) : Calls Tryd.prog 30 #[.agg #[.string s, .int .i64 i], .agg #[.string t, .int .i64 j]] W fun e w' => e = .returned (.int .i64 (if cmpS s t = 0 then cmpI i j else cmpS s t)) ∧ ∃ q os', w' = grow (W.drewN q) os' := by
  have a0 := fun k => Sat.cell (Sat.s2 ((((Sat.nothing (w := W)).alloc (.cells #[.string s, .int .i64 i] 25)).alloc (.cells #[.string t, .int .i64 j] 25)).drew)) k
  have a1 := fun k => Sat.cell ((((Sat.nothing (w := W)).alloc (.cells #[.string s, .int .i64 i] 25)).alloc (.cells #[.string t, .int .i64 j] 25)).drew) k
  rw [show (W.alloc (.cells #[.string s, .int .i64 i] 25)).heap.size = W.heap.size + 1 by simp] at a1
  have g0 := a0 0
  have g1 := a0 1
  have g2 := a1 0
  have g3 := a1 1
  simp only [List.getElem?_toArray, List.getElem?_cons_zero, List.getElem?_cons_succ] at g0 g1 g2 g3
  clear a0 a1
  have hcs := compare_str s t
  have hci := compare_int i j
  generalize cmpS s t = x at *
  generalize cmpI i j = y at *
  obtain ⟨z, hz⟩ : ∃ z, z = if x = 0 then y else x := ⟨_, rfl⟩
  rw [← hz]
  have HZ := Aside.mk hz
  clear hz
  go_enter Tryd.func30, Tryd.ntmps30
  go_wp2
  refine region_R [4, 9, 10, 11] [4, 9] (fun w => w = (((W.alloc (.cells #[.string s, .int .i64 i] 25)).alloc (.cells #[.string t, .int .i64 j] 25)).drew)) #[false, false, false, false, false, false, false, false, false, false, false, false, false] (by kernel_rfl) rfl rfl ?_
  refine wpR_rd 0 #[true, false, false, false, false, false, false, false, false, false, false, false, false] rfl onlyN_noPanic (by kernel_rfl) (fun K hK => ?_); (go_simp; try go_bits); refine hK _ ?_; clear hK K
  refine wpR_rd 1 #[true, true, false, false, false, false, false, false, false, false, false, false, false] rfl onlyN_noPanic (by kernel_rfl) (fun K hK => ?_); (go_simp; try go_bits); refine hK _ ?_; clear hK K
  refine wpR_rd 2 #[true, true, true, false, false, false, false, false, false, false, false, false, false] rfl onlyN_noPanic (by kernel_rfl) (fun K hK => ?_); (go_simp; try go_bits); refine hK _ ?_; clear hK K
  refine wpR_rd 3 #[true, true, true, true, false, false, false, false, false, false, false, false, false] rfl onlyN_noPanic (by kernel_rfl) (fun K hK => ?_); (go_simp; try go_bits); refine hK _ ?_; clear hK K
  refine wpR_pu 5 #[true, true, true, true, false, true, false, false, false, false, false, false, false] rfl onlyN_noPanic (by kernel_rfl) (fun K hK => ?_); (go_simp; try go_bits); refine hK _ ?_; clear hK K
  refine wpR_held (i := 6) (v := .int .i64 i) #[true, true, true, true, false, true, true, false, false, false, false, false, false] rfl onlyN_noPanic (by kernel_rfl) rfl (.inl ⟨rfl, fun w' hT => ?_⟩) ?_
  · subst hT; go_simp
  simp only [Act.put, List.setIfInBounds_toArray, List.set_cons_zero, List.set_cons_succ]
  refine wpR_pu 7 #[true, true, true, true, false, true, true, true, false, false, false, false, false] rfl onlyN_noPanic (by kernel_rfl) (fun K hK => ?_); (go_simp; try go_bits); refine hK _ ?_; clear hK K
  refine wpR_held (i := 8) (v := .int .i64 j) #[true, true, true, true, false, true, true, true, true, false, false, false, false] rfl onlyN_noPanic (by kernel_rfl) rfl (.inl ⟨rfl, fun w' hT => ?_⟩) ?_
  · subst hT; go_simp
  simp only [Act.put, List.setIfInBounds_toArray, List.set_cons_zero, List.set_cons_succ]
  refine wpR_keep #[true, true, true, true, true, true, true, true, true, false, false, false, false] (i := 4) rfl (by kernel_rfl) (fun K hK => ?_)
  go_simp; refine (hcs _).mono ?_; rintro e w5 ⟨rfl, hw5⟩; subst w5; refine hK _ _ rfl ?_; clear hK K
  refine wpR_keep #[true, true, true, true, true, true, true, true, true, true, false, false, false] (i := 9) rfl (by kernel_rfl) (fun K hK => ?_)
  go_simp; refine (hci _).mono ?_; rintro e w5 ⟨rfl, hw5⟩; subst w5; refine hK _ _ rfl ?_; clear hK K
  obtain ⟨W2, hW2⟩ : ∃ W2, W2 = (((W.alloc (.cells #[.string s, .int .i64 i] 25)).alloc (.cells #[.string t, .int .i64 j] 25)).drew) := ⟨_, rfl⟩
  rw [← hW2]
  have HW2 := Aside.mk hW2
  clear g0 g1 g2 g3 hW2
  refine wpR_eff #[true, true, true, true, true, true, true, true, true, true, true, false, false] (i := 10) rfl (by kernel_rfl) (fun K hK => ?_)
  go_simp; refine hK _ _ ?_; clear hK K
  have hc := Cells.fresh W2 [.int .i64 (x), .int .i64 (y)] 3 (0, 0)
  refine wpR_eff #[true, true, true, true, true, true, true, true, true, true, true, true, false] (i := 11) rfl (by kernel_rfl) (fun K hK => ?_)
  go_simp; refine (cmp_or2 (x) (y) _ _ _ hc).mono ?_; rintro e w5 ⟨rfl, hw5⟩; subst w5; rw [← HZ.out]; refine hK _ _ ?_; clear hK K
  refine wpR_rd 12 #[true, true, true, true, true, true, true, true, true, true, true, true, true] rfl onlyN_noPanic (by kernel_rfl) (fun K hK => ?_); (go_simp; try go_bits); refine hK _ ?_; clear hK K
  refine wpR_done (by kernel_rfl) ?_ _
  simp only [OnlyN]
  clear hc
  go_wp2
  go_ret
  refine ⟨rfl, 1, #[.cells #[.string s, .int .i64 i] 25, .cells #[.string t, .int .i64 j] 25, .cells #[.int .i64 x, .int .i64 y] 3], ?_⟩
  rw [HW2.out]
  simp only [alloc_eq_grow, drew_grow, grow_grow]
  rfl
theorem sort_note (E : Env) (q : HP) (v : Value) (l : List (ByteArray × Int)) (n : Nat) (w : World) (hl : l.length = n) (hn : n ≤ maxLen / 4) (hw : Sat E w (HP.row 25 2 v n (l.flatMap encSpot) * q)) :
    Calls Tryd.prog 29 #[v, .func (.func 30) #[] #[]] w fun r w' => r = .returned (.tuple #[]) ∧ Sat E w' (HP.row 25 2 v n ((l.mergeSort fun x y => !(ltC cmpSpot) y x).flatMap encSpot) * q) :=
  sort_row (k := 2) laysSpot (by intro w; kernel_rfl) (by intro w; kernel_rfl) encSpot (fun _ => rfl) encSpot_one cmpSpot swo_spot (fun _ _ h1 h2 => ltSpot_total h1 h2) 30 #[] (enters_of Tryd.func30 (by kernel_rfl) rfl)
    (fun x y W => note_cmp x.1 y.1 x.2 y.2 W) hl hn hw
end Go.Proofs.YtnpinegpajbkeaaDoor
namespace Go.Proofs.YtnpinegpajbkeaaDoor
open Go.RowKit HP
theorem agSpot : AgTy Tryd.prog 25 2 := ⟨⟨_, Tryd.underlying25, rfl⟩, by kernel_rfl⟩
theorem spot_cells {w : World} {g o : Nat} {l : List (ByteArray × Int)} (h : Cells w (some ⟨g, o, none⟩) (l.flatMap encSpot)) {k : Nat} {x : ByteArray × Int} (hk : l[k]? = some x) : (loadVar 25 ⟨g, o + k * 2, none⟩).run Tryd.prog w = .ok (.agg #[.string x.1, .int .i64 x.2]) w := by
  refine run_loadAgg (cs := encSpot x) agSpot rfl fun j u hj => ⟨_, rfl, ?_⟩
  have hj2 : j < 2 := (List.getElem?_eq_some_iff.1 hj).1
  have := h.some_ (k * 2 + j) u (by rw [flat_get encSpot 2 l (fun _ => rfl) k j x hk hj2]; exact hj)
  rw [addr_add] at this ⊢
  rw [show o + k * 2 + j = o + (k * 2 + j) by omega]
  exact this
theorem neq_spot (s t : ByteArray) (i j : Int) (w : World) : (binOp .neq 25 (.agg #[.string s, .int .i64 i]) (.agg #[.string t, .int .i64 j])).run Tryd.prog w = .ok (.bool (!(decide ((s, i) = (t, j))))) w := by
  by_cases hs : s = t
  · subst hs
    by_cases hi : i = j
    · subst hi; go_simp
    · go_simp
  · have h2 : ¬ s.toList = t.toList := fun h => hs (toList_inj h)
    go_simp
theorem eq_spot (s t : ByteArray) (i j : Int) (w : World) : (binOp .eql 25 (.agg #[.string s, .int .i64 i]) (.agg #[.string t, .int .i64 j])).run Tryd.prog w = .ok (.bool (decide ((s, i) = (t, j)))) w := by
  by_cases hs : s = t
  · subst hs
    by_cases hi : i = j
    · subst hi; go_simp
    · go_simp
  · have h2 : ¬ s.toList = t.toList := fun h => hs (toList_inj h)
    go_simp
theorem spot_box {E : Env} {w : World} {q : HP} {b : Nat} {s : ByteArray} {i : Int} (h : Sat E w (HP.pt b (.cells #[.string s, .int .i64 i] 25) * q)) : (loadVar 25 ⟨b, 0, none⟩).run Tryd.prog w = .ok (.agg #[.string s, .int .i64 i]) w := by
  refine run_loadAgg (cs := [.string s, .int .i64 i]) agSpot rfl fun j u hj => ⟨_, rfl, ?_⟩
  have hj2 : j < 2 := (List.getElem?_eq_some_iff.1 hj).1
  have := h.cell j
  rw [addr_add, show 0 + j = j by omega, this]
  simpa using hj
theorem notMem_take_step {l : List (ByteArray × Int)} {k : Nat} {x y : ByteArray × Int} (h : y ∉ l.take k) (hk : l[k]? = some x) (hne : ¬ y = x) : y ∉ l.take (k + 1) := by
  rw [List.take_add_one, hk]
  intro hm
  rcases List.mem_append.1 hm with hm | hm
  · exact h hm
  · exact hne (List.mem_singleton.1 hm)
set_option maxHeartbeats 1000000 in
set_option maxRecDepth 100000 in
theorem spots_index (E : Env) (q : HP) (A0 : Option Addr) (l0 : List (ByteArray × Int)) (n0 c0 : Nat) (s : ByteArray) (i : Int) (w : World) (e0 : l0.length = n0) (k0 : n0 ≤ 1000000000)
    (h : ∀ w, Sat E w q → Cells w A0 (l0.flatMap encSpot)) (hw : Sat E w q) :
    Calls Tryd.prog 35 #[.slice A0 n0 c0, .agg #[.string s, .int .i64 i]] w fun e w' => ∃ j : Int, e = .returned (.int .i64 j) ∧ ((j = -1 ∧ (s, i) ∉ l0) ∨ ∃ k : Nat, j = k ∧ k < n0 ∧ l0[k]? = some (s, i) ∧ (s, i) ∉ l0.take k) ∧ Sat E w' q := by
  have hB := hw.alloc (.cells #[.string s, .int .i64 i] 25)
  obtain ⟨BX, hBX⟩ : ∃ BX, BX = w.heap.size := ⟨_, rfl⟩
  rw [← hBX] at hB
  have HW := Aside.mk (And.intro h (And.intro hB e0))
  clear h hw e0 hB
  go_enter Tryd.func35, Tryd.ntmps35
  go_wp2
  rw [← hBX]
  clear hBX
  go_loopw [8] (fun v8 wr => ∃ k : Nat, v8 = .int .i64 k ∧ k ≤ n0 ∧ Aside ((s, i) ∉ l0.take k) ∧ Aside (Sat E wr (HP.pt BX (.cells #[.string s, .int .i64 i] 25) * q))) (fun x _ => n0 - (intOf x).toNat)
  case atStart => exact ⟨0, rfl, Nat.zero_le _, ⟨by simp⟩, ⟨HW.out.2.1⟩⟩
  case round =>
    obtain ⟨k, rfl, hk, HT, HS⟩ := hrel
    by_cases hlt : k < n0
    · have hlt2 : (k : Int) < (n0 : Int) := by omega
      have hk2 : (0 : Int) ≤ (k : Int) := by omega
      have hl0 : l0[k]? = some (l0[k]'(by rw [HW.out.2.2]; exact hlt)) := List.getElem?_eq_getElem _
      generalize l0[k]'(by rw [HW.out.2.2]; exact hlt) = x at hl0
      have c0' := HW.out.1 wr.drew HS.out.drew.right
      have hlen0 : 0 < (l0.flatMap encSpot).length := by
        have h1 := flat_get encSpot 2 l0 (fun _ => rfl) k 0 x hl0 (by omega)
        exact Nat.lt_of_le_of_lt (Nat.zero_le _) (List.getElem?_eq_some_iff.1 (h1.trans rfl : _ = some (Value.string x.1))).1
      obtain ⟨a0, rfl, -⟩ := c0'.at_ 0 hlen0
      obtain ⟨g0, o0, rfl⟩ := slice_addr c0' rfl hlen0
      have ld0 := spot_cells c0' hl0
      have ldb := spot_box HS.out.drew
      have HL := Aside.mk hl0
      have HS2 := Aside.mk HS.out.drew
      clear c0' hlen0 hl0 HS
      obtain ⟨t, j⟩ := x
      dsimp only at ld0
      go_wp2
      refine region_R [] [] (fun _ => True) #[false, false, false, false, false, false] (by kernel_rfl) rfl rfl ?_
      refine wpR_read (i := 0) #[true, false, false, false, false, false] rfl onlyN_noPanic (by kernel_rfl) (.inl ⟨rfl, exec_load rfl rfl ldb⟩) ?_
      simp only [Act.put, List.setIfInBounds_toArray, List.set_cons_zero, List.set_cons_succ]
      refine wpR_rd 1 #[true, true, false, false, false, false] rfl onlyN_noPanic (by kernel_rfl) (fun K hK => ?_); (go_simp; try go_bits); refine hK _ ?_; clear hK K
      refine wpR_rd 2 #[true, true, true, false, false, false] rfl onlyN_noPanic (by kernel_rfl) (fun K hK => ?_); (go_simp; try go_bits); refine hK _ ?_; clear hK K
      refine wpR_rd 3 #[true, true, true, true, false, false] rfl onlyN_noPanic (by kernel_rfl) (fun K hK => ?_); (go_simp; try go_bits); refine hK _ ?_; clear hK K
      refine wpR_read (i := 4) #[true, true, true, true, true, false] rfl onlyN_noPanic (by kernel_rfl) (.inl ⟨rfl, exec_load rfl rfl ld0⟩) ?_
      simp only [Act.put, List.setIfInBounds_toArray, List.set_cons_zero, List.set_cons_succ]
      refine wpR_read (i := 5) #[true, true, true, true, true, true] rfl onlyN_noPanic (by kernel_rfl) (.inl ⟨rfl, exec_binop rfl rfl rfl (run_eqGuard_agg _ .eql 25 _ _ _ _ (by kernel_rfl)) (eq_spot _ _ _ _ _)⟩) ?_
      simp only [Act.put, List.setIfInBounds_toArray, List.set_cons_zero, List.set_cons_succ]
      refine wpR_done (by kernel_rfl) ?_ _
      simp only [OnlyN]
      by_cases hxy : (s, i) = (t, j)
      · rw [decide_eq_true hxy]
        have HF : Aside (l0[k]? = some (s, i)) := ⟨by rw [hxy]; exact HL.out⟩
        clear hxy HL ld0 ldb
        go_wp2
        go_ret
        exact ⟨k, rfl, .inr ⟨k, rfl, hlt, HF.out, HT.out⟩, HS2.out.right⟩
      · rw [decide_eq_false hxy]
        have HT2 : Aside ((s, i) ∉ l0.take (k + 1)) := ⟨notMem_take_step HT.out HL.out hxy⟩
        clear hxy HL HT ld0 ldb
        go_wp2
        go_roundw
        case rel => exact ⟨k + 1, by push_cast; rfl, by omega, HT2, HS2⟩
        case measure => simp [intOf]; omega
    · have hkn : k = n0 := by omega
      subst hkn
      have HE : Aside ((s, i) ∉ l0) := ⟨by
        have h1 := HT.out
        rw [List.take_of_length_le (by rw [HW.out.2.2]; exact Nat.le_refl _)] at h1
        exact h1⟩
      clear HT
      go_wp2
      go_ret
      exact ⟨-1, rfl, .inl ⟨rfl, HE.out⟩, HS.out.right⟩
set_option maxHeartbeats 1000000 in
set_option maxRecDepth 100000 in
theorem spots_contains (E : Env) (q : HP) (A0 : Option Addr) (l0 : List (ByteArray × Int)) (n0 c0 : Nat) (s : ByteArray) (i : Int) (w : World) (e0 : l0.length = n0) (k0 : n0 ≤ 1000000000)
    (h : ∀ w, Sat E w q → Cells w A0 (l0.flatMap encSpot)) (hw : Sat E w q) :
    Calls Tryd.prog 8 #[.slice A0 n0 c0, .agg #[.string s, .int .i64 i]] w fun e w' => ∃ b, e = .returned (.bool b) ∧ (b = true ↔ (s, i) ∈ l0) ∧ Sat E w' q := by
  have hB := hw.alloc (.cells #[.string s, .int .i64 i] 25)
  obtain ⟨BX, hBX⟩ : ∃ BX, BX = w.heap.size := ⟨_, rfl⟩
  rw [← hBX] at hB
  have HW := Aside.mk (And.intro h (And.intro hB e0))
  clear h hw e0 hB
  go_enter Tryd.func8, Tryd.ntmps8
  have H1 := Aside.mk HW.out.2.1
  have ldb := spot_box H1.out
  rw [hBX] at ldb
  go_wp2_with fail
  rw [← hBX] at *
  clear hBX
  refine (spots_index E _ A0 l0 n0 c0 s i _ HW.out.2.2 k0 (fun w h => HW.out.1 w h.right) H1.out).mono ?_
  rintro e w2 ⟨j, rfl, hj, h2⟩
  have H2 := Aside.mk h2.right
  clear h2 ldb H1
  rcases hj with ⟨rfl, hm⟩ | ⟨k, rfl, hk, hg, -⟩
  · have HM := Aside.mk hm
    clear hm
    go_wp2
    go_ret
    exact ⟨_, rfl, ⟨fun h => (by cases h), fun h => absurd h HM.out⟩, H2.out⟩
  · have HM : Aside ((s, i) ∈ l0) := ⟨List.mem_of_getElem? hg⟩
    have hk0 : (0 : Int) ≤ (k : Int) := by omega
    clear hg
    go_wp2
    go_ret
    exact ⟨_, rfl, ⟨fun _ => HM.out, fun _ => rfl⟩, H2.out⟩
theorem slSpc : SlTy Tryd.prog 22 25 (.agg #[.string ⟨#[]⟩, .int .i64 0]) 2 24 := ⟨Tryd.underlying22, by kernel_rfl, rfl, by decide⟩
theorem spt_one (l : List (ByteArray × Int)) : (l.flatMap encSpot).all Value.oneCell' = true := by
  rw [List.all_eq_true]
  intro v hv
  obtain ⟨g, -, hg⟩ := List.mem_flatMap.1 hv
  unfold encSpot at hg
  simp only [List.mem_cons, List.not_mem_nil, or_false] at hg
  rcases hg with rfl | rfl <;> rfl
theorem spt_length (l : List (ByteArray × Int)) : (l.flatMap encSpot).length = l.length * 2 := by
  induction l with
  | nil => rfl
  | cons g r ih => rw [List.flatMap_cons, List.length_append, ih]; show 2 + _ = _; simp; omega
set_option maxHeartbeats 1000000 in
set_option maxRecDepth 100000 in
theorem spt_clone (E : Env) (q : HP) (A : Option Addr) (l : List (ByteArray × Int)) (n c : Nat) (w : World) (hl : l.length = n) (hn : n ≤ 1000000) (hq : ∀ w, Sat E w q → Cells w A (l.flatMap encSpot)) (hw : Sat E w q) :
    Calls Tryd.prog 10 #[.slice A n c] w fun e w' => ∃ v, e = .returned v ∧ Sat E w' (HP.row 25 2 v n (l.flatMap encSpot) * q) := by
  go_enter Tryd.func10, Tryd.ntmps10
  cases A with
  | none =>
    have hl0 : l = [] := by
      cases l with
      | nil => rfl
      | cons x l => obtain ⟨a, ha, _⟩ := (hq w hw).at_ 0 (by rw [spt_length]; simp); cases ha
    subst hl0
    obtain rfl : n = 0 := hl.symm
    have hnil := Lib.run_eql_slice_nil (P := Tryd.prog) w 22 25 none 0 c 0 0 Tryd.underlying22
    go_wp2
    go_ret
    exact ⟨_, rfl, hw.row_nil _ _ _⟩
  | some a =>
    have HH := Aside.mk (And.intro hw (And.intro (hq _ hw) hl))
    clear hw hq hl
    have hnil := Lib.run_eql_slice_nil (P := Tryd.prog) w 22 25 (some a) n c 0 0 Tryd.underlying22
    go_wp2_with (at_builtin; refine wpList_append_row slSpc rfl rfl (by rfl) (by rfl) (((HH.out.1.alloc _).right).row_nil _ _ _) (HH.out.2.1.alloc _) (by rw [spt_length, HH.out.2.2]) (spt_one _) (by unfold maxLen; omega) (by omega) (fun v4 w4 hw4 => ?_))
    go_ret
    refine ⟨_, rfl, ?_⟩
    simpa using hw4
end Go.Proofs.YtnpinegpajbkeaaDoor
namespace Go.Proofs.YtnpinegpajbkeaaDoor
open Go.Shelf Go.RowKit HP
def growSp_ren : Go.Shelf.Ren := ⟨fun | 4 => 67 | n => n, fun | 22 => 22 | 25 => 25 | 3 => 3 | 4 => 4 | 9 => 9 | 20 => 20 | 0 => 0 | n => n, fun | n => n⟩
theorem growSp : Go.Proofs.Lays8.n4 Tryd.prog growSp_ren := {
  mixed := by kernel_rfl
  f4 := ⟨Tryd.f67.name, by decide, Tryd.func67.trans (congrArg some (by kernel_rfl))⟩
  t0 := Tryd.underlying0
  a0 := Tryd.isAgg0
  z0 := Tryd.sizeOf0
  v0 := Tryd.zeroValue0
  t3 := Tryd.underlying3
  a3 := Tryd.isAgg3
  z3 := Tryd.sizeOf3
  v3 := Tryd.zeroValue3
  t4 := Tryd.underlying4
  a4 := Tryd.isAgg4
  z4 := Tryd.sizeOf4
  v4 := Tryd.zeroValue4
  t9 := Tryd.underlying9
  a9 := Tryd.isAgg9
  z9 := Tryd.sizeOf9
  v9 := Tryd.zeroValue9
  t20 := Tryd.underlying20
  a20 := Tryd.isAgg20
  z20 := Tryd.sizeOf20
  v20 := Tryd.zeroValue20
  t22 := Tryd.underlying22
  a22 := Tryd.isAgg22
  z22 := Tryd.sizeOf22
  v22 := Tryd.zeroValue22 }
theorem info_spt : ∃ i0, Tryd.prog.info? 25 = some i0 ∧ i0.zero = some (.agg #[.string ⟨#[]⟩, .int .i64 0]) ∧ i0.size = 2 ∧ i0.bytes = 24 := by
  have h : (Tryd.prog.info? 25).map (fun i => (i.zero, i.size, i.bytes)) = some (some (Value.agg #[.string ⟨#[]⟩, .int .i64 0]), 2, 24) := by kernel_rfl
  cases hi : Tryd.prog.info? 25 with
  | none => rw [hi] at h; cases h
  | some i0 =>
    rw [hi] at h
    simp only [Option.map_some, Option.some.injEq, Prod.mk.injEq] at h
    exact ⟨i0, rfl, h.1, h.2.1, h.2.2⟩
set_option maxHeartbeats 1000000 in
set_option maxRecDepth 100000 in
theorem growSp_nil (E : Env) (q : HP) (n : Nat) (w : World) (hn : n ≤ 2200000) (hw : Sat E w q) :
    Calls Tryd.prog 67 #[.slice none 0 0, .int .i64 n] w fun e w' => ∃ A c, e = .returned (.slice A 0 c) ∧ Sat E w' (HP.row 25 2 (.slice A 0 c) 0 [] * q) := by
  rcases Nat.eq_zero_or_pos n with h0 | h0
  · subst h0
    have H := Aside.mk hw
    clear hw
    go_enter Tryd.func67, Tryd.ntmps67
    go_wp2
    go_ret
    exact ⟨_, _, rfl, H.out.row_nil _ _ _⟩
  obtain ⟨i0, hi, hz, hs, hb⟩ := info_spt
  refine (Any8.slices_Grow_grow growSp i0 (.agg #[.string ⟨#[]⟩, .int .i64 0]) hi hz (by omega) none 0 0 n [] w (Nat.le_refl _) (by omega) (by rw [hb]; omega) (by omega) (by simp) (fun _ => rfl) (fun a ha => by cases ha)).mono ?_
  rintro e w' ⟨rfl, rfl⟩
  have hc : grownCap w (0 + n) 0 25 ≤ maxLen := grownCap_le_maxLen w (0 + n) 0 25 (by unfold maxLen; omega)
  refine ⟨_, _, rfl, ?_⟩
  have h1 := hw.drew.alloc (.cells (([] : List Value).toArray ++ Builtin.zeroCells (Value.agg #[.string ⟨#[]⟩, .int .i64 0]).cells (0 + n - 0) ++ Builtin.zeroCells (Value.agg #[.string ⟨#[]⟩, .int .i64 0]).cells (grownCap w (0 + n) 0 25 - (0 + n))) 25)
  have h2 := h1.row_mk (n := 0) (cap := grownCap w (0 + n) 0 25) (off := 0) (size := 2) (cs := []) (Nat.zero_le _) hc (by
    have hz2 : (Value.agg #[.string ⟨#[]⟩, .int .i64 0]).cells = #[.string ⟨#[]⟩, .int .i64 0] := by kernel_rfl
    rw [hz2]
    simp only [Array.size_append, Builtin.zeroCells, List.size_toArray, List.length_nil]
    simp
    omega) (by simp)
  exact h2
set_option maxHeartbeats 2000000 in
set_option maxRecDepth 100000 in
theorem concSp_ok (E : Env) (q : HP) (bl : Nat) (A1 A2 : Option Addr) (l1 l2 : List (ByteArray × Int)) (n1 n2 c1 c2 : Nat) (w : World) (e1 : l1.length = n1) (e2 : l2.length = n2) (k1 : n1 ≤ 1100000) (k2 : n2 ≤ 1100000)
    (hq : ∀ w, Sat E w q → Cells w A1 (l1.flatMap encSpot) ∧ Cells w A2 (l2.flatMap encSpot)) (hw : Sat E w (HP.pt bl (.cells #[.slice A1 n1 c1, .slice A2 n2 c2] 22) * q)) :
    Calls Tryd.prog 26 #[.slice (some ⟨bl, 0, none⟩) 2 2] w fun e w' => ∃ A c, e = .returned (.slice A (n1 + n2) c) ∧ n1 + n2 ≤ c ∧ c ≤ maxLen ∧ Sat E w' (HP.row 25 2 (.slice A (n1 + n2) c) (n1 + n2) ((l1 ++ l2).flatMap encSpot) * q) := by
  have HQ := Aside.mk (And.intro hq (And.intro hw (And.intro e1 e2)))
  clear hq hw e1 e2
  have c0 : w.cell? ⟨bl, 0, none⟩ = some (.slice A1 n1 c1) := HQ.out.2.1.cell 0
  have c1' : w.cell? ⟨bl, 1, none⟩ = some (.slice A2 n2 c2) := HQ.out.2.1.cell 1
  go_enter Tryd.func26, Tryd.ntmps26
  go_wp2
  go_loopw [3, 11] (fun v3 v11 wr => ∃ k : Nat, k ≤ 2 ∧ v11 = .int .i64 k ∧ (∃ s : Nat, v3 = .int .i64 s ∧ s = (if k = 0 then 0 else if k = 1 then n1 else n1 + n2)) ∧ wr = w) (fun _ i _ => 2 - (intOf i).toNat)
  case atStart => exact ⟨0, by omega, rfl, ⟨0, rfl, rfl⟩, rfl⟩
  case round =>
    obtain ⟨k, hk, rfl, ⟨s, rfl, hs⟩, hwr⟩ := hrel
    subst wr
    by_cases hlt : k < 2
    · have hlt2 : (k : Int) < 2 := by omega
      obtain ⟨Ak, nk, ck, gk, hnk, hsk⟩ : ∃ Ak nk ck, w.cell? ⟨bl, k, none⟩ = some (.slice Ak nk ck) ∧ s + nk ≤ 2200000 ∧ s + nk = (if k + 1 = 0 then 0 else if k + 1 = 1 then n1 else n1 + n2) := by
        rcases Nat.lt_or_ge k 1 with h0 | h0
        · obtain rfl : k = 0 := by omega
          exact ⟨A1, n1, c1, c0, by simp at hs; omega, by simp at hs; simp; omega⟩
        · obtain rfl : k = 1 := by omega
          exact ⟨A2, n2, c2, c1', by simp at hs; omega, by simp at hs; simp; omega⟩
      have HS := Aside.mk hsk
      clear hs c0 c1' hsk
      obtain ⟨s2, hs2⟩ : ∃ s2, s2 = s + nk := ⟨_, rfl⟩
      have x1 : (s : Int) + (nk : Int) = (s2 : Int) := by omega
      have x2 : s2 ≤ 2200000 := by omega
      have x3 : ¬ (s2 : Int) < 0 := by omega
      rw [← hs2] at HS
      clear hs2
      go_wp2
      go_roundw
      case rel => exact ⟨k + 1, by omega, by push_cast; rfl, ⟨s2, rfl, HS.out⟩, by first | rfl | trivial⟩
      case measure => simp [intOf]; omega
    · obtain rfl : k = 2 := by omega
      obtain rfl : s = n1 + n2 := by simpa using hs
      clear hs c0 c1'
      obtain ⟨N, hN⟩ : ∃ N, N = n1 + n2 := ⟨_, rfl⟩
      have hN2 : N ≤ 2200000 ∧ 0 ≤ N := by omega
      have HN := Aside.mk hN
      rw [← hN]
      clear hN
      go_wp2_with fail
      refine (growSp_nil E _ N w hN2.1 HQ.out.2.1).mono ?_
      rintro e w1 ⟨Ag, cg, rfl, h1⟩
      have H1 := Aside.mk h1
      clear h1
      go_wp2
      go_loopw [6, 27] (fun v6 v27 wr => ∃ k : Nat, k ≤ 2 ∧ v27 = .int .i64 k ∧ Aside (∃ l, l = (if k = 0 then [] else if k = 1 then l1 else l1 ++ l2) ∧ Sat E wr (HP.row 25 2 v6 l.length (l.flatMap encSpot) * (HP.pt bl (.cells #[.slice A1 n1 c1, .slice A2 n2 c2] 22) * q)))) (fun _ i _ => 2 - (intOf i).toNat)
      case atStart => exact ⟨0, by omega, rfl, ⟨[], rfl, H1.out⟩⟩
      case round =>
        obtain ⟨k, hk, rfl, HL⟩ := hrel
        obtain ⟨l, hl, hs⟩ := HL.out
        clear HL
        by_cases hlt : k < 2
        · have hlt2 : (k : Int) < 2 := by omega
          obtain ⟨Ak, lk, nk, ck, gk, ek, hck, hlk, hbd⟩ : ∃ Ak lk nk ck, wr.cell? ⟨bl, k, none⟩ = some (.slice Ak nk ck) ∧ List.length lk = nk ∧ Cells wr Ak (lk.flatMap encSpot) ∧ l ++ lk = (if k + 1 = 0 then [] else if k + 1 = 1 then l1 else l1 ++ l2) ∧ l.length + nk ≤ 2200000 := by
            have hc := HQ.out.1 _ hs.right.right
            have he1 := HQ.out.2.2.1
            have he2 := HQ.out.2.2.2
            rcases Nat.lt_or_ge k 1 with h0 | h0
            · obtain rfl : k = 0 := by omega
              simp at hl
              subst hl
              exact ⟨A1, l1, n1, c1, hs.right.cell 0, he1, hc.1, rfl, by simp; omega⟩
            · obtain rfl : k = 1 := by omega
              simp at hl
              subst hl
              exact ⟨A2, l2, n2, c2, hs.right.cell 1, he2, hc.2, rfl, by omega⟩
          obtain ⟨Al, cl, rfl, -, -⟩ := hs.row_slice
          have HB := Aside.mk (And.intro hs (And.intro hck (And.intro (show (lk.flatMap encSpot).length = nk * 2 by rw [spt_length, ek]) (And.intro hlk ek))))
          obtain ⟨ol, hol⟩ : ∃ ol, ol = l.length := ⟨_, rfl⟩
          rw [← hol] at HB hbd ⊢
          have HO := Aside.mk hol
          clear hs hck hl hlk ek hol
          go_wp2_with (at_builtin; refine wpList_append_row slSpc rfl rfl (by rfl) (by rfl) HB.out.1 HB.out.2.1 HB.out.2.2.1 (spt_one _) (by unfold maxLen; omega) (by omega) (fun v5 w5 hw5 => ?_); obtain ⟨A5, c5, rfl, -, -⟩ := hw5.row_slice; have HW5 := Aside.mk hw5; clear hw5)
          have H6 : Aside (∃ l', l' = (if k + 1 = 0 then [] else if k + 1 = 1 then l1 else l1 ++ l2) ∧ Sat E w5 (HP.row 25 2 (.slice A5 (ol + nk) c5) l'.length (l'.flatMap encSpot) * (HP.pt bl (.cells #[.slice A1 n1 c1, .slice A2 n2 c2] 22) * q))) := ⟨l ++ lk, HB.out.2.2.2.1, by
            rw [List.length_append, List.flatMap_append, ← HO.out, HB.out.2.2.2.2]
            exact HW5.out⟩
          clear HW5 HB
          go_wp2
          go_roundw
          case rel => exact ⟨k + 1, by omega, by push_cast; rfl, H6⟩
          case measure => simp [intOf]; omega
        · obtain rfl : k = 2 := by omega
          obtain rfl : l = l1 ++ l2 := by simpa using hl
          have hlen : (l1 ++ l2).length = n1 + n2 := by rw [List.length_append, HQ.out.2.2.1, HQ.out.2.2.2]
          rw [hlen] at hs
          obtain ⟨Al, cl, rfl, hcl, hml⟩ := hs.row_slice
          have HS := Aside.mk (And.intro hs.drop2 (And.intro hcl hml))
          clear hs hl hlen hcl hml
          go_wp2
          go_ret
          exact ⟨_, _, rfl, HS.out.2.1, HS.out.2.2, HS.out.1⟩
end Go.Proofs.YtnpinegpajbkeaaDoor
namespace Go.Proofs.YtnpinegpajbkeaaDoor
abbrev Spt := ByteArray × Int
abbrev ltSp : Spt → Spt → Bool := ltC cmpSpot
def sortSp (l : List Spt) : List Spt := l.mergeSort fun x y => !ltSp y x
theorem sortSp_mem {l : List Spt} {x : Spt} : x ∈ sortSp l ↔ x ∈ l := by unfold sortSp; exact (List.mergeSort_perm l _).mem_iff
theorem sortSp_length (l : List Spt) : (sortSp l).length = l.length := by unfold sortSp; exact (List.mergeSort_perm l _).length_eq
def hasSp (l : List Spt) (s : Spt) : Bool := l.any fun x => decide (s = x)
theorem hasSp_iff {l : List Spt} {s : Spt} : hasSp l s = true ↔ s ∈ l := by unfold hasSp; simp
theorem hasSp_not {l : List Spt} {s : Spt} : hasSp l s = false ↔ s ∉ l := by rw [← hasSp_iff, Bool.not_eq_true]
def preN (led l : List Spt) (add : Bool) : List Spt := if add = true then led ++ l else led.filter fun s => !hasSp l s
def noteL (led l : List Spt) (add : Bool) : List Spt := compactL (sortSp (preN led l add))
theorem note_mem {led l : List Spt} {add : Bool} {x : Spt} : x ∈ noteL led l add ↔ (x ∈ led ∨ add = true ∧ x ∈ l) ∧ (add = true ∨ x ∉ l) := by
  unfold noteL
  rw [compact_mem, sortSp_mem]
  unfold preN
  cases add with
  | true => simp
  | false => simp [hasSp_not]
theorem note_length (led l : List Spt) (add : Bool) : (noteL led l add).length ≤ (preN led l add).length := by
  have h := compact_length (sortSp (preN led l add))
  rw [sortSp_length] at h
  exact h
end Go.Proofs.YtnpinegpajbkeaaDoor
namespace Go.Proofs.YtnpinegpajbkeaaDoor
open Go.RowKit HP
structure Sgp where
  kind : Int
  name : ByteArray
  idx : Int
  gen : Int
deriving DecidableEq
def Sgp.vals (g : Sgp) : List Value := [.int .i64 g.kind, .string g.name, .int .i64 g.idx, .int .i64 g.gen]
def Sgp.ends (g : Sgp) : List ByteArray := if g.kind = 1 then [dotA, dotB] else if g.kind = 2 then [dot0, dot1, dot2, dotP] else []
def Sgp.spots (g : Sgp) : List (ByteArray × Int) := g.ends.map fun s => (g.name ++ s, g.idx)
def Sgp.right (A : Dk) (g : Sgp) (k : Nat) (f : ByteArray) : Bool :=
  match A.cel f g.idx with
  | none => false
  | some c => match openI c.read f g.idx with
    | none => false
    | some x => if g.kind = 2 then decide ((x.2 : Int) = g.gen) && (decide (x.1.length = 106) == decide (k = 3)) else true
def Sgp.badK (A : Dk) (g : Sgp) : Nat → Nat
  | 0 => 0
  | k + 1 => g.badK A k + (match g.ends[k]? with | none => 0 | some s => if g.right A k (g.name ++ s) = true then 0 else 1)
def Sgp.bad (A : Dk) (g : Sgp) : Nat := g.badK A g.ends.length
def ofV (g : Sgp) : Value := if g.kind = 1 then .iface 77 (.agg #[.int .i64 g.kind, .string g.name, .int .i64 g.idx, .int .i64 g.gen]) else if g.kind = 2 then .iface 79 (.agg #[.int .i64 g.kind, .string g.name, .int .i64 g.idx, .int .i64 g.gen]) else .nilIface
theorem slSpt : SlTy Tryd.prog 22 25 (.agg #[.string ⟨#[]⟩, .int .i64 0]) 2 24 := ⟨Tryd.underlying22, by kernel_rfl, rfl, by decide⟩
theorem spot_at {w : World} {A : Option Addr} {l : List (ByteArray × Int)} (h : Cells w A (l.flatMap encSpot)) {k : Nat} {x : ByteArray × Int} (hk : l[k]? = some x) : ∃ g o, A = some ⟨g, o, none⟩ ∧ w.cell? ⟨g, o + k * 2, none⟩ = some (.string x.1) ∧ w.cell? ⟨g, o + k * 2 + 1, none⟩ = some (.int .i64 x.2) := by
  have g0 := flat_get encSpot 2 l (fun _ => rfl) k 0 x hk (by omega)
  have g1 := flat_get encSpot 2 l (fun _ => rfl) k 1 x hk (by omega)
  obtain ⟨a, ha, -⟩ := h _ _ g0
  obtain ⟨g, o, rfl⟩ : ∃ g o, a = ⟨g, o, none⟩ := slice_addr h ha (List.getElem?_eq_some_iff.1 g0).1
  subst ha
  have h0 := h.some_ _ _ g0
  have h1 := h.some_ _ _ g1
  rw [addr_add] at h0 h1
  exact ⟨g, o, rfl, h0, h1⟩
def bitG (kind gen : Int) (k : Nat) : Option (List Int × Nat) → Nat
  | none => 1
  | some x => if kind = 2 then (if (x.2 : Int) = gen then (if x.1.length = 106 then (if k = 3 then 0 else 1) else (if k = 3 then 1 else 0)) else 1) else 0
abbrev noteF (b : Nat) : Value := .func (.func 28) #[] #[.pointer (some ⟨b, 0, none⟩)]
def NoteIn (E : Env) (q : HP) (b : Nat) (l : List (ByteArray × Int)) : Prop := ∀ (p : HP) (s : ByteArray) (i : Int) (w : World), Sat E w (p * q) →
  Calls Tryd.prog 28 #[.agg #[.string s, .int .i64 i], .pointer (some ⟨b, 0, none⟩)] w fun e w' => e = .returned (.bool (hasSp l (s, i))) ∧ Sat E w' (p * q)
set_option maxHeartbeats 1000000 in
set_option maxRecDepth 100000 in
theorem note_in (E : Env) (q : HP) (b : Nat) (A : Option Addr) (l : List (ByteArray × Int)) (n c : Nat) (e0 : l.length = n) (k0 : n ≤ 1000000000) (h : ∀ w, Sat E w q → Cells w A (l.flatMap encSpot)) : NoteIn E (HP.pt b (.cells #[.slice A n c] 22) * q) b l := by
  intro p s i w hw
  have hB := hw.alloc (.cells #[.string s, .int .i64 i] 25)
  have HH := Aside.mk h
  obtain ⟨BX, hBX⟩ : ∃ BX, BX = w.heap.size := ⟨_, rfl⟩
  rw [← hBX] at hB
  have HB := Aside.mk hB
  have ldb := spot_box HB.out
  rw [hBX] at ldb
  have cb : (w.alloc (.cells #[.string s, .int .i64 i] 25)).cell? ⟨b, 0, none⟩ = some (.slice A n c) := HB.out.right.s2.cell 0
  clear hw hB h
  go_enter Tryd.func28, Tryd.ntmps28
  go_wp2_with fail
  refine (spots_contains E _ A l n c s i _ e0 k0 (fun w h => HH.out w h.right.right.right) HB.out).mono ?_
  rintro e w2 ⟨v, rfl, hv, h2⟩
  have HV : Aside (v = hasSp l (s, i)) := ⟨by
    cases hh : hasSp l (s, i) with
    | true => exact hv.2 (hasSp_iff.1 hh)
    | false => cases v with
      | false => rfl
      | true => exact absurd (hv.1 rfl) (hasSp_not.1 hh)⟩
  have H2 := Aside.mk h2.right
  clear h2 hv HB ldb cb
  go_wp2
  go_ret
  rw [← HV.out]
  exact ⟨rfl, H2.out⟩
theorem hasNone_take {l0 l : List (ByteArray × Int)} {k : Nat} {x : ByteArray × Int} (h : ∀ y ∈ l0.take k, hasSp l y = false) (hk : l0[k]? = some x) (hx : hasSp l x = false) : ∀ y ∈ l0.take (k + 1), hasSp l y = false := by
  intro y hy
  rw [List.take_add_one, hk] at hy
  rcases List.mem_append.1 hy with hy | hy
  · exact h y hy
  · rw [List.mem_singleton.1 hy]; exact hx
set_option maxHeartbeats 1000000 in
set_option maxRecDepth 100000 in
theorem spt_index (E : Env) (q : HP) (b : Nat) (l : List (ByteArray × Int)) (A0 : Option Addr) (l0 : List (ByteArray × Int)) (n0 c0 : Nat) (p : HP) (w : World) (hn : NoteIn E q b l) (e0 : l0.length = n0) (k0 : n0 ≤ 1000000000)
    (h : ∀ w, Sat E w (p * q) → Cells w A0 (l0.flatMap encSpot)) (hw : Sat E w (p * q)) :
    Calls Tryd.prog 68 #[.slice A0 n0 c0, noteF b] w fun e w' => ∃ j : Int, e = .returned (.int .i64 j) ∧ ((j = -1 ∧ ∀ x ∈ l0, hasSp l x = false) ∨ ∃ k : Nat, j = k ∧ k < n0 ∧ (∃ x, l0[k]? = some x ∧ hasSp l x = true) ∧ ∀ x ∈ l0.take k, hasSp l x = false) ∧ Sat E w' (p * q) := by
  have HW := Aside.mk (And.intro h (And.intro hw (And.intro e0 hn)))
  clear h hw e0 hn
  go_enter Tryd.func68, Tryd.ntmps68
  go_wp2
  go_loopw [8] (fun v8 wr => ∃ k : Nat, v8 = .int .i64 k ∧ k ≤ n0 ∧ Aside (∀ x ∈ l0.take k, hasSp l x = false) ∧ Aside (Sat E wr (p * q))) (fun x _ => n0 - (intOf x).toNat)
  case atStart => exact ⟨0, rfl, Nat.zero_le _, ⟨by simp⟩, ⟨HW.out.2.1⟩⟩
  case round =>
    obtain ⟨k, rfl, hk, HT, HS⟩ := hrel
    by_cases hlt : k < n0
    · have hlt2 : (k : Int) < (n0 : Int) := by omega
      have hk2 : (0 : Int) ≤ (k : Int) := by omega
      have hl0 : l0[k]? = some (l0[k]'(by rw [HW.out.2.2.1]; exact hlt)) := List.getElem?_eq_getElem _
      generalize l0[k]'(by rw [HW.out.2.2.1]; exact hlt) = x at hl0
      obtain ⟨g0, o0, rfl, x0, x1⟩ := spot_at (HW.out.1 _ HS.out) hl0
      have HL := Aside.mk hl0
      clear hl0
      cases hx : hasSp l x with
      | true =>
        have HX : Aside (∃ x, l0[k]? = some x ∧ hasSp l x = true) := ⟨x, HL.out, hx⟩
        go_wp2_with fail
        refine (HW.out.2.2.2 p x.1 x.2 _ HS.out).mono ?_
        rintro e w1 ⟨rfl, h1⟩
        rw [show (x.1, x.2) = x from rfl, hx]
        have H1 := Aside.mk h1
        clear h1 HS x0 x1 hx HL
        go_wp2
        go_ret
        exact ⟨k, rfl, .inr ⟨k, rfl, hlt, HX.out, HT.out⟩, H1.out⟩
      | false =>
        have HT2 : Aside (∀ y ∈ l0.take (k + 1), hasSp l y = false) := ⟨hasNone_take HT.out HL.out hx⟩
        go_wp2_with fail
        refine (HW.out.2.2.2 p x.1 x.2 _ HS.out).mono ?_
        rintro e w1 ⟨rfl, h1⟩
        rw [show (x.1, x.2) = x from rfl, hx]
        have H1 := Aside.mk h1
        clear h1 HS x0 x1 hx HL HT
        go_wp2
        go_roundw
        case rel => exact ⟨k + 1, by push_cast; rfl, by omega, HT2, H1⟩
        case measure => simp [intOf]; omega
    · have hkn : k = n0 := by omega
      subst hkn
      have HE : Aside (∀ x ∈ l0, hasSp l x = false) := ⟨by
        have h1 := HT.out
        rw [List.take_of_length_le (by rw [HW.out.2.2.1]; exact Nat.le_refl _)] at h1
        exact h1⟩
      clear HT
      go_wp2
      go_ret
      exact ⟨-1, rfl, .inl ⟨rfl, HE.out⟩, HS.out⟩
theorem flat_set2 : ∀ (L : List Spt) (i : Nat) (x : Spt), i < L.length → ((L.flatMap encSpot).set (i * 2) (.string x.1)).set (i * 2 + 1) (.int .i64 x.2) = (L.set i x).flatMap encSpot
  | y :: L, 0, x, _ => rfl
  | y :: L, i + 1, x, h => by
    have ih := flat_set2 L i x (by simpa using h)
    rw [List.set_cons_succ, List.flatMap_cons, List.flatMap_cons, ← ih]
    show (([Value.string y.1, Value.int .i64 y.2] ++ L.flatMap encSpot).set ((i + 1) * 2) _).set ((i + 1) * 2 + 1) _ = [Value.string y.1, Value.int .i64 y.2] ++ _
    rw [List.set_append_right _ _ (by show 2 ≤ _; omega), List.set_append_right _ _ (by show 2 ≤ _; omega)]
    show _ ++ ((L.flatMap encSpot).set ((i + 1) * 2 - 2) _).set ((i + 1) * 2 + 1 - 2) _ = _
    rw [show (i + 1) * 2 - 2 = i * 2 by omega, show (i + 1) * 2 + 1 - 2 = i * 2 + 1 by omega]
theorem flat_take2 : ∀ (L : List Spt) (i : Nat), (L.flatMap encSpot).take (i * 2) = (L.take i).flatMap encSpot
  | [], i => by simp
  | y :: L, 0 => by simp
  | y :: L, i + 1 => by
    rw [List.take_succ_cons, List.flatMap_cons, List.flatMap_cons, ← flat_take2 L i, show (i + 1) * 2 = i * 2 + 1 + 1 by omega]
    show (Value.string y.1 :: Value.int .i64 y.2 :: L.flatMap encSpot).take (i * 2 + 1 + 1) = Value.string y.1 :: Value.int .i64 y.2 :: _
    rw [List.take_succ_cons, List.take_succ_cons]
    rfl
theorem Sat.row_sets {E : Env} {q : HP} {e : TypeId} {size n g o c j : Nat} : ∀ (vs : List Value) (k : Nat) {w : World} {cs : List Value}, j ≤ k → Sat E w (HP.row e size (.slice (some ⟨g, o, none⟩) n c) n cs * q) → k + vs.length ≤ cs.length →
    ∃ cs', cs'.take j = cs.take j ∧ Sat E (w.setCells g (o + k) vs) (HP.row e size (.slice (some ⟨g, o, none⟩) n c) n cs' * q)
  | [], k, w, cs, hj, h, hl => ⟨cs, rfl, h⟩
  | v :: r, k, w, cs, hj, h, hl => by
    rw [List.length_cons] at hl
    obtain ⟨cs', h1, h2⟩ := Sat.row_sets r (k + 1) (j := j) (by omega) (h.row_set k (by omega) v) (by rw [List.length_set]; omega)
    exact ⟨cs', by rw [h1, List.take_set_of_le hj], h2⟩
theorem zeroSp_length (m : Nat) : (Builtin.zeroCells #[.string ⟨#[]⟩, .int .i64 0] m).toList.length = m * 2 := by simp [Builtin.zeroCells]
theorem zeroSp_one (m : Nat) : ∀ v ∈ (Builtin.zeroCells #[.string ⟨#[]⟩, .int .i64 0] m).toList, v.oneCell' = true := by
  intro v hv
  simp only [Builtin.zeroCells, Array.toList_map, List.mem_map] at hv
  obtain ⟨i, -, rfl⟩ := hv
  have h : i % 2 = 0 ∨ i % 2 = 1 := by omega
  show (Value.oneCell' ((#[Value.string ⟨#[]⟩, Value.int .i64 0])[i % 2]!)) = true
  rcases h with h | h <;> rw [h] <;> rfl
theorem zero_spot (w : World) : (zeroValue 25).run Tryd.prog w = .ok (.agg #[.string ⟨#[]⟩, .int .i64 0]) w := by go_simp
theorem clear_spots (w : World) (g o m c : Nat) (hm : 0 < m) (hc : ∀ j, j < m * 2 → (w.cell? ⟨g, o + j, none⟩).isSome = true) (hf : ∀ j, j < m * 2 → w.frozen? ⟨g, o + j, none⟩ = false) :
    (Builtin.clear_ #[22] 0 #[.slice (some ⟨g, o, none⟩) m c]).run Tryd.prog w = .ok (.tuple #[]) (w.setCells g o (Builtin.zeroCells #[.string ⟨#[]⟩, .int .i64 0] m).toList) := by
  have hst := run_storeCells_cells (P := Tryd.prog) g o (Builtin.zeroCells #[.string ⟨#[]⟩, .int .i64 0] m).toList 0 w (by rw [zeroSp_length]; simpa using hc) (by rw [zeroSp_length]; simpa using hf) (zeroSp_one m)
  simp only [Nat.add_zero] at hst
  have hz := zero_spot w
  have hzc : (Value.agg #[.string ⟨#[]⟩, .int .i64 0]).cells = #[.string ⟨#[]⟩, .int .i64 0] := rfl
  obtain ⟨m, rfl⟩ : ∃ k, m = k + 1 := ⟨m - 1, by omega⟩
  simp [Builtin.clear_, run_underlying Tryd.underlying22, hz, hzc, hst]
structure DelI (l0 l : List Spt) (n0 i j : Nat) (L : List Spt) : Prop where
  len : L.length = n0
  took : L.take i = (l0.take j).filter fun x => !hasSp l x
  rest : L.drop j = l0.drop j
theorem DelI.start {l0 l : List Spt} {n0 k : Nat} {x : Spt} (h0 : l0.length = n0) (hx : l0[k]? = some x) (hi : hasSp l x = true) (hno : ∀ y ∈ l0.take k, hasSp l y = false) : DelI l0 l n0 k (k + 1) l0 := ⟨h0, by
  rw [List.take_add_one, hx, List.filter_append]
  rw [List.filter_eq_self.2 fun y hy => by rw [hno y hy]; rfl]
  simp [hi], rfl⟩
theorem DelI.at {l0 l L : List Spt} {n0 i j : Nat} (h : DelI l0 l n0 i j L) {x : Spt} (hx : l0[j]? = some x) : L[j]? = some x := by
  have := congrArg (·[0]?) h.rest
  simpa [hx] using this
theorem DelI.gone {l0 l L : List Spt} {n0 i j : Nat} (h : DelI l0 l n0 i j L) {x : Spt} (hx : l0[j]? = some x) (hi : hasSp l x = true) : DelI l0 l n0 i (j + 1) L := ⟨h.len, by
  rw [h.took, List.take_add_one, hx, List.filter_append]
  simp [hi], by
  rw [← List.drop_drop, ← List.drop_drop, h.rest]⟩
theorem DelI.kept {l0 l L : List Spt} {n0 i j : Nat} (h : DelI l0 l n0 i j L) {x : Spt} (hx : l0[j]? = some x) (hi : hasSp l x = false) (hij : i < j) (hj : j < n0) : DelI l0 l n0 (i + 1) (j + 1) (L.set i x) := ⟨by rw [List.length_set, h.len], by
  have hiL : i < L.length := by rw [h.len]; omega
  rw [List.take_add_one, List.take_set, List.set_eq_of_length_le (by rw [List.length_take]; omega), h.took, List.getElem?_set_self hiL, List.take_add_one, hx, List.filter_append]
  simp [hi], by
  rw [List.drop_set_of_lt (by omega), ← List.drop_drop, ← List.drop_drop, h.rest]⟩
theorem DelI.done {l0 l L : List Spt} {n0 i : Nat} (h : DelI l0 l n0 i n0 L) (h0 : l0.length = n0) (hi : i ≤ n0) : L.take i = (l0.filter fun x => !hasSp l x) ∧ (l0.filter fun x => !hasSp l x).length = i := by
  have h1 := h.took
  rw [List.take_of_length_le (by omega : l0.length ≤ n0)] at h1
  exact ⟨h1, by rw [← h1, List.length_take, h.len]; omega⟩
set_option maxHeartbeats 2000000 in
set_option maxRecDepth 100000 in
theorem spt_delete (E : Env) (q : HP) (b : Nat) (l : List (ByteArray × Int)) (A0 : Option Addr) (l0 : List (ByteArray × Int)) (n0 c0 : Nat) (w : World) (hn : NoteIn E q b l) (e0 : l0.length = n0) (k0 : n0 ≤ 1000000000)
    (hw : Sat E w (HP.row 25 2 (.slice A0 n0 c0) n0 (l0.flatMap encSpot) * q)) :
    Calls Tryd.prog 27 #[.slice A0 n0 c0, noteF b] w fun e w' => ∃ m, e = .returned (.slice A0 m c0) ∧ (l0.filter fun x => !hasSp l x).length = m ∧ m ≤ n0 ∧ Sat E w' (HP.row 25 2 (.slice A0 m c0) m ((l0.filter fun x => !hasSp l x).flatMap encSpot) * q) := by
  have HW := Aside.mk (And.intro hw (And.intro e0 hn))
  clear hw e0 hn
  go_enter Tryd.func27, Tryd.ntmps27
  go_wp2_with fail
  refine (spt_index E q b l A0 l0 n0 c0 _ _ HW.out.2.2 HW.out.2.1 k0 (fun w h => h.row_cells) HW.out.1).mono ?_
  rintro e w1 ⟨j, rfl, hj, h1⟩
  have H1 := Aside.mk h1
  clear h1
  rcases hj with ⟨rfl, hno⟩ | ⟨k, rfl, hk, hx, hno⟩
  · have HF : Aside (l0.filter (fun x => !hasSp l x) = l0) := ⟨List.filter_eq_self.2 fun x hx => by rw [hno x hx]; rfl⟩
    clear hno
    go_wp2
    go_ret
    rw [HF.out]
    exact ⟨n0, rfl, HW.out.2.1, Nat.le_refl _, H1.out⟩
  · obtain ⟨x, hx, hxi⟩ := hx
    have HX := Aside.mk (And.intro hx (And.intro hxi hno))
    clear hx hxi hno
    have hk0 : (0 : Int) ≤ (k : Int) := by omega
    have hkm : ¬ (k : Int) = -1 := by omega
    have hkb : ((k : Int) == -1) = false := by rw [beq_eq_false_iff_ne]; exact hkm
    go_wp2
    go_loopw [5, 6] (fun v5 v6 wr => ∃ i j : Nat, v5 = .int .i64 i ∧ v6 = .int .i64 j ∧ i < j ∧ j ≤ n0 ∧ Aside (∃ L, DelI l0 l n0 i j L ∧ Sat E wr (HP.row 25 2 (.slice A0 n0 c0) n0 (L.flatMap encSpot) * q))) (fun _ x _ => n0 - (intOf x).toNat)
    case atStart => exact ⟨k, k + 1, rfl, by push_cast; rfl, by omega, by omega, ⟨l0, DelI.start HW.out.2.1 HX.out.1 HX.out.2.1 HX.out.2.2, H1.out⟩⟩
    case round =>
      clear H1 HX hkb hkm
      obtain ⟨i, j, rfl, rfl, hij, hj, HS⟩ := hrel
      obtain ⟨L, hL, hs⟩ := HS.out
      clear HS
      by_cases hlt : j < n0
      · have hlt2 : (j : Int) < (n0 : Int) := by omega
        have hj2 : (0 : Int) ≤ (j : Int) := by omega
        have hi2 : (0 : Int) ≤ (i : Int) := by omega
        have hi3 : (i : Int) < (n0 : Int) := by omega
        obtain ⟨x, hx⟩ : ∃ x, l0[j]? = some x := ⟨_, List.getElem?_eq_getElem (by rw [HW.out.2.1]; exact hlt)⟩
        have hLx := hL.at hx
        obtain ⟨g0, o0, rfl, x0, x1⟩ := spot_at hs.row_cells hLx
        have HS := Aside.mk (And.intro hL (And.intro hs hx))
        clear hL hs hx hLx
        have hB := HS.out.2.1.alloc (.cells #[.string x.1, .int .i64 x.2] 25)
        have HB := Aside.mk hB
        clear hB
        go_wp2_with fail
        refine (HW.out.2.2 _ x.1 x.2 _ (HB.out.perm (by ac_rfl : _ = (HP.pt wr.heap.size (.cells #[.string x.1, .int .i64 x.2] 25) * HP.row 25 2 (.slice (some ⟨g0, o0, none⟩) n0 c0) n0 (L.flatMap encSpot)) * q))).mono ?_
        rintro e w2 ⟨rfl, h2⟩
        obtain ⟨BX, hBX⟩ : ∃ BX, BX = wr.heap.size := ⟨_, rfl⟩
        rw [← hBX] at h2 ⊢
        have h2' : Sat E w2 (HP.pt BX (.cells #[.string x.1, .int .i64 x.2] 25) * (HP.row 25 2 (.slice (some ⟨g0, o0, none⟩) n0 c0) n0 (L.flatMap encSpot) * q)) := h2.perm (by ac_rfl)
        rw [show (x.1, x.2) = x from rfl]
        clear x0 x1 HB h2 hBX
        cases hx : hasSp l x with
        | true =>
          have H3 : Aside (∃ L, DelI l0 l n0 i (j + 1) L ∧ Sat E w2 (HP.row 25 2 (.slice (some ⟨g0, o0, none⟩) n0 c0) n0 (L.flatMap encSpot) * q)) := ⟨L, HS.out.1.gone HS.out.2.2 hx, h2'.right⟩
          clear h2' HS hx
          go_wp2
          go_roundw
          case rel => exact ⟨i, j + 1, by rfl, by go_num, by omega, by omega, H3⟩
          case measure => simp [intOf]; omega
        | false =>
          obtain ⟨y, hy⟩ : ∃ y, L[i]? = some y := ⟨_, List.getElem?_eq_getElem (by rw [HS.out.1.len]; omega)⟩
          have ldb := spot_box h2'
          have hlen : i * 2 + 1 < (L.flatMap encSpot).length := by rw [spt_length, HS.out.1.len]; omega
          have y0 := h2'.right.row_cells.some_ _ _ (flat_get encSpot 2 L (fun _ => rfl) i 0 y hy (by omega))
          have y1 := h2'.right.row_cells.some_ _ _ (flat_get encSpot 2 L (fun _ => rfl) i 1 y hy (by omega))
          have t0 := h2'.right.row_thaw (i * 2) (by omega)
          have t1 := h2'.right.row_thaw (i * 2 + 1) hlen
          rw [addr_add] at y0 y1
          rw [← Nat.add_assoc] at t1
          rw [Nat.add_zero] at y0
          rw [← Nat.add_assoc] at y1
          have b0 := h2'.cell 0
          have b1 := h2'.cell 1
          have s0 := h2'.right.row_set (i * 2) (by omega) (.string x.1)
          have s1 := s0.row_set (i * 2 + 1) (by rw [List.length_set]; exact hlen) (.int .i64 x.2)
          rw [flat_set2 L i x (by rw [HS.out.1.len]; omega), ← Nat.add_assoc] at s1
          have H3 : Aside (∃ L, DelI l0 l n0 (i + 1) (j + 1) L ∧ Sat E ((w2.setCell ⟨g0, o0 + i * 2, none⟩ (.string x.1)).setCell ⟨g0, o0 + i * 2 + 1, none⟩ (.int .i64 x.2)) (HP.row 25 2 (.slice (some ⟨g0, o0, none⟩) n0 c0) n0 (L.flatMap encSpot) * q)) := ⟨L.set i x, HS.out.1.kept HS.out.2.2 hx hij hlt, s1⟩
          clear h2' s0 s1 HS hx hlen hy
          go_wp2
          go_roundw
          case rel => exact ⟨i + 1, j + 1, by go_num, by go_num, by omega, by omega, H3⟩
          case measure => simp [intOf]; omega
      · obtain rfl : j = n0 := by omega
        have hl := hs.row_slice
        obtain ⟨A', c', hv, hnc, -⟩ := hl
        simp only [Value.slice.injEq, true_and] at hv
        obtain ⟨rfl, rfl⟩ := hv
        obtain ⟨x, hx⟩ : ∃ x, L[0]? = some x := ⟨_, List.getElem?_eq_getElem (by rw [hL.len]; omega)⟩
        obtain ⟨g0, o0, rfl, -, -⟩ := spot_at hs.row_cells hx
        have hll : (L.flatMap encSpot).length = j * 2 := by rw [spt_length, hL.len]
        have hcl := clear_spots wr g0 (o0 + i * 2) (j - i) (c0 - i) (by omega) (fun t ht => by
          have h1 : i * 2 + t < (L.flatMap encSpot).length := by omega
          have := hs.row_cells.some_ (i * 2 + t) _ (List.getElem?_eq_getElem h1)
          rw [addr_add, ← Nat.add_assoc] at this
          rw [this]; rfl) (fun t ht => by
          have := hs.row_thaw (i * 2 + t) (by omega)
          rwa [← Nat.add_assoc] at this)
        obtain ⟨cs', hcs, hs2⟩ := Sat.row_sets (j := i * 2) (Builtin.zeroCells #[.string ⟨#[]⟩, .int .i64 0] (j - i)).toList (i * 2) (Nat.le_refl _) hs (by rw [zeroSp_length]; omega)
        have hd := hL.done HW.out.2.1 (by omega)
        have h3 := hs2.row_cut (m := i) (by omega)
        rw [hcs, flat_take2, hd.1] at h3
        have H3 := Aside.mk (And.intro hd.2 h3)
        have hi2 : (0 : Int) ≤ (i : Int) := by omega
        have hi3 : (i : Int) ≤ (j : Int) := by omega
        have hi4 : i ≤ c0 := by omega
        have hi5 : ¬ c0 = i := by omega
        have hi6 : (i : Int) ≤ (c0 : Int) := by omega
        clear hs hL hx hll hcs hs2 hd h3
        go_wp2
        go_ret
        exact ⟨i, rfl, H3.out.1, by omega, H3.out.2⟩
theorem compact_snoc {α : Type} [DecidableEq α] (y x : α) : ∀ l : List α, compactL (l ++ [y] ++ [x]) = if y = x then compactL (l ++ [y]) else compactL (l ++ [y]) ++ [x]
  | [] => by
    show compactL [y, x] = if y = x then compactL [y] else compactL [y] ++ [x]
    by_cases h : y = x
    · subst h; simp [compactL]
    · simp [compactL, h]
  | a :: r => by
    have ih := compact_snoc y x r
    rw [List.cons_append, List.cons_append]
    cases hr : r ++ [y] with
    | nil => simp at hr
    | cons c t =>
      rw [hr] at ih
      rw [List.cons_append] at ih ⊢
      rw [compactL, compactL, ih]
      by_cases h1 : a = c
      · rw [if_pos h1, if_pos h1]
      · rw [if_neg h1, if_neg h1]
        by_cases h2 : y = x
        · rw [if_pos h2, if_pos h2]
        · rw [if_neg h2, if_neg h2, List.cons_append]
theorem compact_take {α : Type} [DecidableEq α] {l : List α} {j : Nat} {x y : α} (hy : l[j]? = some y) (hx : l[j + 1]? = some x) : compactL (l.take (j + 1 + 1)) = if y = x then compactL (l.take (j + 1)) else compactL (l.take (j + 1)) ++ [x] := by
  rw [List.take_add_one, hx, List.take_add_one, hy, Option.toList_some, Option.toList_some, compact_snoc]
structure CmpI (l0 : List Spt) (n0 k j : Nat) (L : List Spt) : Prop where
  len : L.length = n0
  took : L.take k = compactL (l0.take (j + 1))
  rest : L.drop j = l0.drop j
theorem CmpI.at {l0 L : List Spt} {n0 k j i : Nat} (h : CmpI l0 n0 k j L) (hi : j ≤ i) : L[i]? = l0[i]? := by
  have := congrArg (·[i - j]?) h.rest
  simp only [List.getElem?_drop] at this
  rwa [show j + (i - j) = i by omega] at this
theorem CmpI.gone {l0 L : List Spt} {n0 k j : Nat} (h : CmpI l0 n0 k j L) {x : Spt} (hy : l0[j]? = some x) (hx : l0[j + 1]? = some x) : CmpI l0 n0 k (j + 1) L := ⟨h.len, by
  rw [compact_take hy hx, if_pos rfl, h.took], by
  rw [← List.drop_drop, ← List.drop_drop, h.rest]⟩
theorem CmpI.kept {l0 L : List Spt} {n0 k j : Nat} (h : CmpI l0 n0 k j L) {x y : Spt} (hy : l0[j]? = some y) (hx : l0[j + 1]? = some x) (hne : ¬ x = y) (hk : k ≤ j) (hj : j < n0) : CmpI l0 n0 (k + 1) (j + 1) (L.set k x) := ⟨by rw [List.length_set, h.len], by
  have hkL : k < L.length := by rw [h.len]; omega
  rw [List.take_add_one, List.take_set, List.set_eq_of_length_le (by rw [List.length_take]; omega), h.took, List.getElem?_set_self hkL, compact_take hy hx, if_neg (fun e => hne e.symm)]
  rfl, by
  rw [List.drop_set_of_lt (by omega), ← List.drop_drop, ← List.drop_drop, h.rest]⟩
theorem CmpI.done {l0 L : List Spt} {n0 k j : Nat} (h : CmpI l0 n0 k j L) (h0 : l0.length = n0) (hj : n0 ≤ j + 1) (hk : k ≤ n0) : L.take k = compactL l0 ∧ (compactL l0).length = k := by
  have h1 := h.took
  rw [List.take_of_length_le (by omega : l0.length ≤ j + 1)] at h1
  exact ⟨h1, by rw [← h1, List.length_take, h.len]; omega⟩
theorem spot_load {w : World} {g o : Nat} {l : List Spt} (h : Cells w (some ⟨g, o, none⟩) (l.flatMap encSpot)) {k m : Nat} {s : ByteArray} {i : Int} (hk : l[k]? = some (s, i)) (hm : m = o + k * 2) : (loadVar 25 ⟨g, m, none⟩).run Tryd.prog w = .ok (.agg #[.string s, .int .i64 i]) w ∧ w.cell? ⟨g, m, none⟩ = some (.string s) ∧ w.cell? ⟨g, m + 1, none⟩ = some (.int .i64 i) := by
  subst hm
  refine ⟨spot_cells h hk, ?_, ?_⟩
  · have := h.some_ _ _ (flat_get encSpot 2 l (fun _ => rfl) k 0 _ hk (by omega))
    rwa [addr_add] at this
  · have := h.some_ _ _ (flat_get encSpot 2 l (fun _ => rfl) k 1 _ hk (by omega))
    rwa [addr_add, ← Nat.add_assoc] at this
set_option maxHeartbeats 4000000 in
set_option maxRecDepth 100000 in
theorem spt_compact (E : Env) (q : HP) (A0 : Option Addr) (l0 : List Spt) (n0 c0 : Nat) (w : World) (e0 : l0.length = n0) (k0 : n0 ≤ 1000000000)
    (hw : Sat E w (HP.row 25 2 (.slice A0 n0 c0) n0 (l0.flatMap encSpot) * q)) :
    Calls Tryd.prog 34 #[.slice A0 n0 c0] w fun e w' => ∃ m cs, e = .returned (.slice A0 m c0) ∧ (compactL l0).length = m ∧ m ≤ n0 ∧ cs.take (m * 2) = (compactL l0).flatMap encSpot ∧ Sat E w' (HP.row 25 2 (.slice A0 n0 c0) n0 cs * q) := by
  obtain ⟨A', c', hv, hnc, hcm⟩ := hw.row_slice
  simp only [Value.slice.injEq, true_and] at hv
  obtain ⟨rfl, rfl⟩ := hv
  have HW := Aside.mk (And.intro hw e0)
  clear hw e0
  go_enter Tryd.func34, Tryd.ntmps34
  by_cases h2 : n0 < 2
  · have h2i : (n0 : Int) < 2 := by omega
    have hc : Aside (compactL l0 = l0) := ⟨by
      have := HW.out.2
      match l0, this with
      | [], _ => rfl
      | [x], _ => rfl
      | x :: y :: r, h => simp at h; omega⟩
    go_wp2
    go_ret
    rw [hc.out]
    exact ⟨n0, _, rfl, HW.out.2, Nat.le_refl _, List.take_of_length_le (by rw [spt_length, HW.out.2]; exact Nat.le_refl _), HW.out.1⟩
  · have h2i : ¬ (n0 : Int) < 2 := by omega
    obtain ⟨g0, o0, rfl⟩ : ∃ g o, A0 = some ⟨g, o, none⟩ := by
      obtain ⟨x, hx⟩ : ∃ x, l0[0]? = some x := ⟨_, List.getElem?_eq_getElem (by rw [HW.out.2]; omega)⟩
      obtain ⟨g0, o0, hA, -, -⟩ := spot_at HW.out.1.row_cells hx
      exact ⟨g0, o0, hA⟩
    have HST : Aside (compactL (l0.take 1) = l0.take 1) := ⟨by
      have := HW.out.2
      match l0, this with
      | [], _ => rfl
      | x :: r, h => rfl⟩
    go_wp2
    go_loopw [3] (fun v3 wr => ∃ t k : Nat, v3 = .int .i64 k ∧ k ≤ n0 ∧ Aside (k = t + 1) ∧ Aside (compactL (l0.take k) = l0.take k) ∧ Aside (Sat E wr (HP.row 25 2 (.slice (some ⟨g0, o0, none⟩) n0 c0) n0 (l0.flatMap encSpot) * q))) (fun x _ => n0 - (intOf x).toNat)
    case atStart => exact ⟨0, 1, rfl, by omega, ⟨rfl⟩, HST, ⟨HW.out.1⟩⟩
    case round =>
      clear HST
      obtain ⟨t, k, rfl, hk, HTK, HC, HS⟩ := hrel
      have htk := HTK.out
      by_cases hlt : k < n0
      · have hlt2 : (k : Int) < (n0 : Int) := by omega
        have hk2 : (0 : Int) ≤ (k : Int) := by omega
        have hsub : (k : Int) - 1 = (t : Int) := by omega
        have ht2 : (0 : Int) ≤ (t : Int) := by omega
        have ht3 : (t : Int) < (n0 : Int) := by omega
        obtain ⟨⟨s, i⟩, hx⟩ : ∃ x, l0[k]? = some x := ⟨_, List.getElem?_eq_getElem (by rw [HW.out.2]; exact hlt)⟩
        obtain ⟨⟨s', i'⟩, hy⟩ : ∃ y, l0[t]? = some y := ⟨_, List.getElem?_eq_getElem (by rw [HW.out.2]; omega)⟩
        have ld0 := (spot_load HS.out.drew.row_cells hx rfl).1
        have ld1 := (spot_load HS.out.drew.row_cells hy rfl).1
        have HXY : Aside (l0[t]? = some (s', i') ∧ l0[t + 1]? = some (s, i)) := ⟨hy, by rw [← htk]; exact hx⟩
        have HS2 := Aside.mk HS.out.drew
        clear hx hy HS htk
        go_wp2
        refine region_R [] [] (fun _ => True) #[false, false, false, false, false, false, false, false, false, false] (by kernel_rfl) rfl rfl ?_
        refine wpR_rd 0 #[true, false, false, false, false, false, false, false, false, false] rfl onlyN_noPanic (by kernel_rfl) (fun K hK => ?_); (go_simp; try go_bits); refine hK _ ?_; clear hK K
        refine wpR_rd 1 #[true, true, false, false, false, false, false, false, false, false] rfl onlyN_noPanic (by kernel_rfl) (fun K hK => ?_); (go_simp; try go_bits); refine hK _ ?_; clear hK K
        refine wpR_rd 2 #[true, true, true, false, false, false, false, false, false, false] rfl onlyN_noPanic (by kernel_rfl) (fun K hK => ?_); (go_simp; try go_bits); refine hK _ ?_; clear hK K
        refine wpR_read (i := 3) #[true, true, true, true, false, false, false, false, false, false] rfl onlyN_noPanic (by kernel_rfl) (.inl ⟨rfl, exec_load rfl rfl ld0⟩) ?_
        simp only [Act.put, List.setIfInBounds_toArray, List.set_cons_zero, List.set_cons_succ]
        refine wpR_rd 4 #[true, true, true, true, true, false, false, false, false, false] rfl onlyN_noPanic (by kernel_rfl) (fun K hK => ?_); (go_simp; try go_bits); refine hK _ ?_; clear hK K
        refine wpR_rd 5 #[true, true, true, true, true, true, false, false, false, false] rfl onlyN_noPanic (by kernel_rfl) (fun K hK => ?_); (go_simp; try go_bits); refine hK _ ?_; clear hK K
        refine wpR_rd 6 #[true, true, true, true, true, true, true, false, false, false] rfl onlyN_noPanic (by kernel_rfl) (fun K hK => ?_); (go_simp; try go_bits); refine hK _ ?_; clear hK K
        refine wpR_rd 7 #[true, true, true, true, true, true, true, true, false, false] rfl onlyN_noPanic (by kernel_rfl) (fun K hK => ?_); (go_simp; try go_bits); refine hK _ ?_; clear hK K
        refine wpR_read (i := 8) #[true, true, true, true, true, true, true, true, true, false] rfl onlyN_noPanic (by kernel_rfl) (.inl ⟨rfl, exec_load rfl rfl ld1⟩) ?_
        simp only [Act.put, List.setIfInBounds_toArray, List.set_cons_zero, List.set_cons_succ]
        refine wpR_read (i := 9) #[true, true, true, true, true, true, true, true, true, true] rfl onlyN_noPanic (by kernel_rfl) (.inl ⟨rfl, exec_binop rfl rfl rfl (run_eqGuard_agg _ .eql 25 _ _ _ _ (by kernel_rfl)) (eq_spot _ _ _ _ _)⟩) ?_
        simp only [Act.put, List.setIfInBounds_toArray, List.set_cons_zero, List.set_cons_succ]
        refine wpR_done (by kernel_rfl) ?_ _
        simp only [OnlyN]
        clear ld0 ld1
        by_cases hxy : (s, i) = (s', i')
        · rw [decide_eq_true hxy]
          have HI : Aside (CmpI l0 n0 k k l0) := ⟨⟨HW.out.2, by
            have := compact_take HXY.out.1 HXY.out.2
            rw [if_pos hxy.symm, ← HTK.out] at this
            rw [this, HC.out], rfl⟩⟩
          clear hxy HXY HC
          have hc1 : k ≤ c0 := by omega
          have hc2 : ¬ c0 = k := by omega
          have hc3 : (k : Int) ≤ (c0 : Int) := by omega
          have hc4 : (k : Int) ≤ (n0 : Int) := by omega
          go_wp2
          go_loopw [3, 5] (fun v3 v5 wq => ∃ a b j : Nat, v3 = .int .i64 a ∧ v5 = .int .i64 b ∧ k + j < n0 ∧ a ≤ k + j ∧ Aside (b = j + 1) ∧ Aside (∃ L, CmpI l0 n0 a (k + j) L ∧ Sat E wq (HP.row 25 2 (.slice (some ⟨g0, o0, none⟩) n0 c0) n0 (L.flatMap encSpot) * q))) (fun _ x _ => n0 - (intOf x).toNat)
          case atStart => exact ⟨k, 1, 0, rfl, rfl, by omega, by omega, ⟨rfl⟩, ⟨l0, HI.out, HS2.out⟩⟩
          case round =>
            clear HI HS2
            obtain ⟨a, b, j, rfl, rfl, hkj, hak, HBJ, HS⟩ := hrel
            have hbj := HBJ.out
            obtain ⟨L, hL, hs⟩ := HS.out
            clear HS
            by_cases hlb : k + b < n0
            · have hb1 : (b : Int) < ((n0 - k : Nat) : Int) := by omega
              have hb2 : (0 : Int) ≤ (b : Int) := by omega
              have hsb : (b : Int) - 1 = (j : Int) := by omega
              have hj2 : (0 : Int) ≤ (j : Int) := by omega
              have hj3 : (j : Int) < ((n0 - k : Nat) : Int) := by omega
              have ha2 : (0 : Int) ≤ (a : Int) := by omega
              have ha3 : (a : Int) < (n0 : Int) := by omega
              obtain ⟨⟨s, i⟩, hx⟩ : ∃ x, l0[k + j + 1]? = some x := ⟨_, List.getElem?_eq_getElem (by rw [HW.out.2]; omega)⟩
              obtain ⟨⟨s', i'⟩, hy⟩ : ∃ y, l0[k + j]? = some y := ⟨_, List.getElem?_eq_getElem (by rw [HW.out.2]; omega)⟩
              obtain ⟨ld0, x0, x1⟩ := spot_load hs.drew.row_cells ((hL.at (by omega)).trans hx) (show o0 + k * 2 + b * 2 = _ by omega)
              obtain ⟨ld1, -, -⟩ := spot_load hs.drew.row_cells ((hL.at (by omega)).trans hy) (show o0 + k * 2 + j * 2 = _ by omega)
              obtain ⟨z, hz⟩ : ∃ z, L[a]? = some z := ⟨_, List.getElem?_eq_getElem (by rw [hL.len]; omega)⟩
              obtain ⟨-, z0, z1⟩ := spot_load hs.drew.row_cells hz rfl
              have hlen : a * 2 + 1 < (L.flatMap encSpot).length := by rw [spt_length, hL.len]; omega
              have t0 := hs.drew.row_thaw (a * 2) (by omega)
              have t1 := hs.drew.row_thaw (a * 2 + 1) hlen
              rw [← Nat.add_assoc] at t1
              have s0 := hs.drew.row_set (a * 2) (by omega) (.string s)
              have s1 := s0.row_set (a * 2 + 1) (by rw [List.length_set]; exact hlen) (.int .i64 i)
              rw [flat_set2 L a (s, i) (by rw [hL.len]; omega), ← Nat.add_assoc] at s1
              have HL := Aside.mk (And.intro hL (And.intro hx (And.intro hy (And.intro hs.drew s1))))
              clear hx hy hz hL hs s0 s1 hlen hbj
              go_wp2
              refine region_R [] [] (fun _ => True) #[false, false, false, false, false, false, false, false, false, false] (by kernel_rfl) rfl rfl ?_
              refine wpR_rd 0 #[true, false, false, false, false, false, false, false, false, false] rfl onlyN_noPanic (by kernel_rfl) (fun K hK => ?_); (go_simp; try go_bits); refine hK _ ?_; clear hK K
              refine wpR_rd 1 #[true, true, false, false, false, false, false, false, false, false] rfl onlyN_noPanic (by kernel_rfl) (fun K hK => ?_); (go_simp; try go_bits); refine hK _ ?_; clear hK K
              refine wpR_rd 2 #[true, true, true, false, false, false, false, false, false, false] rfl onlyN_noPanic (by kernel_rfl) (fun K hK => ?_); (go_simp; try go_bits); refine hK _ ?_; clear hK K
              refine wpR_read (i := 3) #[true, true, true, true, false, false, false, false, false, false] rfl onlyN_noPanic (by kernel_rfl) (.inl ⟨rfl, exec_load rfl rfl ld0⟩) ?_
              simp only [Act.put, List.setIfInBounds_toArray, List.set_cons_zero, List.set_cons_succ]
              refine wpR_rd 4 #[true, true, true, true, true, false, false, false, false, false] rfl onlyN_noPanic (by kernel_rfl) (fun K hK => ?_); (go_simp; try go_bits); refine hK _ ?_; clear hK K
              refine wpR_rd 5 #[true, true, true, true, true, true, false, false, false, false] rfl onlyN_noPanic (by kernel_rfl) (fun K hK => ?_); (go_simp; try go_bits); refine hK _ ?_; clear hK K
              refine wpR_rd 6 #[true, true, true, true, true, true, true, false, false, false] rfl onlyN_noPanic (by kernel_rfl) (fun K hK => ?_); (go_simp; try go_bits); refine hK _ ?_; clear hK K
              refine wpR_rd 7 #[true, true, true, true, true, true, true, true, false, false] rfl onlyN_noPanic (by kernel_rfl) (fun K hK => ?_); (go_simp; try go_bits); refine hK _ ?_; clear hK K
              refine wpR_read (i := 8) #[true, true, true, true, true, true, true, true, true, false] rfl onlyN_noPanic (by kernel_rfl) (.inl ⟨rfl, exec_load rfl rfl ld1⟩) ?_
              simp only [Act.put, List.setIfInBounds_toArray, List.set_cons_zero, List.set_cons_succ]
              refine wpR_read (i := 9) #[true, true, true, true, true, true, true, true, true, true] rfl onlyN_noPanic (by kernel_rfl) (.inl ⟨rfl, exec_binop rfl rfl rfl (run_eqGuard_agg _ .neq 25 _ _ _ _ (by kernel_rfl)) (neq_spot _ _ _ _ _)⟩) ?_
              simp only [Act.put, List.setIfInBounds_toArray, List.set_cons_zero, List.set_cons_succ]
              refine wpR_done (by kernel_rfl) ?_ _
              simp only [OnlyN]
              by_cases hxy : (s, i) = (s', i')
              · rw [decide_eq_true hxy, Bool.not_true]
                have H3 : Aside (∃ L, CmpI l0 n0 a (k + (j + 1)) L ∧ Sat E wr.drew (HP.row 25 2 (.slice (some ⟨g0, o0, none⟩) n0 c0) n0 (L.flatMap encSpot) * q)) := ⟨L, by
                  rw [← Nat.add_assoc]
                  exact HL.out.1.gone HL.out.2.2.1 (by rw [← hxy]; exact HL.out.2.1), HL.out.2.2.2.1⟩
                clear hxy HL ld0 ld1 x0 x1 z0 z1 t0 t1
                go_wp2
                go_roundw
                case rel => exact ⟨a, b + 1, j + 1, rfl, by go_num, by omega, by omega, ⟨by rw [HBJ.out]⟩, H3⟩
                case measure => simp [intOf]; omega
              · rw [decide_eq_false hxy, Bool.not_false]
                have H3 : Aside (∃ L, CmpI l0 n0 (a + 1) (k + (j + 1)) L ∧ Sat E ((wr.drew.setCell ⟨g0, o0 + a * 2, none⟩ (.string s)).setCell ⟨g0, o0 + a * 2 + 1, none⟩ (.int .i64 i)) (HP.row 25 2 (.slice (some ⟨g0, o0, none⟩) n0 c0) n0 (L.flatMap encSpot) * q)) := ⟨L.set a (s, i), by
                  rw [← Nat.add_assoc]
                  exact HL.out.1.kept HL.out.2.2.1 HL.out.2.1 hxy (by omega) (by omega), HL.out.2.2.2.2⟩
                clear hxy HL ld0 ld1
                obtain ⟨wd, hwd⟩ : ∃ wd : World, wd = wr.drew := ⟨_, rfl⟩
                rw [← hwd] at x0 x1 z0 z1 t0 t1 H3 ⊢
                clear hwd
                go_wp2
                go_roundw
                case rel => exact ⟨a + 1, b + 1, j + 1, by go_num, by go_num, by omega, by omega, ⟨by rw [HBJ.out]⟩, H3⟩
                case measure => simp [intOf]; omega
            · have hb1 : ¬ (b : Int) < ((n0 - k : Nat) : Int) := by omega
              have hcl := clear_spots wr g0 (o0 + a * 2) (n0 - a) (c0 - a) (by omega) (fun t ht => by
                have h1 : a * 2 + t < (L.flatMap encSpot).length := by rw [spt_length, hL.len]; omega
                have := hs.row_cells.some_ (a * 2 + t) _ (List.getElem?_eq_getElem h1)
                rw [addr_add, ← Nat.add_assoc] at this
                rw [this]; rfl) (fun t ht => by
                have := hs.row_thaw (a * 2 + t) (by rw [spt_length, hL.len]; omega)
                rwa [← Nat.add_assoc] at this)
              obtain ⟨cs', hcs, hs2⟩ := Sat.row_sets (j := a * 2) (Builtin.zeroCells #[.string ⟨#[]⟩, .int .i64 0] (n0 - a)).toList (a * 2) (Nat.le_refl _) hs (by rw [zeroSp_length, spt_length, hL.len]; omega)
              have hd := hL.done HW.out.2 (by omega) (by omega)
              rw [flat_take2, hd.1] at hcs
              have H3 := Aside.mk (And.intro hd.2 (And.intro hcs hs2))
              have ha2 : (0 : Int) ≤ (a : Int) := by omega
              have ha3 : (a : Int) ≤ (n0 : Int) := by omega
              have ha4 : a ≤ c0 := by omega
              have ha5 : ¬ c0 = a := by omega
              have ha6 : (a : Int) ≤ (c0 : Int) := by omega
              clear hs hL hcs hs2 hd hbj
              go_wp2
              go_ret
              exact ⟨a, rfl, H3.out.1, by omega, cs', H3.out.2.1, H3.out.2.2⟩
        · rw [decide_eq_false hxy]
          have HC2 : Aside (compactL (l0.take (k + 1)) = l0.take (k + 1)) := ⟨by
            have := compact_take HXY.out.1 HXY.out.2
            rw [if_neg (fun e => hxy e.symm), ← HTK.out, HC.out] at this
            rw [this, List.take_add_one]
            rw [show l0[k]? = some (s, i) by rw [HTK.out]; exact HXY.out.2]
            rfl⟩
          clear hxy HXY HC
          go_wp2
          go_roundw
          case rel => exact ⟨k, k + 1, by go_num, by omega, ⟨rfl⟩, HC2, HS2⟩
          case measure => simp [intOf]; omega
      · clear htk
        obtain rfl : n0 = k := by omega
        have hkk : ¬ (n0 : Int) < (n0 : Int) := by omega
        have hc : Aside (compactL l0 = l0) := ⟨by
          have := HC.out
          rwa [List.take_of_length_le (by rw [HW.out.2]; exact Nat.le_refl _)] at this⟩
        go_wp2
        go_ret
        rw [hc.out]
        exact ⟨n0, rfl, HW.out.2, Nat.le_refl _, _, List.take_of_length_le (by rw [spt_length, HW.out.2]; exact Nat.le_refl _), HS.out⟩
end Go.Proofs.YtnpinegpajbkeaaDoor
