/- Texts of one claim, one behind the other: CmpA, DamC, DamS, ScrP, ScrA, ScrS, ScrB, ScrM, LsP, RefC3, RefD3. -/
import Derived.Test.YtnpinegpajbkeaaGreatDoorMe8
import Derived.Laws.Cover1
import Derived.Sort.Grow
import Derived.Sort.Statements
import Derived.Shelf.SlIter.Nil
set_option linter.unusedSimpArgs false
set_option linter.unusedVariables false
namespace Go.Proofs.YtnpinegpajbkeaaGreatDoor
open Go.RowKit HP
def cmpS (a b : ByteArray) : Int := if ltN a b = true then -1 else if ltN b a = true then 1 else 0
def cmpI (a b : Int) : Int := if a < b then -1 else if b < a then 1 else 0
def orL (l : List Int) : Int := (l.find? (fun x => decide (x ≠ 0))).getD 0
set_option maxHeartbeats 1000000 in
theorem isNaN_str (a : ByteArray) (w : World) : Calls Tryz.prog 155 #[.string a] w fun e w' => e = .returned (.bool false) ∧ w' = w := by
  go_enter Tryz.func155, Tryz.ntmps155
  go_wp2
  go_ret
  exact ⟨rfl, rfl⟩
set_option maxHeartbeats 1000000 in
theorem isNaN_int (a : Int) (w : World) : Calls Tryz.prog 156 #[.int .i64 a] w fun e w' => e = .returned (.bool false) ∧ w' = w := by
  go_enter Tryz.func156, Tryz.ntmps156
  go_wp2
  go_ret
  exact ⟨rfl, rfl⟩
theorem gtr_less (a b : ByteArray) : (!(Op.bytesLess a.toList b.toList || a.toList == b.toList)) = Op.bytesLess b.toList a.toList := by
  by_cases h : a.toList = b.toList
  · rw [h, bytesLess_irrefl]; simp
  · cases h1 : Op.bytesLess a.toList b.toList with
    | true =>
      cases h2 : Op.bytesLess b.toList a.toList with
      | false => rfl
      | true =>
        have := bytesLess_trans h1 h2
        rw [bytesLess_irrefl] at this
        cases this
    | false => rw [bytesLess_total h1 h]; simp [h]
set_option maxHeartbeats 1000000 in
theorem compare_str (a b : ByteArray) (w : World) : Calls Tryz.prog 126 #[.string a, .string b] w fun e w' => e = .returned (.int .i64 (cmpS a b)) ∧ w' = w := by
  have hg := gtr_less a b
  go_enter Tryz.func126, Tryz.ntmps126
  go_wp2_with fail
  refine (isNaN_str a _).mono ?_
  rintro e w1 ⟨rfl, rfl⟩
  go_wp2_with fail
  refine (isNaN_str b _).mono ?_
  rintro e w1 ⟨rfl, rfl⟩
  go_wp2
  all_goals (go_ret; refine ⟨?_, rfl⟩; unfold cmpS ltN; rw [← hg]; simp_all)
set_option maxHeartbeats 1000000 in
theorem compare_int (a b : Int) (w : World) : Calls Tryz.prog 127 #[.int .i64 a, .int .i64 b] w fun e w' => e = .returned (.int .i64 (cmpI a b)) ∧ w' = w := by
  go_enter Tryz.func127, Tryz.ntmps127
  go_wp2_with fail
  refine (isNaN_int a _).mono ?_
  rintro e w1 ⟨rfl, rfl⟩
  go_wp2_with fail
  refine (isNaN_int b _).mono ?_
  rintro e w1 ⟨rfl, rfl⟩
  go_wp2
  all_goals (go_ret; refine ⟨?_, rfl⟩; unfold cmpI; first | (rw [if_pos (by omega)]; rfl) | (rw [if_neg (by omega), if_pos (by omega)]; rfl) | (rw [if_neg (by omega), if_neg (by omega)]; rfl))
set_option maxHeartbeats 1000000 in
theorem cmp_or2 (x y : Int) (A : Addr) (c : Nat) (w : World) (h : Cells w (some A) [.int .i64 x, .int .i64 y]) : Calls Tryz.prog 125 #[.slice (some A) 2 c] w fun e w' => e = .returned (.int .i64 (if x = 0 then y else x)) ∧ w' = w := by
  obtain ⟨g, o, rfl⟩ := slice_addr h rfl (k := 0) (by simp)
  have g0 : w.cell? ⟨g, o, none⟩ = some (.int .i64 x) := by
    obtain ⟨a, ha, hc⟩ := h.at_ 0 (by simp)
    cases ha
    exact hc
  have g1 : w.cell? ⟨g, o + 1, none⟩ = some (.int .i64 y) := by
    obtain ⟨a, ha, hc⟩ := h.at_ 1 (by simp)
    cases ha
    exact hc
  clear h
  go_enter Tryz.func125, Tryz.ntmps125
  go_wp2
  go_loopw [8] (fun v8 wr => ∃ k : Nat, k ≤ 2 ∧ v8 = .int .i64 k ∧ wr = w ∧ (0 < k → x = 0) ∧ (1 < k → y = 0)) (fun i _ => 2 - (intOf i).toNat)
  case atStart => exact ⟨0, by omega, rfl, rfl, by omega, by omega⟩
  case round =>
    obtain ⟨k, hk, rfl, rfl, hkx, hky⟩ := hrel
    have hc : k = 0 ∨ k = 1 ∨ k = 2 := by omega
    rcases hc with h0 | h0 | h0 <;> subst h0
    · clear hkx hky
      by_cases hx : x = 0
      · subst hx
        go_wp2
        go_roundw
        case rel => exact ⟨1, by omega, by simp, by simp, by simp, by simp⟩
        case measure => simp [intOf]
      · have hxb : (x == 0) = false := by rw [beq_eq_false_iff_ne]; exact hx
        go_wp2
        all_goals (go_ret; exact ⟨rfl, rfl⟩)
    · have hx := hkx (by omega)
      subst hx
      clear hkx hky
      by_cases hy : y = 0
      · subst hy
        go_wp2
        go_roundw
        case rel => exact ⟨2, by omega, by simp, by simp, by simp, by simp⟩
        case measure => simp [intOf]
      · have hyb : (y == 0) = false := by rw [beq_eq_false_iff_ne]; exact hy
        go_wp2
        all_goals (go_ret; exact ⟨rfl, rfl⟩)
    · have hx := hkx (by omega)
      have hy := hky (by omega)
      subst hx
      subst hy
      go_wp2
      go_ret
      exact ⟨rfl, rfl⟩
end Go.Proofs.YtnpinegpajbkeaaGreatDoor
namespace Go.Proofs.YtnpinegpajbkeaaGreatDoor
open Go.RowKit Go.Sort HP
def encSpot (x : ByteArray × Int) : List Value := [.string x.1, .int .i64 x.2]
def cmpSpot (x y : ByteArray × Int) : Int := if cmpS x.1 y.1 = 0 then cmpI x.2 y.2 else cmpS x.1 y.1
set_option maxHeartbeats 2000000 in
set_option maxRecDepth 100000 in
theorem damaged_cmp (s t : ByteArray) (i j : Int) (W : World) : Calls Tryz.prog 124 #[.agg #[.string s, .int .i64 i], .agg #[.string t, .int .i64 j]] W fun e w' => e = .returned (.int .i64 (if cmpS s t = 0 then cmpI i j else cmpS s t)) ∧ ∃ q os', w' = grow (W.drewN q) os' := by
  have a0 := fun k => Sat.cell (Sat.s2 ((((Sat.nothing (w := W)).alloc (.cells #[.string s, .int .i64 i] 68)).alloc (.cells #[.string t, .int .i64 j] 68)).drew)) k
  have a1 := fun k => Sat.cell ((((Sat.nothing (w := W)).alloc (.cells #[.string s, .int .i64 i] 68)).alloc (.cells #[.string t, .int .i64 j] 68)).drew) k
  rw [show (W.alloc (.cells #[.string s, .int .i64 i] 68)).heap.size = W.heap.size + 1 by simp] at a1
  have g0 := a0 0
  have g1 := a0 1
  have g2 := a1 0
  have g3 := a1 1
  simp only [List.getElem?_toArray, List.getElem?_cons_zero, List.getElem?_cons_succ] at g0 g1 g2 g3
  clear a0 a1
  have hcs := compare_str s t
  have hci := compare_int i j
  generalize cmpS s t = x at *
  generalize cmpI i j = y at *
  obtain ⟨z, hz⟩ : ∃ z, z = if x = 0 then y else x := ⟨_, rfl⟩
  rw [← hz]
  have HZ := Aside.mk hz
  clear hz
  go_enter Tryz.func124, Tryz.ntmps124
  go_wp2
  refine region_R [4, 9, 10, 11] [4, 9] (fun w => w = (((W.alloc (.cells #[.string s, .int .i64 i] 68)).alloc (.cells #[.string t, .int .i64 j] 68)).drew)) #[false, false, false, false, false, false, false, false, false, false, false, false, false] (by kernel_rfl) rfl rfl ?_
  refine wpR_rd 0 #[true, false, false, false, false, false, false, false, false, false, false, false, false] rfl onlyN_noPanic (by kernel_rfl) (fun K hK => ?_); (go_simp; try go_bits); refine hK _ ?_; clear hK K
  refine wpR_rd 1 #[true, true, false, false, false, false, false, false, false, false, false, false, false] rfl onlyN_noPanic (by kernel_rfl) (fun K hK => ?_); (go_simp; try go_bits); refine hK _ ?_; clear hK K
  refine wpR_rd 2 #[true, true, true, false, false, false, false, false, false, false, false, false, false] rfl onlyN_noPanic (by kernel_rfl) (fun K hK => ?_); (go_simp; try go_bits); refine hK _ ?_; clear hK K
  refine wpR_rd 3 #[true, true, true, true, false, false, false, false, false, false, false, false, false] rfl onlyN_noPanic (by kernel_rfl) (fun K hK => ?_); (go_simp; try go_bits); refine hK _ ?_; clear hK K
  refine wpR_pu 5 #[true, true, true, true, false, true, false, false, false, false, false, false, false] rfl onlyN_noPanic (by kernel_rfl) (fun K hK => ?_); (go_simp; try go_bits); refine hK _ ?_; clear hK K
  refine wpR_held (i := 6) (v := .int .i64 i) #[true, true, true, true, false, true, true, false, false, false, false, false, false] rfl onlyN_noPanic (by kernel_rfl) rfl (.inl ⟨rfl, fun w' hT => ?_⟩) ?_
  · subst hT; go_simp
  simp only [Act.put, List.setIfInBounds_toArray, List.set_cons_zero, List.set_cons_succ]
  refine wpR_pu 7 #[true, true, true, true, false, true, true, true, false, false, false, false, false] rfl onlyN_noPanic (by kernel_rfl) (fun K hK => ?_); (go_simp; try go_bits); refine hK _ ?_; clear hK K
  refine wpR_held (i := 8) (v := .int .i64 j) #[true, true, true, true, false, true, true, true, true, false, false, false, false] rfl onlyN_noPanic (by kernel_rfl) rfl (.inl ⟨rfl, fun w' hT => ?_⟩) ?_
  · subst hT; go_simp
  simp only [Act.put, List.setIfInBounds_toArray, List.set_cons_zero, List.set_cons_succ]
  refine wpR_keep #[true, true, true, true, true, true, true, true, true, false, false, false, false] (i := 4) rfl (by kernel_rfl) (fun K hK => ?_)
  go_simp; refine (hcs _).mono ?_; rintro e w5 ⟨rfl, hw5⟩; subst w5; refine hK _ _ rfl ?_; clear hK K
  refine wpR_keep #[true, true, true, true, true, true, true, true, true, true, false, false, false] (i := 9) rfl (by kernel_rfl) (fun K hK => ?_)
  go_simp; refine (hci _).mono ?_; rintro e w5 ⟨rfl, hw5⟩; subst w5; refine hK _ _ rfl ?_; clear hK K
  obtain ⟨W2, hW2⟩ : ∃ W2, W2 = (((W.alloc (.cells #[.string s, .int .i64 i] 68)).alloc (.cells #[.string t, .int .i64 j] 68)).drew) := ⟨_, rfl⟩
  rw [← hW2]
  have HW2 := Aside.mk hW2
  clear g0 g1 g2 g3 hW2
  refine wpR_eff #[true, true, true, true, true, true, true, true, true, true, true, false, false] (i := 10) rfl (by kernel_rfl) (fun K hK => ?_)
  go_simp; refine hK _ _ ?_; clear hK K
  have hc := Cells.fresh W2 [.int .i64 (x), .int .i64 (y)] 3 (0, 0)
  refine wpR_eff #[true, true, true, true, true, true, true, true, true, true, true, true, false] (i := 11) rfl (by kernel_rfl) (fun K hK => ?_)
  go_simp; refine (cmp_or2 (x) (y) _ _ _ hc).mono ?_; rintro e w5 ⟨rfl, hw5⟩; subst w5; rw [← HZ.out]; refine hK _ _ ?_; clear hK K
  refine wpR_rd 12 #[true, true, true, true, true, true, true, true, true, true, true, true, true] rfl onlyN_noPanic (by kernel_rfl) (fun K hK => ?_); (go_simp; try go_bits); refine hK _ ?_; clear hK K
  refine wpR_done (by kernel_rfl) ?_ _
  simp only [OnlyN]
  clear hc
  go_wp2
  go_ret
  refine ⟨rfl, 1, #[.cells #[.string s, .int .i64 i] 68, .cells #[.string t, .int .i64 j] 68, .cells #[.int .i64 x, .int .i64 y] 3], ?_⟩
  rw [HW2.out]
  simp only [alloc_eq_grow, drew_grow, grow_grow]
  rfl
def ltC {α : Type} (cf : α → α → Int) (x y : α) : Bool := decide (cf x y < 0)
theorem cmpS_zero {a b : ByteArray} : cmpS a b = 0 ↔ a = b := by
  unfold cmpS
  constructor
  · intro h
    split at h
    · omega
    · rename_i h1
      split at h
      · omega
      · rename_i h2
        by_cases e : a = b
        · exact e
        · exact absurd (ltN_total (by simpa using h1) e) h2
  · rintro rfl
    rw [ltN_irrefl]
    rfl
theorem ltSpot_iff (x y : ByteArray × Int) : ltC cmpSpot x y = true ↔ ltN x.1 y.1 = true ∨ x.1 = y.1 ∧ x.2 < y.2 := by
  unfold ltC cmpSpot
  rw [decide_eq_true_eq]
  by_cases e : x.1 = y.1
  · rw [if_pos (cmpS_zero.2 e), e, ltN_irrefl]
    unfold cmpI
    constructor
    · intro h
      refine .inr ⟨rfl, ?_⟩
      split at h
      · assumption
      · split at h <;> omega
    · rintro (h | ⟨-, h⟩)
      · cases h
      · rw [if_pos h]; omega
  · rw [if_neg (fun h => e (cmpS_zero.1 h))]
    unfold cmpS
    constructor
    · intro h
      left
      split at h
      · assumption
      · split at h <;> omega
    · rintro (h | ⟨h, -⟩)
      · rw [if_pos h]; omega
      · exact absurd h e
theorem ltSpot_irrefl (x : ByteArray × Int) : ltC cmpSpot x x = false := by
  rw [Bool.eq_false_iff]
  intro h
  rcases (ltSpot_iff x x).1 h with h | h
  · rw [ltN_irrefl] at h; cases h
  · omega
theorem ltSpot_trans {x y z : ByteArray × Int} (h1 : ltC cmpSpot x y = true) (h2 : ltC cmpSpot y z = true) : ltC cmpSpot x z = true := by
  rw [ltSpot_iff] at *
  rcases h1 with h1 | ⟨e1, h1⟩ <;> rcases h2 with h2 | ⟨e2, h2⟩
  · exact .inl (ltN_trans h1 h2)
  · exact .inl (by rw [← e2]; exact h1)
  · exact .inl (by rw [e1]; exact h2)
  · exact .inr ⟨e1.trans e2, by omega⟩
theorem ltSpot_total {x y : ByteArray × Int} (h1 : ltC cmpSpot x y = false) (h2 : ltC cmpSpot y x = false) : x = y := by
  have n1 : ¬ (ltN x.1 y.1 = true ∨ x.1 = y.1 ∧ x.2 < y.2) := fun h => by have := (ltSpot_iff x y).2 h; rw [h1] at this; cases this
  have n2 : ¬ (ltN y.1 x.1 = true ∨ y.1 = x.1 ∧ y.2 < x.2) := fun h => by have := (ltSpot_iff y x).2 h; rw [h2] at this; cases this
  have e : x.1 = y.1 := by
    by_cases e : x.1 = y.1
    · exact e
    · cases h : ltN x.1 y.1 with
      | true => exact (n1 (.inl h)).elim
      | false => exact (n2 (.inl (ltN_total h e))).elim
  have e2 : x.2 = y.2 := by
    rcases Int.lt_trichotomy x.2 y.2 with h | h | h
    · exact (n1 (.inr ⟨e, h⟩)).elim
    · exact h
    · exact (n2 (.inr ⟨e.symm, h⟩)).elim
  exact Prod.ext e e2
theorem ltSpot_ntrans {x y z : ByteArray × Int} (h1 : ltC cmpSpot x y = false) (h2 : ltC cmpSpot y z = false) : ltC cmpSpot x z = false := by
  cases h : ltC cmpSpot x z with
  | false => rfl
  | true =>
    cases h3 : ltC cmpSpot y x with
    | true =>
      have := ltSpot_trans h3 h
      rw [h2] at this; cases this
    | false =>
      obtain rfl := ltSpot_total h1 h3
      rw [h2] at h; cases h
theorem swo_spot : SWO (ltC cmpSpot) := ⟨ltSpot_irrefl, fun _ _ _ h1 h2 => ltSpot_trans h1 h2, fun _ _ _ h1 h2 => ltSpot_ntrans h1 h2⟩
def Cel.bad (c : Cel) : Bool := decide (c.durable ≠ c.synced) && decide (c.durable ≠ c.written)
def spotsN (s : ByteArray) (l : List Cel) : Nat → List (ByteArray × Int)
  | 0 => []
  | k + 1 => spotsN s l k ++ if (l[k]?).any Cel.bad = true then [(s, (k : Int))] else []
def spotsF (x : ByteArray × List Cel) : List (ByteArray × Int) := spotsN x.1 x.2 x.2.length
def Dk.damaged (A : Dk) : List (ByteArray × Int) := A.files.flatMap spotsF
theorem spotsN_mem {s : ByteArray} {l : List Cel} : ∀ {k : Nat} {x : ByteArray × Int}, x ∈ spotsN s l k → x.1 = s ∧ ∃ i : Nat, i < k ∧ x.2 = i ∧ (l[i]?).any Cel.bad = true
  | 0, x, h => by cases h
  | k + 1, x, h => by
    rcases List.mem_append.1 h with h | h
    · obtain ⟨h1, i, h2, h3⟩ := spotsN_mem h
      exact ⟨h1, i, by omega, h3⟩
    · split at h
      · rename_i hb
        obtain rfl := List.mem_singleton.1 h
        exact ⟨rfl, k, by omega, rfl, hb⟩
      · cases h
theorem spotsN_length (s : ByteArray) (l : List Cel) : ∀ k, (spotsN s l k).length ≤ k
  | 0 => Nat.le_refl _
  | k + 1 => by
    have := spotsN_length s l k
    rw [spotsN, List.length_append]
    split
    · simp; omega
    · simp; omega
theorem spotsN_sorted (s : ByteArray) (l : List Cel) : ∀ k, (spotsN s l k).Pairwise fun x y => ltC cmpSpot x y = true
  | 0 => List.Pairwise.nil
  | k + 1 => by
    rw [spotsN, List.pairwise_append]
    refine ⟨spotsN_sorted s l k, by split <;> simp, fun x hx y hy => ?_⟩
    split at hy
    · obtain rfl := List.mem_singleton.1 hy
      obtain ⟨h1, i, h2, h3, -⟩ := spotsN_mem hx
      exact (ltSpot_iff _ _).2 (.inr ⟨h1, by show x.2 < (k : Int); omega⟩)
    · cases hy
theorem damaged_sorted {A : Dk} (hs : Sorted A.files) : A.damaged.Pairwise fun x y => ltC cmpSpot x y = true := by
  unfold Dk.damaged
  rw [List.pairwise_flatMap]
  refine ⟨fun x _ => spotsN_sorted _ _ _, hs.imp fun {x y} h a ha b hb => ?_⟩
  obtain ⟨h1, -⟩ := spotsN_mem ha
  obtain ⟨h2, -⟩ := spotsN_mem hb
  exact (ltSpot_iff _ _).2 (.inl (by rw [h1, h2]; exact h))
theorem sorted_damaged {A : Dk} (hs : Sorted A.files) {l : List (ByteArray × Int)} (h : l.Perm A.damaged) : (l.mergeSort fun x y => !(ltC cmpSpot) y x) = A.damaged := by
  refine List.Perm.eq_of_pairwise (le := fun x y => (!(ltC cmpSpot) y x) = true) (fun a b _ _ h1 h2 => ?_) ?_ ?_ ((List.mergeSort_perm _ _).trans h)
  · simp only [Bool.not_eq_true'] at h1 h2
    exact ltSpot_total h2 h1
  · refine List.pairwise_mergeSort (fun a b c h1 h2 => ?_) (fun a b => ?_) l
    · simp only [Bool.not_eq_true'] at h1 h2 ⊢
      exact ltSpot_ntrans h2 h1
    · cases h1 : ltC cmpSpot b a with
      | false => rfl
      | true =>
        cases h2 : ltC cmpSpot a b with
        | false => rfl
        | true =>
          have := ltSpot_trans h1 h2
          rw [ltSpot_irrefl] at this; cases this
  · refine (damaged_sorted hs).imp fun {x y} h => ?_
    cases h2 : ltC cmpSpot y x with
    | false => rfl
    | true =>
      have := ltSpot_trans h h2
      rw [ltSpot_irrefl] at this; cases this
end Go.Proofs.YtnpinegpajbkeaaGreatDoor
namespace Go.Proofs.YtnpinegpajbkeaaGreatDoor
open Go.RowKit HP
structure Sgp where
  kind : Int
  name : ByteArray
  idx : Int
  gen : Int
deriving DecidableEq
def Sgp.vals (g : Sgp) : List Value := [.int .i64 g.kind, .string g.name, .int .i64 g.idx, .int .i64 g.gen]
def Sgp.ends (g : Sgp) : List ByteArray := if g.kind = 1 then [dotA, dotB] else if g.kind = 2 then [dot0, dot1, dot2, dotP] else []
def Sgp.spots (g : Sgp) : List (ByteArray × Int) := g.ends.map fun s => (g.name ++ s, g.idx)
def Sgp.right (A : Dk) (g : Sgp) (k : Nat) (f : ByteArray) : Bool :=
  match A.cel f g.idx with
  | none => false
  | some c => match openI c.read f g.idx with
    | none => false
    | some x => if g.kind = 2 then decide ((x.2 : Int) = g.gen) && (decide (x.1.length = 106) == decide (k = 3)) else true
def Sgp.badK (A : Dk) (g : Sgp) : Nat → Nat
  | 0 => 0
  | k + 1 => g.badK A k + (match g.ends[k]? with | none => 0 | some s => if g.right A k (g.name ++ s) = true then 0 else 1)
def Sgp.bad (A : Dk) (g : Sgp) : Nat := g.badK A g.ends.length
theorem Sgp.badK_le (A : Dk) (g : Sgp) : ∀ k, g.badK A k ≤ k
  | 0 => Nat.le_refl _
  | k + 1 => by
    have := g.badK_le A k
    unfold Sgp.badK
    split
    · omega
    · split <;> omega
theorem Sgp.ends_length (g : Sgp) : g.ends.length ≤ 4 := by
  unfold Sgp.ends
  split
  · exact (by decide : (2 : Nat) ≤ 4)
  · split
    · exact Nat.le_refl _
    · exact Nat.zero_le _
theorem ends_2 {g : Sgp} (h : g.kind = 2) : g.ends = [dot0, dot1, dot2, dotP] := by unfold Sgp.ends; rw [if_neg (by omega), if_pos h]
theorem ends_0 {g : Sgp} (h1 : g.kind ≠ 1) (h2 : g.kind ≠ 2) : g.ends = [] := by unfold Sgp.ends; rw [if_neg h1, if_neg h2]
theorem right_slot {A : Dk} {g : Sgp} (h : g.kind = 2) {k : Nat} (hk : k < 4) : g.right A k (stripeF g.name k) = (slotOf A g.name g.gen g.idx k).2 := by
  unfold Sgp.right slotOf readS
  cases hc : A.cel (stripeF g.name k) g.idx with
  | none => rfl
  | some c =>
    dsimp only
    cases ho : openI c.read (stripeF g.name k) g.idx with
    | none => rfl
    | some x =>
      dsimp only
      rw [if_pos h]
      have hl := (openI_gen (p := x.1) (g := x.2) ho).2
      by_cases hg : (x.2 : Int) = g.gen
      · rw [if_neg (by simpa using hg), decide_eq_true hg, Bool.true_and]
        unfold readT
        by_cases h3 : k = 3
        · rw [if_pos h3, decide_eq_true h3]
          simp
        · rw [if_neg h3, decide_eq_false h3]
          by_cases h6 : x.1.length = 106
          · rw [decide_eq_true h6, decide_eq_false (by omega)]
            rfl
          · rw [decide_eq_false h6, decide_eq_true (by omega)]
            rfl
      · rw [if_pos hg, decide_eq_false hg]
        rfl
theorem bad_stripe {A : Dk} {g : Sgp} (h : g.kind = 2) : g.bad A = badN A g.name g.gen g.idx 4 := by
  have e := ends_2 h
  unfold Sgp.bad
  rw [e]
  show g.badK A 4 = _
  have s0 : stripeF g.name 0 = g.name ++ dot0 := rfl
  have s1 : stripeF g.name 1 = g.name ++ dot1 := rfl
  have s2 : stripeF g.name 2 = g.name ++ dot2 := rfl
  have s3 : stripeF g.name 3 = g.name ++ dotP := rfl
  simp only [Sgp.badK, e, badN, List.getElem?_cons_zero, List.getElem?_cons_succ]
  rw [← s0, ← s1, ← s2, ← s3, right_slot h (by omega), right_slot h (by omega), right_slot h (by omega), right_slot h (by omega)]
def ofV (g : Sgp) : Value := if g.kind = 1 then .iface 132 (.agg #[.int .i64 g.kind, .string g.name, .int .i64 g.idx, .int .i64 g.gen]) else if g.kind = 2 then .iface 133 (.agg #[.int .i64 g.kind, .string g.name, .int .i64 g.idx, .int .i64 g.gen]) else .nilIface
theorem slSpt : SlTy Tryz.prog 66 68 (.agg #[.string ⟨#[]⟩, .int .i64 0]) 2 24 := ⟨Tryz.underlying66, by kernel_rfl, rfl, by decide⟩
set_option maxHeartbeats 2000000 in
set_option maxRecDepth 100000 in
theorem scrub_of (E : Env) (q : HP) (g : Sgp) (w : World) (hw : Sat E w q) :
    Calls Tryz.prog 92 #[.agg #[.int .i64 g.kind, .string g.name, .int .i64 g.idx, .int .i64 g.gen]] w fun e w' => e = .returned (ofV g) ∧ Sat E w' q := by
  have h1 := hw.alloc (.cells #[.int .i64 g.kind, .string g.name, .int .i64 g.idx, .int .i64 g.gen] 37)
  have k0 := h1.cell 0
  have k1 := h1.cell 1
  have k2 := h1.cell 2
  have k3 := h1.cell 3
  simp only [List.getElem?_toArray, List.getElem?_cons_zero, List.getElem?_cons_succ] at k0 k1 k2 k3
  have H1 := Aside.mk h1
  obtain ⟨kind, name, idx, gen⟩ := g
  dsimp only at *
  have HV : Aside (ofV ⟨kind, name, idx, gen⟩ = if kind = 1 then .iface 132 (.agg #[.int .i64 kind, .string name, .int .i64 idx, .int .i64 gen]) else if kind = 2 then .iface 133 (.agg #[.int .i64 kind, .string name, .int .i64 idx, .int .i64 gen]) else .nilIface) := ⟨rfl⟩
  clear hw h1
  have hc : kind = 1 ∨ kind = 2 ∨ (¬ kind = 1 ∧ ¬ kind = 2) := by omega
  rcases hc with rfl | rfl | ⟨h1, h2⟩
  · rw [HV.out, if_pos rfl]
    go_enter Tryz.func92, Tryz.ntmps92
    go_wp2
    go_ret
    exact ⟨rfl, H1.out.right⟩
  · rw [HV.out, if_neg (by omega), if_pos rfl]
    go_enter Tryz.func92, Tryz.ntmps92
    go_wp2
    go_ret
    exact ⟨rfl, H1.out.right⟩
  · rw [HV.out, if_neg h1, if_neg h2]
    go_enter Tryz.func92, Tryz.ntmps92
    go_wp2
    go_ret
    exact ⟨rfl, H1.out.right⟩
theorem ta_pp (k i n : Int) (s : ByteArray) (w : World) : (Instr.typeAssert (.iface 132 (.agg #[.int .i64 k, .string s, .int .i64 i, .int .i64 n])) 20 132 true).run Tryz.prog w = .ok (.tuple #[.agg #[.int .i64 k, .string s, .int .i64 i, .int .i64 n], .bool true]) w := by kernel_rfl
theorem ta_ps (k i n : Int) (s : ByteArray) (w : World) : (Instr.typeAssert (.iface 133 (.agg #[.int .i64 k, .string s, .int .i64 i, .int .i64 n])) 20 132 true).run Tryz.prog w = .ok (.tuple #[.agg #[.int .i64 0, .string ⟨#[]⟩, .int .i64 0, .int .i64 0], .bool false]) w := by kernel_rfl
theorem ta_sp (k i n : Int) (s : ByteArray) (w : World) : (Instr.typeAssert (.iface 132 (.agg #[.int .i64 k, .string s, .int .i64 i, .int .i64 n])) 20 133 true).run Tryz.prog w = .ok (.tuple #[.agg #[.int .i64 0, .string ⟨#[]⟩, .int .i64 0, .int .i64 0], .bool false]) w := by kernel_rfl
theorem ta_ss (k i n : Int) (s : ByteArray) (w : World) : (Instr.typeAssert (.iface 133 (.agg #[.int .i64 k, .string s, .int .i64 i, .int .i64 n])) 20 133 true).run Tryz.prog w = .ok (.tuple #[.agg #[.int .i64 k, .string s, .int .i64 i, .int .i64 n], .bool true]) w := by kernel_rfl
theorem ta_pn (w : World) : (Instr.typeAssert .nilIface 20 132 true).run Tryz.prog w = .ok (.tuple #[.agg #[.int .i64 0, .string ⟨#[]⟩, .int .i64 0, .int .i64 0], .bool false]) w := by kernel_rfl
theorem ta_sn (w : World) : (Instr.typeAssert .nilIface 20 133 true).run Tryz.prog w = .ok (.tuple #[.agg #[.int .i64 0, .string ⟨#[]⟩, .int .i64 0, .int .i64 0], .bool false]) w := by kernel_rfl
theorem spots_len (g : Sgp) : g.spots.length = g.ends.length := by unfold Sgp.spots; rw [List.length_map]
theorem spots_take {name : ByteArray} {idx : Int} {l : List ByteArray} {k : Nat} {s : ByteArray} (h : l[k]? = some s) : ((l.take (k + 1)).map fun s => (name ++ s, idx)).flatMap encSpot = ((l.take k).map fun s => (name ++ s, idx)).flatMap encSpot ++ [.string (name ++ s), .int .i64 idx] := by
  rw [List.take_add_one, h, Option.toList_some, List.map_append, List.flatMap_append]
  rfl
set_option maxHeartbeats 4000000 in
set_option maxRecDepth 100000 in
theorem scrub_spots (E : Env) (q : HP) (g : Sgp) (w : World) (hn : g.name.size + 2 ≤ maxLen) (hw : Sat E w q) :
    Calls Tryz.prog 27 #[.agg #[.int .i64 g.kind, .string g.name, .int .i64 g.idx, .int .i64 g.gen]] w fun e w' => ∃ v, e = .returned v ∧ Sat E w' (HP.row 68 2 v g.ends.length (g.spots.flatMap encSpot) * q) := by
  have h1 := hw.alloc (.cells #[.int .i64 g.kind, .string g.name, .int .i64 g.idx, .int .i64 g.gen] 37)
  have k0 := h1.cell 0
  have k1 := h1.cell 1
  have k2 := h1.cell 2
  have k3 := h1.cell 3
  simp only [List.getElem?_toArray, List.getElem?_cons_zero, List.getElem?_cons_succ] at k0 k1 k2 k3
  have H1 := Aside.mk h1
  obtain ⟨kind, name, idx, gen⟩ := g
  dsimp only at *
  have HOF : ∀ E q w, Sat E w q → Aside (Calls Tryz.prog 92 #[.agg #[.int .i64 kind, .string name, .int .i64 idx, .int .i64 gen]] w fun e w' => e = .returned (ofV ⟨kind, name, idx, gen⟩) ∧ Sat E w' q) := fun E q w h => ⟨scrub_of E q ⟨kind, name, idx, gen⟩ w h⟩
  have hn2 : name.size + 2 ≤ 9223372036854775807 := by unfold maxLen at hn; omega
  obtain ⟨es, hes⟩ : ∃ es, es = Sgp.ends ⟨kind, name, idx, gen⟩ := ⟨_, rfl⟩
  have hsp : Sgp.spots ⟨kind, name, idx, gen⟩ = es.map fun s => (name ++ s, idx) := by rw [hes]; rfl
  rw [hsp, ← hes]
  have HES := Aside.mk hes
  clear hw h1 hsp hes hn
  have hc : kind = 1 ∨ kind = 2 ∨ (¬ kind = 1 ∧ ¬ kind = 2) := by omega
  rcases hc with rfl | rfl | ⟨hk1, hk2⟩
  · have he : es = [dotA, dotB] := by rw [HES.out]; rfl
    have hof : ofV ⟨1, name, idx, gen⟩ = .iface 132 (.agg #[.int .i64 1, .string name, .int .i64 idx, .int .i64 gen]) := by rfl
    rw [he]
    go_enter Tryz.func27, Tryz.ntmps27
    go_wp2_with fail
    refine (HOF E _ _ H1.out).out.mono ?_
    rintro e w2 ⟨rfl, h2⟩
    rw [hof]
    have ta1 := fun w => ta_pp 1 idx gen name w
    have H2 := Aside.mk (h2.alloc (.cells #[.string ⟨#[46, 97]⟩, .string ⟨#[46, 98]⟩] 9))
    have k1 := H2.out.s2.cell 1
    have k2 := H2.out.s2.cell 2
    simp only [List.getElem?_toArray, List.getElem?_cons_zero, List.getElem?_cons_succ] at k1 k2
    obtain ⟨bE, hbE⟩ : ∃ bE, bE = w2.heap.size := ⟨_, rfl⟩
    rw [← hbE] at H2
    have H3 := Aside.mk (H2.out.row_nil 68 2 none)
    clear h2 H1 HES k0 k3 hof H2 k1 k2
    go_wp2
    rw [← hbE]
    clear hbE
    go_loopw [4, 19] (fun v4 v19 wr => ∃ k : Nat, v19 = .int .i64 k ∧ k ≤ 2 ∧ Aside (Sat E wr (HP.row 68 2 v4 k (((es.take k).map fun s => (name ++ s, idx)).flatMap encSpot) * (HP.pt bE (.cells #[.string ⟨#[46, 97]⟩, .string ⟨#[46, 98]⟩] 9) * (HP.pt w.heap.size (.cells #[.int .i64 1, .string name, .int .i64 idx, .int .i64 gen] 37) * q))))) (fun _ x _ => 2 - (intOf x).toNat)
    case atStart => exact ⟨0, rfl, Nat.zero_le _, H3⟩
    case round =>
      clear H3
      obtain ⟨k, rfl, hk, HS⟩ := hrel
      by_cases hlt : k < 2
      · have hlt1 : (k : Int) < 2 := by omega
        have hlt0 : (0 : Int) ≤ (k : Int) := by omega
        obtain ⟨s, hs⟩ : ∃ s, es[k]? = some s := ⟨_, List.getElem?_eq_getElem (by rw [he]; exact hlt)⟩
        have hcs : (#[.string ⟨#[46, 97]⟩, .string ⟨#[46, 98]⟩] : Array Value)[k]? = some (.string s) ∧ s.size = 2 := by
          rw [he] at hs
          have hc : k = 0 ∨ k = 1 := by omega
          rcases hc with rfl | rfl <;> (obtain rfl := Option.some.inj hs; exact ⟨rfl, rfl⟩)
        have kc : wr.cell? ⟨bE, k, none⟩ = some (.string s) := by rw [HS.out.s2.cell]; exact hcs.1
        have hsz : name.size + s.size ≤ 9223372036854775807 := by rw [hcs.2]; exact hn2
        have c1 := HS.out.s3.cell 1
        have c2 := HS.out.s3.cell 2
        simp only [List.getElem?_toArray, List.getElem?_cons_zero, List.getElem?_cons_succ] at c1 c2
        have HT := Aside.mk (spots_take (name := name) (idx := idx) hs)
        clear hcs hs
        go_wp2_with (at_builtin; refine wpList_append_new slSpt rfl rfl (by rfl) (by rfl) HS.out (by rfl) (by rfl) (by unfold maxLen; omega) (by omega) (fun v5 w5 hw5 => ?_); have HW5 := Aside.mk hw5; clear hw5)
        have H6 : Aside (Sat E w5 (HP.row 68 2 v5 (k + 1) (((es.take (k + 1)).map fun s => (name ++ s, idx)).flatMap encSpot) * (HP.pt bE (.cells #[.string ⟨#[46, 97]⟩, .string ⟨#[46, 98]⟩] 9) * (HP.pt w.heap.size (.cells #[.int .i64 1, .string name, .int .i64 idx, .int .i64 gen] 37) * q)))) := ⟨by rw [HT.out]; exact HW5.out⟩
        clear HW5 HT HS kc c1 c2
        go_roundw
        case rel => exact ⟨k + 1, by go_num, by omega, H6⟩
        case measure => simp [intOf]; omega
      · obtain rfl : k = 2 := by omega
        obtain ⟨Av, cv, rfl, -, -⟩ := HS.out.row_slice
        have H7 : Aside (Sat E wr (HP.row 68 2 (.slice Av 2 cv) [dotA, dotB].length (([dotA, dotB].map fun s => (name ++ s, idx)).flatMap encSpot) * q)) := ⟨by
          have h := HS.out
          rw [he] at h
          exact h.drop2.drop2⟩
        clear HS
        go_wp2
        go_ret
        exact ⟨_, rfl, H7.out⟩
  · have he : es = [dot0, dot1, dot2, dotP] := by rw [HES.out]; rfl
    have hof : ofV ⟨2, name, idx, gen⟩ = .iface 133 (.agg #[.int .i64 2, .string name, .int .i64 idx, .int .i64 gen]) := by rfl
    rw [he]
    go_enter Tryz.func27, Tryz.ntmps27
    go_wp2_with fail
    refine (HOF E _ _ H1.out).out.mono ?_
    rintro e w2 ⟨rfl, h2⟩
    rw [hof]
    have ta1 := fun w => ta_ps 2 idx gen name w
    have ta2 := fun w => ta_ss 2 idx gen name w
    have H2 := Aside.mk (h2.alloc (.cells #[.string ⟨#[46, 48]⟩, .string ⟨#[46, 49]⟩, .string ⟨#[46, 50]⟩, .string ⟨#[46, 112]⟩] 9))
    have k1 := H2.out.s2.cell 1
    have k2 := H2.out.s2.cell 2
    simp only [List.getElem?_toArray, List.getElem?_cons_zero, List.getElem?_cons_succ] at k1 k2
    obtain ⟨bE, hbE⟩ : ∃ bE, bE = w2.heap.size := ⟨_, rfl⟩
    rw [← hbE] at H2
    have H3 := Aside.mk (H2.out.row_nil 68 2 none)
    clear h2 H1 HES k0 k3 hof H2 k1 k2
    go_wp2
    rw [← hbE]
    clear hbE
    go_loopw [4, 19] (fun v4 v19 wr => ∃ k : Nat, v19 = .int .i64 k ∧ k ≤ 4 ∧ Aside (Sat E wr (HP.row 68 2 v4 k (((es.take k).map fun s => (name ++ s, idx)).flatMap encSpot) * (HP.pt bE (.cells #[.string ⟨#[46, 48]⟩, .string ⟨#[46, 49]⟩, .string ⟨#[46, 50]⟩, .string ⟨#[46, 112]⟩] 9) * (HP.pt w.heap.size (.cells #[.int .i64 2, .string name, .int .i64 idx, .int .i64 gen] 37) * q))))) (fun _ x _ => 4 - (intOf x).toNat)
    case atStart => exact ⟨0, rfl, Nat.zero_le _, H3⟩
    case round =>
      clear H3
      obtain ⟨k, rfl, hk, HS⟩ := hrel
      by_cases hlt : k < 4
      · have hlt1 : (k : Int) < 4 := by omega
        have hlt0 : (0 : Int) ≤ (k : Int) := by omega
        obtain ⟨s, hs⟩ : ∃ s, es[k]? = some s := ⟨_, List.getElem?_eq_getElem (by rw [he]; exact hlt)⟩
        have hcs : (#[.string ⟨#[46, 48]⟩, .string ⟨#[46, 49]⟩, .string ⟨#[46, 50]⟩, .string ⟨#[46, 112]⟩] : Array Value)[k]? = some (.string s) ∧ s.size = 2 := by
          rw [he] at hs
          have hc : k = 0 ∨ k = 1 ∨ k = 2 ∨ k = 3 := by omega
          rcases hc with rfl | rfl | rfl | rfl <;> (obtain rfl := Option.some.inj hs; exact ⟨rfl, rfl⟩)
        have kc : wr.cell? ⟨bE, k, none⟩ = some (.string s) := by rw [HS.out.s2.cell]; exact hcs.1
        have hsz : name.size + s.size ≤ 9223372036854775807 := by rw [hcs.2]; exact hn2
        have c1 := HS.out.s3.cell 1
        have c2 := HS.out.s3.cell 2
        simp only [List.getElem?_toArray, List.getElem?_cons_zero, List.getElem?_cons_succ] at c1 c2
        have HT := Aside.mk (spots_take (name := name) (idx := idx) hs)
        clear hcs hs
        go_wp2_with (at_builtin; refine wpList_append_new slSpt rfl rfl (by rfl) (by rfl) HS.out (by rfl) (by rfl) (by unfold maxLen; omega) (by omega) (fun v5 w5 hw5 => ?_); have HW5 := Aside.mk hw5; clear hw5)
        have H6 : Aside (Sat E w5 (HP.row 68 2 v5 (k + 1) (((es.take (k + 1)).map fun s => (name ++ s, idx)).flatMap encSpot) * (HP.pt bE (.cells #[.string ⟨#[46, 48]⟩, .string ⟨#[46, 49]⟩, .string ⟨#[46, 50]⟩, .string ⟨#[46, 112]⟩] 9) * (HP.pt w.heap.size (.cells #[.int .i64 2, .string name, .int .i64 idx, .int .i64 gen] 37) * q)))) := ⟨by rw [HT.out]; exact HW5.out⟩
        clear HW5 HT HS kc c1 c2
        go_roundw
        case rel => exact ⟨k + 1, by go_num, by omega, H6⟩
        case measure => simp [intOf]; omega
      · obtain rfl : k = 4 := by omega
        obtain ⟨Av, cv, rfl, -, -⟩ := HS.out.row_slice
        have H7 : Aside (Sat E wr (HP.row 68 2 (.slice Av 4 cv) [dot0, dot1, dot2, dotP].length (([dot0, dot1, dot2, dotP].map fun s => (name ++ s, idx)).flatMap encSpot) * q)) := ⟨by
          have h := HS.out
          rw [he] at h
          exact h.drop2.drop2⟩
        clear HS
        go_wp2
        go_ret
        exact ⟨_, rfl, H7.out⟩
  · have he : es = [] := by rw [HES.out]; unfold Sgp.ends; rw [if_neg hk1, if_neg hk2]
    have hof : ofV ⟨kind, name, idx, gen⟩ = .nilIface := by unfold ofV; rw [if_neg hk1, if_neg hk2]
    rw [he]
    go_enter Tryz.func27, Tryz.ntmps27
    go_wp2_with fail
    refine (HOF E _ _ H1.out).out.mono ?_
    rintro e w2 ⟨rfl, h2⟩
    rw [hof]
    have ta1 := ta_pn
    have ta2 := ta_sn
    have k1 := h2.cell 1
    have k2 := h2.cell 2
    simp only [List.getElem?_toArray, List.getElem?_cons_zero, List.getElem?_cons_succ] at k1 k2
    have H2 := Aside.mk h2.right
    clear h2 H1 HES k0 k3 hof he
    go_wp2
    go_loopw [4, 19] (fun v4 v19 wr => v4 = .slice none 0 0 ∧ v19 = .int .i64 0 ∧ Aside (Sat E wr q)) (fun _ x _ => 0 - (intOf x).toNat)
    case atStart => exact ⟨rfl, rfl, H2⟩
    case round =>
      obtain ⟨rfl, rfl, HS⟩ := hrel
      clear k1 k2 H2
      go_wp2
      go_ret
      exact ⟨_, rfl, HS.out.row_nil _ _ _⟩
theorem disk_read_all (E : Env) (q : HP) (d : Nat) (A : Dk) (name : ByteArray) (i : Int) (w : World) (hn : name.size ≤ maxLen) (hw : Sat E w (HP.disk d A * q)) :
    Calls Tryz.prog 36 #[.pointer (some ⟨d, 0, none⟩), .string name, .int .i64 i] w fun e w' => ∃ V c code R, e = .returned (.tuple #[.slice V (readO A name i).length c, .int .i64 code]) ∧ (readO A name i).length ≤ c ∧ Sat E w' (HP.disk d A * (R * q)) ∧ ∀ w'' q', Sat E w'' (HP.disk d A * (R * q')) → Cells w'' V (b8s (readO A name i)) := by
  refine (disk_read_ok E q d A name i w hn hw).mono fun e w' h => ?_
  unfold readEnd at h
  unfold readO
  cases hc : A.cel name i with
  | none =>
    rw [hc] at h
    obtain ⟨rfl, h⟩ := h
    exact ⟨none, 0, 30, HP.emp, rfl, Nat.le_refl _, by rw [HP.emp_mul]; exact h, fun w'' q' _ => Cells.nil _ _⟩
  | some x =>
    rw [hc] at h
    obtain ⟨v, rfl, h⟩ := h
    obtain ⟨V, c, rfl, hc2, -⟩ := h.row_slice
    have hl := h.row_cases.1
    rw [b8s_length] at hl
    refine ⟨V, c, 0, HP.row 5 1 (.slice V 128 c) 128 (b8s x.read), ?_, ?_, h.perm (by ac_rfl), fun w'' q' h' => (h'.perm (by ac_rfl : _ = HP.row 5 1 (.slice V 128 c) 128 (b8s x.read) * (HP.disk d A * q'))).row_cells⟩
    · dsimp only; rw [hl]
    · dsimp only; rw [hl]; exact hc2
theorem right_readO (A : Dk) (g : Sgp) (k : Nat) (f : ByteArray) : g.right A k f = match openI (readO A f g.idx) f g.idx with
    | none => false
    | some x => if g.kind = 2 then decide ((x.2 : Int) = g.gen) && (decide (x.1.length = 106) == decide (k = 3)) else true := by
  unfold Sgp.right readO
  cases A.cel f g.idx with
  | none =>
    dsimp only
    have : openI [] f g.idx = none := by unfold openI; rw [if_pos (.inl (by decide))]
    rw [this]
  | some c => rfl
theorem spot_at {w : World} {A : Option Addr} {l : List (ByteArray × Int)} (h : Cells w A (l.flatMap encSpot)) {k : Nat} {x : ByteArray × Int} (hk : l[k]? = some x) : ∃ g o, A = some ⟨g, o, none⟩ ∧ w.cell? ⟨g, o + k * 2, none⟩ = some (.string x.1) ∧ w.cell? ⟨g, o + k * 2 + 1, none⟩ = some (.int .i64 x.2) := by
  have g0 := flat_get encSpot 2 l (fun _ => rfl) k 0 x hk (by omega)
  have g1 := flat_get encSpot 2 l (fun _ => rfl) k 1 x hk (by omega)
  obtain ⟨a, ha, -⟩ := h _ _ g0
  obtain ⟨g, o, rfl⟩ : ∃ g o, a = ⟨g, o, none⟩ := slice_addr h ha (List.getElem?_eq_some_iff.1 g0).1
  subst ha
  have h0 := h.some_ _ _ g0
  have h1 := h.some_ _ _ g1
  rw [addr_add] at h0 h1
  exact ⟨g, o, rfl, h0, h1⟩
theorem badK_step {A : Dk} {g : Sgp} {k : Nat} {s : ByteArray} (hs : g.ends[k]? = some s) : g.badK A (k + 1) = g.badK A k + if g.right A k (g.name ++ s) = true then 0 else 1 := by
  rw [Sgp.badK, hs]
def bitG (kind gen : Int) (k : Nat) : Option (List Int × Nat) → Nat
  | none => 1
  | some x => if kind = 2 then (if (x.2 : Int) = gen then (if x.1.length = 106 then (if k = 3 then 0 else 1) else (if k = 3 then 1 else 0)) else 1) else 0
theorem badK_bit {A : Dk} {g : Sgp} {k : Nat} {s : ByteArray} (hs : g.ends[k]? = some s) : g.badK A (k + 1) = g.badK A k + bitG g.kind g.gen k (openI (readO A (g.name ++ s) g.idx) (g.name ++ s) g.idx) := by
  rw [badK_step hs, right_readO]
  congr 1
  cases openI (readO A (g.name ++ s) g.idx) (g.name ++ s) g.idx with
  | none => rfl
  | some x =>
    by_cases h2 : g.kind = 2 <;> by_cases hg : (x.2 : Int) = g.gen <;> by_cases h6 : x.1.length = 106 <;> by_cases h3 : k = 3 <;> simp [bitG, h2, hg, h6, h3]
theorem end_size {g : Sgp} {k : Nat} {s : ByteArray} (hs : g.ends[k]? = some s) : s.size = 2 := by
  have hm := List.mem_of_getElem? hs
  unfold Sgp.ends at hm
  split at hm
  · simp only [List.mem_cons, List.not_mem_nil, or_false] at hm
    rcases hm with rfl | rfl <;> rfl
  · split at hm
    · simp only [List.mem_cons, List.not_mem_nil, or_false] at hm
      rcases hm with rfl | rfl | rfl | rfl <;> rfl
    · cases hm
set_option maxHeartbeats 4000000 in
set_option maxRecDepth 100000 in
theorem scrub_bad (E : Env) (q : HP) (d : Nat) (A : Dk) (g : Sgp) (w : World) (hn : g.name.size + 2 ≤ maxLen) (hby : ∀ f (i : Int) c, A.cel f i = some c → Bytes c.read) (hq : ∀ w, Sat E w q → Quarter w) (hw : Sat E w (HP.disk d A * q)) :
    Calls Tryz.prog 29 #[.pointer (some ⟨d, 0, none⟩), .agg #[.int .i64 g.kind, .string g.name, .int .i64 g.idx, .int .i64 g.gen]] w fun e w' => e = .returned (.int .i64 (g.bad A : Nat)) ∧ Sat E w' (HP.disk d A * q) := by
  obtain ⟨kind, name, idx, gen⟩ := g
  dsimp only at *
  have HQ := Aside.mk (And.intro hq (And.intro hby hn))
  have H0 : Aside (Sat E (w.alloc (.cells #[.int .i64 kind, .string name, .int .i64 idx, .int .i64 gen] 37)) (HP.disk d A * (HP.pt w.heap.size (.cells #[.int .i64 kind, .string name, .int .i64 idx, .int .i64 gen] 37) * q))) := ⟨(hw.alloc (.cells #[.int .i64 kind, .string name, .int .i64 idx, .int .i64 gen] 37)).s2⟩
  have hn2 : name.size + 2 ≤ 9223372036854775807 := by unfold maxLen at hn; omega
  obtain ⟨g, hg⟩ : ∃ g : Sgp, g = ⟨kind, name, idx, gen⟩ := ⟨_, rfl⟩
  have HG := Aside.mk hg
  obtain ⟨es, hes⟩ : ∃ es, es = g.ends := ⟨_, rfl⟩
  obtain ⟨N, hN⟩ : ∃ N, N = g.ends.length := ⟨_, rfl⟩
  have hN4 : N ≤ 4 := by rw [hN]; exact g.ends_length
  have HN := Aside.mk hN
  have HBD : Aside (Sgp.bad A ⟨kind, name, idx, gen⟩ = g.badK A N) := ⟨by rw [hN, hg]; rfl⟩
  rw [HBD.out]
  clear hw hq hby hn hN hes hg es HBD
  go_enter Tryz.func29, Tryz.ntmps29
  go_wp2_with fail
  refine (disk_asked E _ d A _ H0.out).mono ?_
  rintro e w1 ⟨rfl, h1⟩
  obtain ⟨bG, hbG⟩ : ∃ bG, bG = w.heap.size := ⟨_, rfl⟩
  rw [← hbG] at h1 ⊢
  have k0 := h1.s2.cell 0
  have k1 := h1.s2.cell 1
  have k2 := h1.s2.cell 2
  have k3 := h1.s2.cell 3
  simp only [List.getElem?_toArray, List.getElem?_cons_zero, List.getElem?_cons_succ] at k0 k1 k2 k3
  have H1 := Aside.mk h1
  clear h1 H0 hbG
  go_wp2_with fail
  refine (scrub_spots E _ ⟨kind, name, idx, gen⟩ _ HQ.out.2.2 H1.out).mono ?_
  rintro e w2 ⟨v, rfl, h2⟩
  rw [← HG.out, ← HN.out] at h2
  obtain ⟨V, c, rfl, -, -⟩ := h2.row_slice
  have H2 : Aside (Sat E w2 (HP.disk d A * (HP.row 68 2 (.slice V N c) N (g.spots.flatMap encSpot) * (HP.pt bG (.cells #[.int .i64 kind, .string name, .int .i64 idx, .int .i64 gen] 37) * q)))) := ⟨h2.s2⟩
  clear h2 H1 k0 k1 k2 k3
  go_wp2
  go_loopw [5, 25] (fun v5 v25 wr => ∃ k b : Nat, v25 = .int .i64 k ∧ k ≤ N ∧ v5 = .int .i64 b ∧ b ≤ 4 ∧ Aside (b = g.badK A k) ∧ Aside (Sat E wr (HP.disk d A * (HP.row 68 2 (.slice V N c) N (g.spots.flatMap encSpot) * (HP.pt bG (.cells #[.int .i64 kind, .string name, .int .i64 idx, .int .i64 gen] 37) * q))))) (fun _ x _ => N - (intOf x).toNat)
  case atStart => exact ⟨0, 0, rfl, Nat.zero_le _, rfl, by omega, ⟨rfl⟩, H2⟩
  case round =>
    clear H2
    obtain ⟨k, b, rfl, hk, rfl, hb4, HB, HS⟩ := hrel
    by_cases hlt : k < N
    · have hlt1 : (k : Int) < (N : Int) := by omega
      have hlt0 : (0 : Int) ≤ (k : Int) := by omega
      obtain ⟨s, hs⟩ : ∃ s, g.ends[k]? = some s := ⟨_, List.getElem?_eq_getElem (by rw [← HN.out]; exact hlt)⟩
      have hsp : g.spots[k]? = some (g.name ++ s, g.idx) := by unfold Sgp.spots; rw [List.getElem?_map, hs]; rfl
      obtain ⟨gS, oS, rfl, c0, c1⟩ := spot_at HS.out.s2.row_cells hsp
      have hst := badK_bit (A := A) hs
      have hszs := end_size hs
      have hb3 : b ≤ 3 := by rw [HB.out]; have := g.badK_le A k; omega
      have hgf : g.name = name ∧ g.idx = idx ∧ g.kind = kind ∧ g.gen = gen := by rw [HG.out]; exact ⟨rfl, rfl, rfl, rfl⟩
      rw [hgf.1, hgf.2.1] at c0 c1
      dsimp only at c0 c1
      rw [hgf.1, hgf.2.1, hgf.2.2.1, hgf.2.2.2, ← HB.out] at hst
      obtain ⟨f, hf⟩ : ∃ f, f = name ++ s := ⟨_, rfl⟩
      have HFS : Aside (f.size ≤ maxLen) := ⟨by rw [hf, ByteArray.size_append, hszs]; exact HQ.out.2.2⟩
      rw [← hf] at c0 hst
      have HST := Aside.mk hst
      have HBY : Aside (Bytes (readO A f idx)) := ⟨by
        unfold readO
        cases hcc : A.cel f idx with
        | none => intro x hx; cases hx
        | some c => exact HQ.out.2.1 f idx c hcc⟩
      have HN4 : Aside (kind = 2 → N = 4) := ⟨fun h => by rw [HN.out, HG.out, ends_2 (g := ⟨kind, name, idx, gen⟩) h]; rfl⟩
      have H3 : Aside (Sat E (wr.alloc (.cells #[.string f, .int .i64 idx] 68)) (HP.disk d A * (HP.pt wr.heap.size (.cells #[.string f, .int .i64 idx] 68) * (HP.row 68 2 (.slice (some ⟨gS, oS, none⟩) N c) N (g.spots.flatMap encSpot) * (HP.pt bG (.cells #[.int .i64 kind, .string name, .int .i64 idx, .int .i64 gen] 37) * q))))) := ⟨(HS.out.alloc _).s2⟩
      clear hsp hst hszs hs hf hgf HB HS
      go_wp2_with fail
      refine (disk_read_all E _ d A f idx _ HFS.out H3.out).mono ?_
      rintro e w3 ⟨VR, cR, code, R, rfl, hcR, h4, hR⟩
      have H4 := Aside.mk h4
      have HR := Aside.mk (And.intro hcR hR)
      have b0 := h4.right.right.cell 0
      have b1 := h4.right.right.cell 1
      simp only [List.getElem?_toArray, List.getElem?_cons_zero, List.getElem?_cons_succ] at b0 b1
      obtain ⟨rd, hrd⟩ : ∃ rd, rd = readO A f idx := ⟨_, rfl⟩
      rw [← hrd] at HR HST HBY ⊢
      clear hrd h4 hcR hR H3
      go_wp2_with fail
      refine (ext_open E _ f idx VR rd rd.length cR _ HFS.out rfl HR.out.1 HBY.out (fun w h => ⟨HQ.out.1 w h.right.right.right.right.right, HR.out.2 w _ h⟩) H4.out).mono ?_
      rintro e w4 (⟨hop, rfl, h5⟩ | ⟨p, gn, v, hop, rfl, h5⟩)
      · rw [hop] at HST
        have hst : g.badK A (k + 1) = b + 1 := HST.out
        have H5 : Aside (Sat E w4 (HP.disk d A * (HP.row 68 2 (.slice (some ⟨gS, oS, none⟩) N c) N (g.spots.flatMap encSpot) * (HP.pt bG (.cells #[.int .i64 kind, .string name, .int .i64 idx, .int .i64 gen] 37) * q)))) := ⟨h5.drop2.drop2⟩
        have HST2 := Aside.mk hst
        have k0 := H5.out.right.right.cell 0
        have k1 := H5.out.right.right.cell 1
        have k2 := H5.out.right.right.cell 2
        have k3 := H5.out.right.right.cell 3
        simp only [List.getElem?_toArray, List.getElem?_cons_zero, List.getElem?_cons_succ] at k0 k1 k2 k3
        clear h5 H4 HR HST hop hst c0 c1 b0 b1
        go_wp2_with fail
        refine (scrub_of E _ ⟨kind, name, idx, gen⟩ _ H5.out).mono ?_
        rintro e w5 ⟨rfl, h6⟩
        have H6 := Aside.mk h6
        clear h6 H5 k0 k1 k2 k3
        by_cases h2 : kind = 2
        · subst h2
          rw [show ofV ⟨2, name, idx, gen⟩ = .iface 133 (.agg #[.int .i64 2, .string name, .int .i64 idx, .int .i64 gen]) from rfl]
          have ta := fun w => ta_ss 2 idx gen name w
          go_wp2
          go_roundw
          case rel => exact ⟨k + 1, b + 1, by go_num, by omega, by go_num, by omega, ⟨HST2.out.symm⟩, ⟨(H6.out.alloc _).right⟩⟩
          case measure => simp [intOf]; omega
        · by_cases h1 : kind = 1
          · subst h1
            rw [show ofV ⟨1, name, idx, gen⟩ = .iface 132 (.agg #[.int .i64 1, .string name, .int .i64 idx, .int .i64 gen]) from rfl]
            have ta := fun w => ta_sp 1 idx gen name w
            go_wp2
            go_roundw
            case rel => exact ⟨k + 1, b + 1, by go_num, by omega, by go_num, by omega, ⟨HST2.out.symm⟩, ⟨(H6.out.alloc _).right⟩⟩
            case measure => simp [intOf]; omega
          · exfalso
            rw [HN.out, HG.out, ends_0 h1 h2] at hlt
            exact Nat.not_lt_zero _ hlt
      · rw [hop] at HST
        have hst : g.badK A (k + 1) = b + (if kind = 2 then (if (gn : Int) = gen then (if p.length = 106 then (if k = 3 then 0 else 1) else (if k = 3 then 1 else 0)) else 1) else 0) := HST.out
        obtain ⟨VP, cP, rfl, -, -⟩ := h5.row_slice
        have H5 : Aside (Sat E w4 (HP.disk d A * (HP.row 68 2 (.slice (some ⟨gS, oS, none⟩) N c) N (g.spots.flatMap encSpot) * (HP.pt bG (.cells #[.int .i64 kind, .string name, .int .i64 idx, .int .i64 gen] 37) * q)))) := ⟨h5.right.drop2.drop2⟩
        have HST2 := Aside.mk hst
        have k0 := H5.out.right.right.cell 0
        have k1 := H5.out.right.right.cell 1
        have k2 := H5.out.right.right.cell 2
        have k3 := H5.out.right.right.cell 3
        simp only [List.getElem?_toArray, List.getElem?_cons_zero, List.getElem?_cons_succ] at k0 k1 k2 k3
        obtain ⟨pl, hpl⟩ : ∃ pl, pl = p.length := ⟨_, rfl⟩
        rw [← hpl] at HST2 ⊢
        clear h5 H4 HR HST hop hst c0 c1 b0 b1 hpl
        go_wp2_with fail
        refine (scrub_of E _ ⟨kind, name, idx, gen⟩ _ H5.out).mono ?_
        rintro e w5 ⟨rfl, h6⟩
        have H6 := Aside.mk h6
        have k3 := H6.out.right.right.cell 3
        simp only [List.getElem?_toArray, List.getElem?_cons_zero, List.getElem?_cons_succ] at k3
        clear h6 H5 k0 k1 k2
        by_cases h2 : kind = 2
        · subst h2
          have hN5 := HN4.out rfl
          rw [show ofV ⟨2, name, idx, gen⟩ = .iface 133 (.agg #[.int .i64 2, .string name, .int .i64 idx, .int .i64 gen]) from rfl]
          have ta := fun w => ta_ss 2 idx gen name w
          have k3 := (H6.out.alloc (.cells #[.int .i64 2, .string name, .int .i64 idx, .int .i64 gen] 133)).right.right.right.cell 3
          simp only [List.getElem?_toArray, List.getElem?_cons_zero, List.getElem?_cons_succ] at k3
          have hst2 := HST2.out
          rw [if_pos rfl] at hst2
          by_cases hgn : (gn : Int) = gen
          · subst hgn
            by_cases hp6 : pl = 106
            · by_cases hk3 : k = 3
              · have hke : (N : Int) - 1 = (k : Int) := by omega
                have HE : Aside (g.badK A (k + 1) = b) := ⟨by rw [hst2, if_pos rfl, if_pos hp6, if_pos hk3, Nat.add_zero]⟩
                clear hst2 HST2 hN5 hk3
                go_wp2
                go_roundw
                case rel => exact ⟨k + 1, b, by go_num, by omega, by go_num, by omega, ⟨HE.out.symm⟩, ⟨(H6.out.alloc _).right⟩⟩
                case measure => simp [intOf]; omega
              · have hk3i : ¬ (k : Int) = (N : Int) - 1 := by omega
                have hk3b : ((k : Int) == (N : Int) - 1) = false := by rw [beq_eq_false_iff_ne]; omega
                have HE : Aside (g.badK A (k + 1) = b + 1) := ⟨by rw [hst2, if_pos rfl, if_pos hp6, if_neg hk3]⟩
                clear hst2 HST2 hN5 hk3
                go_wp2
                go_roundw
                case rel => exact ⟨k + 1, b + 1, by go_num, by omega, by go_num, by omega, ⟨HE.out.symm⟩, ⟨(H6.out.alloc _).right⟩⟩
                case measure => simp [intOf]; omega
            · have hp6i : ¬ (pl : Int) = 106 := by omega
              have hp6b : ((pl : Int) == 106) = false := by rw [beq_eq_false_iff_ne]; omega
              by_cases hk3 : k = 3
              · have hke : (N : Int) - 1 = (k : Int) := by omega
                have HE : Aside (g.badK A (k + 1) = b + 1) := ⟨by rw [hst2, if_pos rfl, if_neg hp6, if_pos hk3]⟩
                clear hst2 HST2 hN5 hk3 hp6
                go_wp2
                go_roundw
                case rel => exact ⟨k + 1, b + 1, by go_num, by omega, by go_num, by omega, ⟨HE.out.symm⟩, ⟨(H6.out.alloc _).right⟩⟩
                case measure => simp [intOf]; omega
              · have hk3i : ¬ (k : Int) = (N : Int) - 1 := by omega
                have hk3b : ((k : Int) == (N : Int) - 1) = false := by rw [beq_eq_false_iff_ne]; omega
                have HE : Aside (g.badK A (k + 1) = b) := ⟨by rw [hst2, if_pos rfl, if_neg hp6, if_neg hk3, Nat.add_zero]⟩
                clear hst2 HST2 hN5 hk3 hp6
                go_wp2
                go_roundw
                case rel => exact ⟨k + 1, b, by go_num, by omega, by go_num, by omega, ⟨HE.out.symm⟩, ⟨(H6.out.alloc _).right⟩⟩
                case measure => simp [intOf]; omega
          · have hgn2 : ((gn : Int) == gen) = false := by simpa using hgn
            have HE : Aside (g.badK A (k + 1) = b + 1) := ⟨by rw [hst2, if_neg hgn]⟩
            clear hst2 HST2 hN5
            go_wp2
            go_roundw
            case rel => exact ⟨k + 1, b + 1, by go_num, by omega, by go_num, by omega, ⟨HE.out.symm⟩, ⟨(H6.out.alloc _).right⟩⟩
            case measure => simp [intOf]; omega
        · by_cases h1 : kind = 1
          · subst h1
            rw [show ofV ⟨1, name, idx, gen⟩ = .iface 132 (.agg #[.int .i64 1, .string name, .int .i64 idx, .int .i64 gen]) from rfl]
            have ta := fun w => ta_sp 1 idx gen name w
            have HE : Aside (g.badK A (k + 1) = b) := ⟨by have h := HST2.out; rw [if_neg h2] at h; exact h⟩
            clear HST2
            go_wp2
            go_roundw
            case rel => exact ⟨k + 1, b, by go_num, by omega, rfl, by omega, ⟨HE.out.symm⟩, ⟨(H6.out.alloc _).right⟩⟩
            case measure => simp [intOf]; omega
          · exfalso
            rw [HN.out, HG.out, ends_0 h1 h2] at hlt
            exact Nat.not_lt_zero _ hlt
    · obtain rfl : k = N := by omega
      have hkk : ¬ (k : Int) < (k : Int) := by omega
      have H7 : Aside (Sat E wr (HP.disk d A * q)) := ⟨HS.out.drop2.drop2⟩
      clear HS
      go_wp2
      go_ret
      obtain rfl := HB.out
      exact ⟨rfl, H7.out⟩
def mendG (A : Dk) (g : Sgp) : (Bool × Int) × Dk := if g.kind = 1 then mendP A g.name g.idx else if g.kind = 2 then mendS A g.name g.gen g.idx else ((false, 1), A)
set_option maxHeartbeats 4000000 in
set_option maxRecDepth 100000 in
theorem scrub_mend (E : Env) (q : HP) (d : Nat) (A : Dk) (g : Sgp) (w : World) (hn : g.name.size + 2 ≤ maxLen) (hi64 : wf64 g.idx) (hby : ∀ f (i : Int) c, A.cel f i = some c → Bytes c.read) (hq : ∀ w, Sat E w q → Quarter w) (hw : Sat E w (HP.disk d A * q)) :
    Calls Tryz.prog 31 #[.pointer (some ⟨d, 0, none⟩), .agg #[.int .i64 g.kind, .string g.name, .int .i64 g.idx, .int .i64 g.gen]] w fun e w' => e = .returned (.tuple #[.bool (mendG A g).1.1, .int .i64 (mendG A g).1.2]) ∧ Sat E w' (HP.disk d (mendG A g).2 * q) := by
  obtain ⟨kind, name, idx, gen⟩ := g
  dsimp only at *
  have HQ := Aside.mk (And.intro hq (And.intro hby hn))
  have H0 : Aside (Sat E (w.alloc (.cells #[.int .i64 kind, .string name, .int .i64 idx, .int .i64 gen] 37)) (HP.disk d A * (HP.pt w.heap.size (.cells #[.int .i64 kind, .string name, .int .i64 idx, .int .i64 gen] 37) * q))) := ⟨(hw.alloc _).s2⟩
  have HM : Aside (mendG A ⟨kind, name, idx, gen⟩ = if kind = 1 then mendP A name idx else if kind = 2 then mendS A name gen idx else ((false, 1), A)) := ⟨rfl⟩
  obtain ⟨r, hr⟩ : ∃ r, r = mendG A ⟨kind, name, idx, gen⟩ := ⟨_, rfl⟩
  rw [← hr] at HM ⊢
  clear hw hq hby hn hr
  go_enter Tryz.func31, Tryz.ntmps31
  go_wp2_with fail
  refine (disk_asked E _ d A _ H0.out).mono ?_
  rintro e w1 ⟨rfl, h1⟩
  have k0 := h1.s2.cell 0
  have k1 := h1.s2.cell 1
  have k2 := h1.s2.cell 2
  have k3 := h1.s2.cell 3
  simp only [List.getElem?_toArray, List.getElem?_cons_zero, List.getElem?_cons_succ] at k0 k1 k2 k3
  have H1 := Aside.mk h1
  clear h1 H0
  go_wp2_with fail
  refine (scrub_of E _ ⟨kind, name, idx, gen⟩ _ H1.out).mono ?_
  rintro e w2 ⟨rfl, h2⟩
  clear k0 k1 k2 k3
  by_cases hk1 : kind = 1
  · subst hk1
    obtain rfl : r = mendP A name idx := by rw [HM.out, if_pos rfl]
    rw [show ofV ⟨1, name, idx, gen⟩ = .iface 132 (.agg #[.int .i64 1, .string name, .int .i64 idx, .int .i64 gen]) from rfl]
    have ta1 := fun w => ta_pp 1 idx gen name w
    have H2 : Aside (Sat E (w2.alloc (.cells #[.int .i64 1, .string name, .int .i64 idx, .int .i64 gen] 132)) (HP.disk d A * q)) := ⟨(h2.alloc _).right.drop2⟩
    clear h2 H1 HM
    go_wp2_with fail
    refine (pair_mend E q d A name idx _ HQ.out.2.2 (fun f _ c hc => HQ.out.2.1 f idx c hc) HQ.out.1 H2.out).mono ?_
    rintro e w3 ⟨rfl, h3⟩
    have H3 := Aside.mk h3
    clear h3 H2
    go_wp2
    go_ret2
    exact ⟨rfl, H3.out⟩
  · by_cases hk2 : kind = 2
    · subst hk2
      obtain rfl : r = mendS A name gen idx := by rw [HM.out, if_neg hk1, if_pos rfl]
      rw [show ofV ⟨2, name, idx, gen⟩ = .iface 133 (.agg #[.int .i64 2, .string name, .int .i64 idx, .int .i64 gen]) from rfl]
      have ta1 := fun w => ta_ps 2 idx gen name w
      have ta2 := fun w => ta_ss 2 idx gen name w
      have H2 : Aside (Sat E (w2.alloc (.cells #[.int .i64 2, .string name, .int .i64 idx, .int .i64 gen] 133)) (HP.disk d A * q)) := ⟨(h2.alloc _).right.drop2⟩
      clear h2 H1 HM
      go_wp2_with fail
      refine (stripe_mend E q d A name gen idx _ HQ.out.2.2 hi64 (fun k _ i c hc => HQ.out.2.1 _ i c hc) HQ.out.1 H2.out).mono ?_
      rintro e w3 ⟨rfl, h3⟩
      have H3 := Aside.mk h3
      clear h3 H2
      go_wp2
      go_ret2
      exact ⟨rfl, H3.out⟩
    · obtain rfl : r = ((false, 1), A) := by rw [HM.out, if_neg hk1, if_neg hk2]
      rw [show ofV ⟨kind, name, idx, gen⟩ = .nilIface by unfold ofV; rw [if_neg hk1, if_neg hk2]]
      have ta1 := ta_pn
      have ta2 := ta_sn
      have H2 : Aside (Sat E w2 (HP.disk d A * q)) := ⟨h2.drop2⟩
      clear h2 H1 HM
      go_wp2
      go_ret2
      exact ⟨rfl, H2.out⟩
end Go.Proofs.YtnpinegpajbkeaaGreatDoor
namespace Go.Proofs.YtnpinegpajbkeaaGreatDoor
open Go.RowKit Go.Maps Go.Sort Go.Shelf HP
theorem Sat.fresh {E : Env} {w w' : World} {p : HP} {g : Nat} {o : Obj} (h : Sat E w p) (hb : Below w.heap.size w w') (hg : w.heap.size ≤ g) (ho : w'.heap[g]? = some o) : Sat E w' (HP.pt g o * p) := by
  obtain ⟨e, k, hk, hp⟩ := h.below hb
  obtain ⟨e1, k, hk1, hp⟩ := h
  have hn : ∀ b, w.heap.size ≤ b → k b = none := fun b hb => by
    cases hks : k b with
    | none => rfl
    | some u => have := (Array.getElem?_eq_some_iff.1 (hk1 _ _ hks)).1; omega
  refine ⟨e, fun b => if b = g then some o else k b, fun b u hbu => ?_, fun b => if b = g then some o else none, k, fun b => ?_, fun b => ?_, fun b => rfl, hp⟩
  · by_cases hbs : b = g
    · subst hbs; simp at hbu; subst hbu; exact ho
    · simp [hbs] at hbu
      have h1 := hk1 b u hbu
      rw [hb.block b (Array.getElem?_eq_some_iff.1 h1).1]; exact h1
  · by_cases hbs : b = g
    · subst hbs; exact .inr (hn _ hg)
    · simp [hbs]
  · by_cases hbs : b = g
    · subst hbs; simp
    · simp [hbs]
theorem Sat.fresh_row {E : Env} {w w' : World} {p : HP} {e : TypeId} {size n : Nat} {v : Value} {xs : List Value} {base : Nat} (h : Sat E w p) (hb : Below w.heap.size w w') (hbase : w.heap.size ≤ base) (hr : w'.ownsRow base e size v n xs) : Sat E w' (HP.row e size v n xs * p) := by
  obtain ⟨hl, h1 | ⟨g, cap, cur, rfl, hg, hh, hnc, hcm, hcs, ht⟩⟩ := hr
  · obtain ⟨rfl, rfl⟩ := h1
    rw [Nat.zero_mul] at hl
    obtain rfl := List.eq_nil_of_length_eq_zero hl
    exact (h.below hb).row_nil e size none
  · have h2 := (h.fresh hb (Nat.le_trans hbase hg) hh).row_mk (off := 0) (size := size) (n := n) (cs := xs) hnc hcm (by rw [hcs]; simp) (by simpa using ht)
    rw [Nat.zero_mul] at h2
    exact h2
abbrev RN : Value → Option (DataW Unit × List MemPlace) := fun _ => some (.nil, [])
theorem names_le {A : Dk} (h : A.Fine) {s : ByteArray} {l : List Cel} (hm : (s, l) ∈ A.files) : s.size ≤ maxLen := by
  have := (h.named _ hm).1
  simp [namedB] at this
  unfold maxLen
  omega
theorem len_sizeF : ∀ {l : List (ByteArray × List Cel)}, (∀ x ∈ l, x.2 ≠ []) → (l.length : Int) ≤ sizeF l
  | [], _ => by simp [sizeF]
  | x :: l, h => by
    have := len_sizeF (l := l) fun y hy => h y (List.mem_cons_of_mem _ hy)
    have h1 : 1 ≤ x.2.length := by
      have := h x (List.mem_cons_self ..)
      cases hx : x.2 with
      | nil => exact absurd hx this
      | cons => simp
    unfold sizeF at this ⊢
    rw [List.map_cons, List.sum_cons, List.length_cons]
    push_cast at this ⊢
    omega
theorem files_le {A : Dk} (h : A.Fine) : A.files.length ≤ 100000 := by
  have := len_sizeF (l := A.files) fun x hx => (h.named x hx).2
  have := h.fits
  have := h.room
  omega
set_option maxRecDepth 100000 in
theorem own_map {E : Env} {w : World} {q : HP} {d m : Nat} {A : Dk} {room fuse : Int} {es : Array MapEntry} {clock : Nat} {fs : List Fil} (hv : View A es clock fs) (h : Sat E w (HP.dk d room fuse m es clock fs * q)) :
    ∃ D : DataW Unit, w.ownsMap Tryz.prog 9 RN m es.size D ∧ (strKeys D).Perm (A.files.map fun x => x.1.data.toList) ∧ Maps.size D = A.files.length := by
  have hb : w.heap[m]? = some (.map es clock) := by
    unfold HP.dk at h
    exact Sat.get (h.perm (by ac_rfl : _ = HP.pt m (.map es clock) * (HP.dsk d room fuse m * HP.all (fs.map HP.fil) * q)))
  obtain ⟨hk, hes, hn, hbn, hbd⟩ := hv.map
  have hpf := files_perm hv
  have hlen : es.size = fs.length := by
    have := congrArg List.length hes
    simpa using this
  have hlf : fs.length = A.files.length := by simpa using hpf.length_eq
  have hky : ∀ x ∈ es.toList, ∃ f ∈ fs, x.key = .string f.name := fun x hx => by
    have : (x.key, x.val) ∈ es.toList.map fun x => (x.key, x.val) := List.mem_map.2 ⟨x, hx, rfl⟩
    rw [hes] at this
    obtain ⟨f, hf, he⟩ := List.mem_map.1 this
    exact ⟨f, hf, (Prod.mk.inj he).1.symm⟩
  have hnm : ∀ f ∈ fs, f.name.size ≤ maxLen := fun f hf => by
    have : (f.name, f.cs) ∈ A.files := hpf.mem_iff.1 (List.mem_map.2 ⟨f, hf, rfl⟩)
    exact names_le hv.fine this
  have hkeys : es.toList.map (·.key) = fs.map fun f => Value.string f.name := by
    have := congrArg (List.map Prod.fst) hes
    rw [List.map_map, List.map_map] at this
    exact this
  have hrd : ∀ x ∈ es.toList, ∀ f ∈ fs, x.key = .string f.name → WideElems.rd Tryz.prog 9 RN x = some (.string f.name.data.toList, .nil) := fun x hx f hf he => by
    unfold WideElems.rd
    rw [he, WideMaps.keyOf_string_mk Tryz.underlying9 (hnm f hf)]
    rfl
  have hF : WideElems.Fit Tryz.prog 9 RN es clock := by
    refine ⟨by rw [hlen, hlf]; have := files_le hv.fine; unfold maxLen; omega, (MapKept.stamped_iff es clock).2 ⟨hbn, hbd, ?_⟩, fun x hx => ?_⟩
    · have h1 : (es.toList.map (·.key)).Nodup := by
        rw [hkeys]
        unfold List.Nodup at hn ⊢
        rw [List.pairwise_map] at hn ⊢
        exact hn.imp fun {a b} h1 h2 => h1 (Value.string.inj h2)
      exact List.pairwise_map.1 h1
    · obtain ⟨f, hf, he⟩ := hky x hx
      exact ⟨_, hrd x hx f hf he⟩
  refine ⟨_, ⟨es, clock, hb, hF, Nat.le_refl _, rfl⟩, ?_, ?_⟩
  · have hp := WideShapes.sorted_perm (es.toList.map (WideElems.rg Tryz.prog 9 RN))
    have h1 : (es.toList.map (WideElems.rg Tryz.prog 9 RN)).map (fun p => Go.strOf p.1) = fs.map fun f => f.name.data.toList := by
      rw [List.map_map]
      have : ∀ (l : List MapEntry), (∀ x ∈ l, x ∈ es.toList) → ∀ (gs : List Fil), (∀ f ∈ gs, f ∈ fs) → l.map (·.key) = gs.map (fun f => Value.string f.name) → l.map ((fun p => Go.strOf p.1) ∘ WideElems.rg Tryz.prog 9 RN) = gs.map fun f => f.name.data.toList := by
        intro l
        induction l with
        | nil => intro _ gs _ h; cases gs with
          | nil => rfl
          | cons => simp at h
        | cons x l ih =>
          intro hl gs hg h
          cases gs with
          | nil => simp at h
          | cons f gs =>
            simp only [List.map_cons, List.cons.injEq] at h
            rw [List.map_cons, List.map_cons, ih (fun y hy => hl y (List.mem_cons_of_mem _ hy)) gs (fun y hy => hg y (List.mem_cons_of_mem _ hy)) h.2]
            congr 1
            have := hrd x (hl x (List.mem_cons_self ..)) f (hg f (List.mem_cons_self ..)) h.1
            show Go.strOf (WideElems.rg Tryz.prog 9 RN x).1 = _
            rw [WideElems.rg_of this]
            rfl
      exact this _ (fun _ h => h) fs (fun _ h => h) hkeys
    show ((List.foldr DataW.insert [] (es.toList.map (WideElems.rg Tryz.prog 9 RN))).map fun p => Go.strOf p.1).Perm _
    have hp2 := hp.map (fun p : Lit × DataW Unit => Go.strOf p.1)
    rw [h1] at hp2
    refine List.Perm.trans hp2 ?_
    have := hpf.map fun x => x.1.data.toList
    rw [List.map_map] at this
    exact this
  · rw [Maps.size_eq, (WideShapes.sorted_perm _).length_eq, List.length_map, Array.length_toList, hlen, hlf]
theorem names_sorted {A : Dk} (h : A.Fine) {ss : List (List UInt8)} (hp : ss.Perm (A.files.map fun x => x.1.data.toList)) : ss.mergeSort (fun x y => decide (x ≤ y)) = A.files.map fun x => x.1.data.toList := by
  have e := mergeSort_of_perm hp
  show ss.mergeSort leB = _
  rw [e]
  refine List.mergeSort_of_pairwise ?_
  rw [List.pairwise_map]
  refine h.sorted.imp fun {x y} hxy => ?_
  unfold ltN at hxy
  have key : ∀ (x y : List UInt8), Op.bytesLess x y = decide (x < y) := by
    intro x
    induction x with
    | nil => intro y; cases y <;> simp [Op.bytesLess]
    | cons a x ih =>
      intro y
      cases y with
      | nil => simp [Op.bytesLess]
      | cons b y =>
        simp only [Op.bytesLess, ih y, List.cons_lt_cons_iff]
        by_cases h : a < b <;> by_cases h' : a = b <;> simp [h, h']
  rw [key, decide_eq_true_eq, ByteArray.toList_eq, ByteArray.toList_eq] at hxy
  exact decide_eq_true (List.le_of_lt hxy)
end Go.Proofs.YtnpinegpajbkeaaGreatDoor
namespace Go.Proofs.YtnpinegpajbkeaaGreatDoor
open Go.RowKit HP
theorem take_snoc {α : Type} {l : List α} {k : Nat} {x : α} (h : l[k]? = some x) : l.take (k + 1) = l.take k ++ [x] := by
  obtain ⟨hk, rfl⟩ := List.getElem?_eq_some_iff.1 h
  exact List.take_succ_eq_append_getElem hk
def plI (fs : List RF) (name : ByteArray) : Int := match fs.findIdx? (fun f => decide (f.name = name)) with | some k => k | none => -1
theorem plI_cases (fs : List RF) (name : ByteArray) : (∃ (k : Nat) (f : RF), plI fs name = k ∧ fs[k]? = some f ∧ f.name = name ∧ (∀ j < k, ∀ g, fs[j]? = some g → g.name ≠ name)) ∨ (plI fs name = -1 ∧ ∀ f ∈ fs, f.name ≠ name) := by
  unfold plI
  cases h : fs.findIdx? (fun f => decide (f.name = name)) with
  | some k =>
    obtain ⟨hk, h1, h2⟩ := List.findIdx?_eq_some_iff_getElem.1 h
    refine .inl ⟨k, fs[k], rfl, List.getElem?_eq_getElem hk, by simpa using h1, fun j hj g hg => ?_⟩
    have := h2 j hj
    obtain ⟨hj2, rfl⟩ := List.getElem?_eq_some_iff.1 hg
    simpa using this
  | none =>
    refine .inr ⟨rfl, fun f hf => ?_⟩
    have := List.findIdx?_eq_none_iff.1 h f hf
    simpa using this
theorem plI_first {fs : List RF} {name : ByteArray} {k : Nat} {f : RF} (hk : fs[k]? = some f) (hn : f.name = name) (hb : ∀ j < k, ∀ g, fs[j]? = some g → g.name ≠ name) : plI fs name = k := by
  rcases plI_cases fs name with ⟨k', f', h1, h2, h3, h4⟩ | ⟨-, h⟩
  · rw [h1]
    rcases Nat.lt_trichotomy k k' with h | h | h
    · exact absurd hn (h4 k h f hk)
    · rw [h]
    · exact absurd h3 (hb k' h f' h2)
  · exact absurd hn (h f (List.mem_of_getElem? hk))
theorem plI_none {fs : List RF} {name : ByteArray} (h : ∀ f ∈ fs, f.name ≠ name) : plI fs name = -1 := by
  rcases plI_cases fs name with ⟨k', f', h1, h2, h3, h4⟩ | ⟨h, -⟩
  · exact absurd h3 (h f' (List.mem_of_getElem? h2))
  · exact h
theorem lk_files : ∀ (fs : List RF) (name : ByteArray), lk (fs.map fun f => (f.name, f.cs.map (·.c))) name = (fs.find? fun f => decide (f.name = name)).map fun f => f.cs.map (·.c)
  | [], _ => rfl
  | f :: fs, name => by
    rw [List.map_cons, lk_cons, List.find?_cons]
    by_cases h : f.name = name
    · simp [h]
    · rw [if_neg h, lk_files fs name]
      simp [h]
theorem RView.lk_some {A : Dk} {fs : List RF} {L : List (Value × List Int)} (hv : RView A fs L) {k : Nat} {f : RF} (hk : fs[k]? = some f) (hb : ∀ j < k, ∀ g, fs[j]? = some g → g.name ≠ f.name) : lk A.files f.name = some (f.cs.map (·.c)) := by
  rw [← hv.same, lk_files]
  have : fs.find? (fun g => decide (g.name = f.name)) = some f := by
    rw [List.find?_eq_some_iff_getElem]
    obtain ⟨hk2, rfl⟩ := List.getElem?_eq_some_iff.1 hk
    refine ⟨by simp, k, hk2, rfl, fun j hj => ?_⟩
    have := hb j hj _ (List.getElem?_eq_getElem (by omega))
    simpa using this
  rw [this]; rfl
theorem RView.lk_none {A : Dk} {fs : List RF} {L : List (Value × List Int)} (hv : RView A fs L) {name : ByteArray} (h : ∀ f ∈ fs, f.name ≠ name) : lk A.files name = none := by
  rw [← hv.same, lk_files]
  have : fs.find? (fun g => decide (g.name = name)) = none := by
    rw [List.find?_eq_none]
    intro f hf
    simpa using h f hf
  rw [this]; rfl
theorem RView.len {A : Dk} {fs : List RF} {L : List (Value × List Int)} (hv : RView A fs L) : fs.length = A.files.length := by rw [← hv.same, List.length_map]
theorem rf_get {fs : List RF} {k : Nat} {f : RF} (hk : fs[k]? = some f) : (fs.flatMap RF.vals)[k * 2]? = some (.string f.name) ∧ (fs.flatMap RF.vals)[k * 2 + 1]? = some f.val := by
  have hg := fun j (hj : j < 2) => flat_get RF.vals 2 fs (fun _ => rfl) k j f hk hj
  have h0 := hg 0 (by omega)
  have h1 := hg 1 (by omega)
  exact ⟨by simpa [RF.vals] using h0, by simpa [RF.vals] using h1⟩
theorem Sat.rf_val {E : Env} {w : World} {q : HP} {y : Nat} {room fuse : Int} {v : Value} {fs : List RF} {L : List (Value × List Int)} {f : RF} (hf : f ∈ fs) (h : Sat E w (HP.rdk y room fuse v fs L * q)) : ∃ A c, f.val = .slice A f.cs.length c ∧ f.cs.length ≤ c ∧ c ≤ maxLen := by
  obtain ⟨r, hr⟩ := all_mem (List.mem_map.2 ⟨f, hf, rfl⟩ : HP.rcs f ∈ fs.map HP.rcs)
  have h2 := h.rdk_parts.s3
  rw [hr] at h2
  unfold HP.rcs at h2
  exact (h2.perm (HP.mul_assoc _ _ _)).row_slice
set_option maxHeartbeats 2000000 in
set_option maxRecDepth 100000 in
theorem ref_place (E : Env) (q : HP) (y : Nat) (room fuse : Int) (v : Value) (fs : List RF) (L : List (Value × List Int)) (name : ByteArray) (w : World) (hfl : fs.length ≤ 100000) (hw : Sat E w (HP.rdk y room fuse v fs L * q)) :
    Calls Tryz.prog 119 #[.pointer (some ⟨y, 0, none⟩), .string name] w fun e w' => e = .returned (.int .i64 (plI fs name)) ∧ Sat E w' (HP.rdk y room fuse v fs L * q) := by
  have hp := hw.rdk_parts
  have c1 := hp.cell 1
  simp only [List.getElem?_toArray, List.getElem?_cons_zero, List.getElem?_cons_succ] at c1
  obtain ⟨FA, cF, rfl, hcF, hcM⟩ := hp.s2.row_slice
  have HW := Aside.mk hw
  clear hw hp
  obtain ⟨n, hn⟩ : ∃ n, n = fs.length := ⟨_, rfl⟩
  rw [← hn] at c1 hcF hfl
  have HN := Aside.mk hn
  obtain ⟨R, hR⟩ : ∃ R, R = plI fs name := ⟨_, rfl⟩
  rw [← hR]
  have HR := Aside.mk hR
  clear hR hn
  rw [← HN.out] at HW
  go_enter Tryz.func119, Tryz.ntmps119
  go_wp2
  go_loopw [12] (fun v12 wr => ∃ k : Nat, k ≤ n ∧ v12 = .int .i64 k ∧ Aside (∀ j < k, ∀ g, fs[j]? = some g → g.name ≠ name) ∧ Aside (Sat E wr (HP.rdk y room fuse (.slice FA n cF) fs L * q))) (fun i _ => n - (intOf i).toNat)
  case atStart => exact ⟨0, Nat.zero_le _, rfl, ⟨fun j hj => by omega⟩, HW⟩
  case round =>
    clear HW c1
    obtain ⟨k, hk, rfl, HB, HS⟩ := hrel
    by_cases hlt : k < n
    · have hlt2 : (k : Int) < (n : Int) := by omega
      have h0 : (0 : Int) ≤ (k : Int) := by omega
      obtain ⟨f, hf⟩ : ∃ f, fs[k]? = some f := ⟨_, List.getElem?_eq_getElem (by rw [← HN.out]; exact hlt)⟩
      have hrow := HS.out.rdk_parts.s2
      rw [← HN.out] at hrow
      obtain ⟨e0, e1⟩ := rf_get hf
      have hrc := hrow.row_cells
      obtain ⟨pa, hpa, -⟩ := hrc _ _ e0
      obtain ⟨g, o, rfl⟩ : ∃ g o, pa = ⟨g, o, none⟩ := slice_addr hrc hpa (List.getElem?_eq_some_iff.1 e0).1
      rw [hpa] at hrc
      have c0 := hrc.some_ _ _ e0
      have c1 := hrc.some_ _ _ e1
      rw [addr_add] at c0 c1
      rw [← Nat.add_assoc] at c1
      rw [hpa]
      obtain ⟨VA, VC, hval, -, -⟩ := HS.out.rf_val (List.mem_of_getElem? hf)
      rw [hval] at c1
      obtain ⟨vn, hvn⟩ : ∃ vn, vn = f.cs.length := ⟨_, rfl⟩
      obtain ⟨fn, hfn⟩ : ∃ fn, fn = f.name := ⟨_, rfl⟩
      rw [← hvn] at c1
      rw [← hfn] at c0
      have HB2 := Aside.mk (HS.out.alloc (.cells #[.string fn, .slice VA vn VC] 174)).right
      have HF := Aside.mk (And.intro hf hfn)
      rw [hpa] at HB2
      clear hrow hrc e0 e1 hf hfn hvn hval
      by_cases hfn : (fn.toList == name.toList) = true
      · have HE : Aside (fn = name) := ⟨toList_inj (by simpa using hfn)⟩
        go_wp2
        go_ret
        refine ⟨by rw [HR.out, plI_first HF.out.1 (by rw [← HF.out.2, HE.out]) HB.out]; rfl, ?_⟩
        rw [← HN.out, hpa]
        exact HB2.out
      · have hne : fn ≠ name := fun h => hfn (by rw [h]; simp)
        have hfn : (fn.toList == name.toList) = false := by simpa using hfn
        have HB3 : Aside (∀ j < k + 1, ∀ g, fs[j]? = some g → g.name ≠ name) := ⟨fun j hj g hg => by
          rcases Nat.lt_or_ge j k with h | h
          · exact HB.out j h g hg
          · obtain rfl : j = k := by omega
            rw [HF.out.1] at hg
            cases hg
            rw [← HF.out.2]
            exact hne⟩
        clear hne
        go_wp2
        go_roundw
        case rel => exact ⟨k + 1, by omega, by go_num, HB3, HB2⟩
        case measure => simp [intOf]; omega
    · obtain rfl : k = n := by omega
      have hno : R = -1 := by
        rw [HR.out]
        refine plI_none fun f hf => ?_
        obtain ⟨j, hj⟩ := List.getElem?_of_mem hf
        exact HB.out j (by have := (List.getElem?_eq_some_iff.1 hj).1; have := HN.out; omega) f hj
      have HNO := Aside.mk hno
      clear hno
      go_wp2
      go_ret
      refine ⟨by rw [HNO.out]; rfl, ?_⟩
      rw [← HN.out]
      exact HS.out
set_option maxHeartbeats 2000000 in
set_option maxRecDepth 100000 in
theorem ref_free (E : Env) (q : HP) (y : Nat) (A : Dk) (v : Value) (fs : List RF) (L : List (Value × List Int)) (w : World) (hv : RView A fs L) (hw : Sat E w (HP.rdk y A.room A.fuse v fs L * q)) :
    Calls Tryz.prog 87 #[.pointer (some ⟨y, 0, none⟩)] w fun e w' => e = .returned (.int .i64 A.free) ∧ Sat E w' (HP.rdk y A.room A.fuse v fs L * q) := by
  have hp := hw.rdk_parts
  have c0 := hp.cell 0
  have c1 := hp.cell 1
  simp only [List.getElem?_toArray, List.getElem?_cons_zero, List.getElem?_cons_succ] at c0 c1
  obtain ⟨FA, cF, rfl, hcF, hcM⟩ := hp.s2.row_slice
  have hfl : fs.length ≤ 100000 := by rw [hv.len]; exact files_le hv.fine
  have hroom := hv.fine.room
  obtain ⟨fuse, hfu⟩ : ∃ fuse, fuse = A.fuse := ⟨_, rfl⟩
  obtain ⟨room, hro⟩ : ∃ room, room = A.room := ⟨_, rfl⟩
  obtain ⟨R, hR⟩ : ∃ R, R = A.free := ⟨_, rfl⟩
  rw [← hro] at hroom hw c0 ⊢
  rw [← hfu] at hw ⊢
  rw [← hR]
  have HR : Aside (R = room - (((fs.map fun f => f.cs.length).sum : Nat) : Int)) := ⟨by
    rw [hR, hro]; unfold Dk.free sizeF
    rw [← hv.same, List.map_map]
    congr 3
    apply List.map_congr_left
    intro f _
    simp⟩
  have hfit : (((fs.map fun f => f.cs.length).sum : Nat) : Int) ≤ room := by
    have := hv.fine.fits
    unfold sizeF at this
    rw [← hv.same, List.map_map, ← hro] at this
    have e : (fs.map fun f => f.cs.length) = fs.map ((fun x : ByteArray × List Cel => x.2.length) ∘ fun f => (f.name, f.cs.map (·.c))) := by
      apply List.map_congr_left
      intro f _
      simp
    rw [e]; exact this
  have HW := Aside.mk hw
  have HFit := Aside.mk hfit
  clear hw hp hv hfu hro hR hfit
  obtain ⟨n, hn⟩ : ∃ n, n = fs.length := ⟨_, rfl⟩
  rw [← hn] at c1 hcF hfl HW
  have HN := Aside.mk hn
  clear hn
  go_enter Tryz.func87, Tryz.ntmps87
  go_wp2
  go_loopw [3, 15] (fun v3 v15 wr => ∃ k : Nat, k ≤ n ∧ v15 = .int .i64 k ∧ (∃ s : Nat, v3 = .int .i64 (room - (s : Int)) ∧ Aside (s = ((fs.take k).map fun f => f.cs.length).sum)) ∧ Aside (Sat E wr (HP.rdk y room fuse (.slice FA n cF) fs L * q))) (fun _ i _ => n - (intOf i).toNat)
  case atStart => exact ⟨0, Nat.zero_le _, rfl, ⟨0, by simp, ⟨by simp⟩⟩, HW⟩
  case round =>
    clear HW c1 c0
    obtain ⟨k, hk, rfl, ⟨s, rfl, HB⟩, HS⟩ := hrel
    by_cases hlt : k < n
    · have hlt2 : (k : Int) < (n : Int) := by omega
      have h0 : (0 : Int) ≤ (k : Int) := by omega
      obtain ⟨f, hf⟩ : ∃ f, fs[k]? = some f := ⟨_, List.getElem?_eq_getElem (by rw [← HN.out]; exact hlt)⟩
      have hrow := HS.out.rdk_parts.s2
      rw [← HN.out] at hrow
      obtain ⟨e0, e1⟩ := rf_get hf
      have hrc := hrow.row_cells
      obtain ⟨pa, hpa, -⟩ := hrc _ _ e0
      obtain ⟨g, o, rfl⟩ : ∃ g o, pa = ⟨g, o, none⟩ := slice_addr hrc hpa (List.getElem?_eq_some_iff.1 e0).1
      rw [hpa] at hrc
      have c0 := hrc.some_ _ _ e0
      have c1 := hrc.some_ _ _ e1
      rw [addr_add] at c0 c1
      rw [← Nat.add_assoc] at c1
      rw [hpa]
      obtain ⟨VA, VC, hval, -, -⟩ := HS.out.rf_val (List.mem_of_getElem? hf)
      rw [hval] at c1
      obtain ⟨vn, hvn⟩ : ∃ vn, vn = f.cs.length := ⟨_, rfl⟩
      obtain ⟨fn, hfn⟩ : ∃ fn, fn = f.name := ⟨_, rfl⟩
      rw [← hvn] at c1
      rw [← hfn] at c0
      have HB2 := Aside.mk (HS.out.alloc (.cells #[.string fn, .slice VA vn VC] 174)).right
      have hst : fs.take (k + 1) = fs.take k ++ [f] := take_snoc hf
      have hsum : s + vn = ((fs.take (k + 1)).map fun f => f.cs.length).sum := by rw [hst, List.map_append, List.sum_append, ← HB.out, hvn]; simp
      have hsle : ((fs.take (k + 1)).map fun f => f.cs.length).sum ≤ (fs.map fun f => f.cs.length).sum := by
        have := congrArg (fun l => (l.map fun f : RF => f.cs.length).sum) (List.take_append_drop (k + 1) fs)
        simp only [List.map_append, List.sum_append] at this
        omega
      have hfit2 : ((s + vn : Nat) : Int) ≤ room := by have := HFit.out; omega
      have hz1 : (-9223372036854775808 : Int) ≤ room - (s : Int) - (vn : Int) := by omega
      have hz2 : room - (s : Int) - (vn : Int) ≤ 9223372036854775807 := by omega
      have HSM := Aside.mk hsum
      rw [hpa] at HB2
      clear hrow hrc e0 e1 hf hfn hvn hval hst hsum hsle hfit2
      go_wp2
      go_roundw
      case rel => exact ⟨k + 1, by omega, by go_num, ⟨s + vn, by congr 1; omega, HSM⟩, HB2⟩
      case measure => simp [intOf]; omega
    · obtain rfl : k = n := by omega
      go_wp2
      go_ret
      refine ⟨?_, by rw [← HN.out]; exact HS.out⟩
      rw [HR.out, HB.out, List.take_of_length_le (by rw [← HN.out]; exact Nat.le_refl _)]
      rfl
theorem RView.flen {A : Dk} {fs : List RF} {L : List (Value × List Int)} (hv : RView A fs L) : fs.length ≤ 100000 := by rw [hv.len]; exact files_le hv.fine
theorem RView.at_some {A : Dk} {fs : List RF} {L : List (Value × List Int)} (hv : RView A fs L) {k : Nat} {f : RF} (hk : fs[k]? = some f) (hb : ∀ j < k, ∀ g, fs[j]? = some g → g.name ≠ f.name) : A.at f.name = f.cs.map (·.c) := by
  unfold Dk.at; rw [hv.lk_some hk hb]; rfl
theorem RView.at_none {A : Dk} {fs : List RF} {L : List (Value × List Int)} (hv : RView A fs L) {name : ByteArray} (h : ∀ f ∈ fs, f.name ≠ name) : A.at name = [] := by
  unfold Dk.at; rw [hv.lk_none h]; rfl
theorem Sat.rf_at {E : Env} {w : World} {q : HP} {y : Nat} {room fuse : Int} {FA : Option Addr} {n cF : Nat} {fs : List RF} {L : List (Value × List Int)} {k : Nat} {f : RF} (hn : n = fs.length) (hk : fs[k]? = some f) (h : Sat E w (HP.rdk y room fuse (.slice FA n cF) fs L * q)) :
    ∃ g o VA VC, FA = some ⟨g, o, none⟩ ∧ f.val = .slice VA f.cs.length VC ∧ f.cs.length ≤ VC ∧ w.cell? ⟨g, o + k * 2, none⟩ = some (.string f.name) ∧ w.cell? ⟨g, o + k * 2 + 1, none⟩ = some (.slice VA f.cs.length VC) := by
  have hrow := h.rdk_parts.s2
  rw [← hn] at hrow
  obtain ⟨e0, e1⟩ := rf_get hk
  have hrc := hrow.row_cells
  obtain ⟨pa, hpa, -⟩ := hrc _ _ e0
  obtain ⟨g, o, rfl⟩ : ∃ g o, pa = ⟨g, o, none⟩ := slice_addr hrc hpa (List.getElem?_eq_some_iff.1 e0).1
  rw [hpa] at hrc
  have c0 := hrc.some_ _ _ e0
  have c1 := hrc.some_ _ _ e1
  rw [addr_add] at c0 c1
  rw [← Nat.add_assoc] at c1
  obtain ⟨VA, VC, hval, hc, -⟩ := h.rf_val (List.mem_of_getElem? hk)
  rw [hval] at c1
  exact ⟨g, o, VA, VC, hpa, hval, hc, c0, c1⟩
set_option maxHeartbeats 2000000 in
set_option maxRecDepth 100000 in
theorem ref_extents (E : Env) (q : HP) (y : Nat) (A : Dk) (v : Value) (fs : List RF) (L : List (Value × List Int)) (name : ByteArray) (w : World) (hv : RView A fs L) (hw : Sat E w (HP.rdk y A.room A.fuse v fs L * q)) :
    Calls Tryz.prog 75 #[.pointer (some ⟨y, 0, none⟩), .string name] w fun e w' => e = .returned (.int .i64 ((A.at name).length : Int)) ∧ Sat E w' (HP.rdk y A.room A.fuse v fs L * q) := by
  obtain ⟨FA, cF, rfl, hcF, hcM⟩ := hw.rdk_parts.s2.row_slice
  obtain ⟨R, hR⟩ : ∃ R : Int, R = ((A.at name).length : Int) := ⟨_, rfl⟩
  rw [← hR]
  have HR := Aside.mk hR
  clear hR
  have HV := Aside.mk hv
  clear hv
  obtain ⟨fuse, hfu⟩ : ∃ fuse, fuse = A.fuse := ⟨_, rfl⟩
  obtain ⟨room, hro⟩ : ∃ room, room = A.room := ⟨_, rfl⟩
  rw [← hfu, ← hro] at hw ⊢
  clear hfu hro
  obtain ⟨n, hn⟩ : ∃ n, n = fs.length := ⟨_, rfl⟩
  have hfl := HV.out.flen
  rw [← hn] at hcF hw hfl ⊢
  have HN := Aside.mk hn
  have HW := Aside.mk hw
  clear hn hw
  go_enter Tryz.func75, Tryz.ntmps75
  go_wp2_with fail
  refine (ref_place E q y room fuse _ fs L name w (by rw [← HN.out]; exact hfl) HW.out).mono ?_
  rintro e w1 ⟨rfl, h1⟩
  have HS := Aside.mk h1
  clear h1
  obtain ⟨pl, hpl⟩ : ∃ pl, pl = plI fs name := ⟨_, rfl⟩
  rw [← hpl]
  have c1 := HS.out.rdk_parts.cell 1
  simp only [List.getElem?_toArray, List.getElem?_cons_zero, List.getElem?_cons_succ] at c1
  rcases plI_cases fs name with ⟨k, f, h1, h2, h3, h4⟩ | ⟨h1, h2⟩
  · rw [← hpl] at h1
    have hkn : k < n := by rw [HN.out]; exact (List.getElem?_eq_some_iff.1 h2).1
    have hk0 : (0 : Int) ≤ (k : Int) := by omega
    have hk1 : (k : Int) < (n : Int) := by omega
    obtain ⟨g, o, VA, VC, rfl, hval, hvc, g0, g1⟩ := HS.out.rf_at HN.out h2
    have hRf : R = (f.cs.length : Int) := by rw [HR.out, ← h3, HV.out.at_some h2 (by rw [h3]; exact h4)]; simp
    obtain ⟨vn, hvn⟩ : ∃ vn, vn = f.cs.length := ⟨_, rfl⟩
    rw [← hvn] at hRf g1
    have HRF := Aside.mk hRf
    subst h1
    clear hpl h2 h3 h4 hval hvc hvn hRf
    go_wp2
    go_ret
    exact ⟨by rw [HRF.out]; rfl, HS.out⟩
  · rw [← hpl] at h1
    subst h1
    have hRf : R = 0 := by rw [HR.out, HV.out.at_none h2]; rfl
    have HRF := Aside.mk hRf
    clear hpl h2 hRf
    go_wp2
    go_ret
    exact ⟨by rw [HRF.out]; rfl, HS.out⟩
end Go.Proofs.YtnpinegpajbkeaaGreatDoor
