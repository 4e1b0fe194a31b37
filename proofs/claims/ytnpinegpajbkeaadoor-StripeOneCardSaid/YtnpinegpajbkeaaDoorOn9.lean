/- Texts of one claim, one behind the other: CmpA, DamC, DamS, StOnP, StOnB, SortS, LaySp, Dam. -/
import Derived.Test.YtnpinegpajbkeaaDoorOn8
import Derived.Laws.Cover1
import Derived.Sort.Grow
import Derived.Sort.Statements
import Derived.Shelf.SlSortCmp.NoneTotal
import Derived.Test.YtnpinegpajbkeaaDoorProg
/- cmp.Compare of texts and of whole numbers, cmp.Or; the order of spots. -/
namespace Go.Proofs.YtnpinegpajbkeaaDoor
open Go.RowKit HP
set_option linter.unusedSimpArgs false
set_option linter.unusedVariables false

def cmpS (a b : ByteArray) : Int := if ltN a b = true then -1 else if ltN b a = true then 1 else 0
def cmpI (a b : Int) : Int := if a < b then -1 else if b < a then 1 else 0
def orL (l : List Int) : Int := (l.find? (fun x => decide (x ≠ 0))).getD 0
set_option maxHeartbeats 1000000 in
theorem isNaN_str (a : ByteArray) (w : World) : Calls Tryd.prog 71 #[.string a] w fun e w' => e = .returned (.bool false) ∧ w' = w := by
  go_enter Tryd.func71, Tryd.ntmps71
  go_wp2
  go_ret
  exact ⟨rfl, rfl⟩
set_option maxHeartbeats 1000000 in
theorem isNaN_int (a : Int) (w : World) : Calls Tryd.prog 72 #[.int .i64 a] w fun e w' => e = .returned (.bool false) ∧ w' = w := by
  go_enter Tryd.func72, Tryd.ntmps72
  go_wp2
  go_ret
  exact ⟨rfl, rfl⟩
theorem gtr_less (a b : ByteArray) : (!(Op.bytesLess a.toList b.toList || a.toList == b.toList)) = Op.bytesLess b.toList a.toList := by
  by_cases h : a.toList = b.toList
  · rw [h, bytesLess_irrefl]; simp
  · cases h1 : Op.bytesLess a.toList b.toList with
    | true =>
      cases h2 : Op.bytesLess b.toList a.toList with
      | false => rfl
      | true =>
        have := bytesLess_trans h1 h2
        rw [bytesLess_irrefl] at this
        cases this
    | false => rw [bytesLess_total h1 h]; simp [h]
set_option maxHeartbeats 1000000 in
theorem compare_str (a b : ByteArray) (w : World) : Calls Tryd.prog 32 #[.string a, .string b] w fun e w' => e = .returned (.int .i64 (cmpS a b)) ∧ w' = w := by
  have hg := gtr_less a b
  go_enter Tryd.func32, Tryd.ntmps32
  go_wp2_with fail
  refine (isNaN_str a _).mono ?_
  rintro e w1 ⟨rfl, rfl⟩
  go_wp2_with fail
  refine (isNaN_str b _).mono ?_
  rintro e w1 ⟨rfl, rfl⟩
  go_wp2
  all_goals (go_ret; refine ⟨?_, rfl⟩; unfold cmpS ltN; rw [← hg]; simp_all)
set_option maxHeartbeats 1000000 in
theorem compare_int (a b : Int) (w : World) : Calls Tryd.prog 33 #[.int .i64 a, .int .i64 b] w fun e w' => e = .returned (.int .i64 (cmpI a b)) ∧ w' = w := by
  go_enter Tryd.func33, Tryd.ntmps33
  go_wp2_with fail
  refine (isNaN_int a _).mono ?_
  rintro e w1 ⟨rfl, rfl⟩
  go_wp2_with fail
  refine (isNaN_int b _).mono ?_
  rintro e w1 ⟨rfl, rfl⟩
  go_wp2
  all_goals (go_ret; refine ⟨?_, rfl⟩; unfold cmpI; first | (rw [if_pos (by omega)]; rfl) | (rw [if_neg (by omega), if_pos (by omega)]; rfl) | (rw [if_neg (by omega), if_neg (by omega)]; rfl))
set_option maxHeartbeats 1000000 in
theorem cmp_or2 (x y : Int) (A : Addr) (c : Nat) (w : World) (h : Cells w (some A) [.int .i64 x, .int .i64 y]) : Calls Tryd.prog 31 #[.slice (some A) 2 c] w fun e w' => e = .returned (.int .i64 (if x = 0 then y else x)) ∧ w' = w := by
  obtain ⟨g, o, rfl⟩ := slice_addr h rfl (k := 0) (by simp)
  have g0 : w.cell? ⟨g, o, none⟩ = some (.int .i64 x) := by
    obtain ⟨a, ha, hc⟩ := h.at_ 0 (by simp)
    cases ha
    exact hc
  have g1 : w.cell? ⟨g, o + 1, none⟩ = some (.int .i64 y) := by
    obtain ⟨a, ha, hc⟩ := h.at_ 1 (by simp)
    cases ha
    exact hc
  clear h
  go_enter Tryd.func31, Tryd.ntmps31
  go_wp2
  go_loopw [8] (fun v8 wr => ∃ k : Nat, k ≤ 2 ∧ v8 = .int .i64 k ∧ wr = w ∧ (0 < k → x = 0) ∧ (1 < k → y = 0)) (fun i _ => 2 - (intOf i).toNat)
  case atStart => exact ⟨0, by omega, rfl, rfl, by omega, by omega⟩
  case round =>
    obtain ⟨k, hk, rfl, rfl, hkx, hky⟩ := hrel
    have hc : k = 0 ∨ k = 1 ∨ k = 2 := by omega
    rcases hc with h0 | h0 | h0 <;> subst h0
    · clear hkx hky
      by_cases hx : x = 0
      · subst hx
        go_wp2
        go_roundw
        case rel => exact ⟨1, by omega, by simp, by simp, by simp, by simp⟩
        case measure => simp [intOf]
      · have hxb : (x == 0) = false := by rw [beq_eq_false_iff_ne]; exact hx
        go_wp2
        all_goals (go_ret; exact ⟨rfl, rfl⟩)
    · have hx := hkx (by omega)
      subst hx
      clear hkx hky
      by_cases hy : y = 0
      · subst hy
        go_wp2
        go_roundw
        case rel => exact ⟨2, by omega, by simp, by simp, by simp, by simp⟩
        case measure => simp [intOf]
      · have hyb : (y == 0) = false := by rw [beq_eq_false_iff_ne]; exact hy
        go_wp2
        all_goals (go_ret; exact ⟨rfl, rfl⟩)
    · have hx := hkx (by omega)
      have hy := hky (by omega)
      subst hx
      subst hy
      go_wp2
      go_ret
      exact ⟨rfl, rfl⟩
end Go.Proofs.YtnpinegpajbkeaaDoor
/- The order that (*Disk).Damaged sorts spots by. -/
namespace Go.Proofs.YtnpinegpajbkeaaDoor
open Go.RowKit Go.Sort HP
set_option linter.unusedSimpArgs false
set_option linter.unusedVariables false

def encSpot (x : ByteArray × Int) : List Value := [.string x.1, .int .i64 x.2]
def cmpSpot (x y : ByteArray × Int) : Int := if cmpS x.1 y.1 = 0 then cmpI x.2 y.2 else cmpS x.1 y.1
set_option maxHeartbeats 2000000 in
set_option maxRecDepth 100000 in
theorem damaged_cmp (s t : ByteArray) (i j : Int) (W : World) : Calls Tryd.prog 66 #[.agg #[.string s, .int .i64 i], .agg #[.string t, .int .i64 j]] W fun e w' => e = .returned (.int .i64 (if cmpS s t = 0 then cmpI i j else cmpS s t)) ∧ ∃ q os', w' = grow (W.drewN q) os' := by
  have a0 := fun k => Sat.cell (Sat.s2 ((((Sat.nothing (w := W)).alloc (.cells #[.string s, .int .i64 i] 25)).alloc (.cells #[.string t, .int .i64 j] 25)).drew)) k
  have a1 := fun k => Sat.cell ((((Sat.nothing (w := W)).alloc (.cells #[.string s, .int .i64 i] 25)).alloc (.cells #[.string t, .int .i64 j] 25)).drew) k
  rw [show (W.alloc (.cells #[.string s, .int .i64 i] 25)).heap.size = W.heap.size + 1 by simp] at a1
  have g0 := a0 0
  have g1 := a0 1
  have g2 := a1 0
  have g3 := a1 1
  simp only [List.getElem?_toArray, List.getElem?_cons_zero, List.getElem?_cons_succ] at g0 g1 g2 g3
  clear a0 a1
  have hcs := compare_str s t
  have hci := compare_int i j
  generalize cmpS s t = x at *
  generalize cmpI i j = y at *
  obtain ⟨z, hz⟩ : ∃ z, z = if x = 0 then y else x := ⟨_, rfl⟩
  rw [← hz]
  have HZ := Aside.mk hz
  clear hz
  go_enter Tryd.func66, Tryd.ntmps66
  go_wp2
  refine region_R [4, 9, 10, 11] [4, 9] (fun w => w = (((W.alloc (.cells #[.string s, .int .i64 i] 25)).alloc (.cells #[.string t, .int .i64 j] 25)).drew)) #[false, false, false, false, false, false, false, false, false, false, false, false, false] (by kernel_rfl) rfl rfl ?_
  refine wpR_rd 0 #[true, false, false, false, false, false, false, false, false, false, false, false, false] rfl onlyN_noPanic (by kernel_rfl) (fun K hK => ?_); (go_simp; try go_bits); refine hK _ ?_; clear hK K
  refine wpR_rd 1 #[true, true, false, false, false, false, false, false, false, false, false, false, false] rfl onlyN_noPanic (by kernel_rfl) (fun K hK => ?_); (go_simp; try go_bits); refine hK _ ?_; clear hK K
  refine wpR_rd 2 #[true, true, true, false, false, false, false, false, false, false, false, false, false] rfl onlyN_noPanic (by kernel_rfl) (fun K hK => ?_); (go_simp; try go_bits); refine hK _ ?_; clear hK K
  refine wpR_rd 3 #[true, true, true, true, false, false, false, false, false, false, false, false, false] rfl onlyN_noPanic (by kernel_rfl) (fun K hK => ?_); (go_simp; try go_bits); refine hK _ ?_; clear hK K
  refine wpR_pu 5 #[true, true, true, true, false, true, false, false, false, false, false, false, false] rfl onlyN_noPanic (by kernel_rfl) (fun K hK => ?_); (go_simp; try go_bits); refine hK _ ?_; clear hK K
  refine wpR_held (i := 6) (v := .int .i64 i) #[true, true, true, true, false, true, true, false, false, false, false, false, false] rfl onlyN_noPanic (by kernel_rfl) rfl (.inl ⟨rfl, fun w' hT => ?_⟩) ?_
  · subst hT; go_simp
  simp only [Act.put, List.setIfInBounds_toArray, List.set_cons_zero, List.set_cons_succ]
  refine wpR_pu 7 #[true, true, true, true, false, true, true, true, false, false, false, false, false] rfl onlyN_noPanic (by kernel_rfl) (fun K hK => ?_); (go_simp; try go_bits); refine hK _ ?_; clear hK K
  refine wpR_held (i := 8) (v := .int .i64 j) #[true, true, true, true, false, true, true, true, true, false, false, false, false] rfl onlyN_noPanic (by kernel_rfl) rfl (.inl ⟨rfl, fun w' hT => ?_⟩) ?_
  · subst hT; go_simp
  simp only [Act.put, List.setIfInBounds_toArray, List.set_cons_zero, List.set_cons_succ]
  refine wpR_keep #[true, true, true, true, true, true, true, true, true, false, false, false, false] (i := 4) rfl (by kernel_rfl) (fun K hK => ?_)
  go_simp; refine (hcs _).mono ?_; rintro e w5 ⟨rfl, hw5⟩; subst w5; refine hK _ _ rfl ?_; clear hK K
  refine wpR_keep #[true, true, true, true, true, true, true, true, true, true, false, false, false] (i := 9) rfl (by kernel_rfl) (fun K hK => ?_)
  go_simp; refine (hci _).mono ?_; rintro e w5 ⟨rfl, hw5⟩; subst w5; refine hK _ _ rfl ?_; clear hK K
  obtain ⟨W2, hW2⟩ : ∃ W2, W2 = (((W.alloc (.cells #[.string s, .int .i64 i] 25)).alloc (.cells #[.string t, .int .i64 j] 25)).drew) := ⟨_, rfl⟩
  rw [← hW2]
  have HW2 := Aside.mk hW2
  clear g0 g1 g2 g3 hW2
  refine wpR_eff #[true, true, true, true, true, true, true, true, true, true, true, false, false] (i := 10) rfl (by kernel_rfl) (fun K hK => ?_)
  go_simp; refine hK _ _ ?_; clear hK K
  have hc := Cells.fresh W2 [.int .i64 (x), .int .i64 (y)] 3 (0, 0)
  refine wpR_eff #[true, true, true, true, true, true, true, true, true, true, true, true, false] (i := 11) rfl (by kernel_rfl) (fun K hK => ?_)
  go_simp; refine (cmp_or2 (x) (y) _ _ _ hc).mono ?_; rintro e w5 ⟨rfl, hw5⟩; subst w5; rw [← HZ.out]; refine hK _ _ ?_; clear hK K
  refine wpR_rd 12 #[true, true, true, true, true, true, true, true, true, true, true, true, true] rfl onlyN_noPanic (by kernel_rfl) (fun K hK => ?_); (go_simp; try go_bits); refine hK _ ?_; clear hK K
  refine wpR_done (by kernel_rfl) ?_ _
  simp only [OnlyN]
  clear hc
  go_wp2
  go_ret
  refine ⟨rfl, 1, #[.cells #[.string s, .int .i64 i] 25, .cells #[.string t, .int .i64 j] 25, .cells #[.int .i64 x, .int .i64 y] 3], ?_⟩
  rw [HW2.out]
  simp only [alloc_eq_grow, drew_grow, grow_grow]
  rfl
end Go.Proofs.YtnpinegpajbkeaaDoor
/- What a disk tells as damaged: plain; the order of spots. -/
namespace Go.Proofs.YtnpinegpajbkeaaDoor
open Go.RowKit Go.Sort HP
set_option linter.unusedSimpArgs false
set_option linter.unusedVariables false

/-- 'less', as a sort by 'cmp' has it. -/
def ltC {α : Type} (cf : α → α → Int) (x y : α) : Bool := decide (cf x y < 0)
theorem ltN_asym {a b : ByteArray} (h : ltN a b = true) : ltN b a = false := by
  cases h2 : ltN b a with
  | false => rfl
  | true =>
    have := ltN_trans h h2
    rw [ltN_irrefl] at this
    cases this
theorem cmpS_zero {a b : ByteArray} : cmpS a b = 0 ↔ a = b := by
  unfold cmpS
  constructor
  · intro h
    split at h
    · omega
    · rename_i h1
      split at h
      · omega
      · rename_i h2
        by_cases e : a = b
        · exact e
        · exact absurd (ltN_total (by simpa using h1) e) h2
  · rintro rfl
    rw [ltN_irrefl]
    rfl
theorem ltSpot_iff (x y : ByteArray × Int) : ltC cmpSpot x y = true ↔ ltN x.1 y.1 = true ∨ x.1 = y.1 ∧ x.2 < y.2 := by
  unfold ltC cmpSpot
  rw [decide_eq_true_eq]
  by_cases e : x.1 = y.1
  · rw [if_pos (cmpS_zero.2 e), e, ltN_irrefl]
    unfold cmpI
    constructor
    · intro h
      refine .inr ⟨rfl, ?_⟩
      split at h
      · assumption
      · split at h <;> omega
    · rintro (h | ⟨-, h⟩)
      · cases h
      · rw [if_pos h]; omega
  · rw [if_neg (fun h => e (cmpS_zero.1 h))]
    unfold cmpS
    constructor
    · intro h
      left
      split at h
      · assumption
      · split at h <;> omega
    · rintro (h | ⟨h, -⟩)
      · rw [if_pos h]; omega
      · exact absurd h e
theorem ltSpot_irrefl (x : ByteArray × Int) : ltC cmpSpot x x = false := by
  rw [Bool.eq_false_iff]
  intro h
  rcases (ltSpot_iff x x).1 h with h | h
  · rw [ltN_irrefl] at h; cases h
  · omega
theorem ltSpot_trans {x y z : ByteArray × Int} (h1 : ltC cmpSpot x y = true) (h2 : ltC cmpSpot y z = true) : ltC cmpSpot x z = true := by
  rw [ltSpot_iff] at *
  rcases h1 with h1 | ⟨e1, h1⟩ <;> rcases h2 with h2 | ⟨e2, h2⟩
  · exact .inl (ltN_trans h1 h2)
  · exact .inl (by rw [← e2]; exact h1)
  · exact .inl (by rw [e1]; exact h2)
  · exact .inr ⟨e1.trans e2, by omega⟩
theorem ltSpot_total {x y : ByteArray × Int} (h1 : ltC cmpSpot x y = false) (h2 : ltC cmpSpot y x = false) : x = y := by
  have n1 : ¬ (ltN x.1 y.1 = true ∨ x.1 = y.1 ∧ x.2 < y.2) := fun h => by have := (ltSpot_iff x y).2 h; rw [h1] at this; cases this
  have n2 : ¬ (ltN y.1 x.1 = true ∨ y.1 = x.1 ∧ y.2 < x.2) := fun h => by have := (ltSpot_iff y x).2 h; rw [h2] at this; cases this
  have e : x.1 = y.1 := by
    by_cases e : x.1 = y.1
    · exact e
    · cases h : ltN x.1 y.1 with
      | true => exact (n1 (.inl h)).elim
      | false => exact (n2 (.inl (ltN_total h e))).elim
  have e2 : x.2 = y.2 := by
    rcases Int.lt_trichotomy x.2 y.2 with h | h | h
    · exact (n1 (.inr ⟨e, h⟩)).elim
    · exact h
    · exact (n2 (.inr ⟨e.symm, h⟩)).elim
  exact Prod.ext e e2
theorem ltSpot_ntrans {x y z : ByteArray × Int} (h1 : ltC cmpSpot x y = false) (h2 : ltC cmpSpot y z = false) : ltC cmpSpot x z = false := by
  cases h : ltC cmpSpot x z with
  | false => rfl
  | true =>
    cases h3 : ltC cmpSpot y x with
    | true =>
      have := ltSpot_trans h3 h
      rw [h2] at this; cases this
    | false =>
      obtain rfl := ltSpot_total h1 h3
      rw [h2] at h; cases h
theorem swo_spot : SWO (ltC cmpSpot) := ⟨ltSpot_irrefl, fun _ _ _ h1 h2 => ltSpot_trans h1 h2, fun _ _ _ h1 h2 => ltSpot_ntrans h1 h2⟩

def Cel.bad (c : Cel) : Bool := decide (c.durable ≠ c.synced) && decide (c.durable ≠ c.written)
def spotsN (s : ByteArray) (l : List Cel) : Nat → List (ByteArray × Int)
  | 0 => []
  | k + 1 => spotsN s l k ++ if (l[k]?).any Cel.bad = true then [(s, (k : Int))] else []
def spotsF (x : ByteArray × List Cel) : List (ByteArray × Int) := spotsN x.1 x.2 x.2.length
def Dk.damaged (A : Dk) : List (ByteArray × Int) := A.files.flatMap spotsF
theorem spotsN_mem {s : ByteArray} {l : List Cel} : ∀ {k : Nat} {x : ByteArray × Int}, x ∈ spotsN s l k → x.1 = s ∧ ∃ i : Nat, i < k ∧ x.2 = i ∧ (l[i]?).any Cel.bad = true
  | 0, x, h => by cases h
  | k + 1, x, h => by
    rcases List.mem_append.1 h with h | h
    · obtain ⟨h1, i, h2, h3⟩ := spotsN_mem h
      exact ⟨h1, i, by omega, h3⟩
    · split at h
      · rename_i hb
        obtain rfl := List.mem_singleton.1 h
        exact ⟨rfl, k, by omega, rfl, hb⟩
      · cases h
theorem spotsN_length (s : ByteArray) (l : List Cel) : ∀ k, (spotsN s l k).length ≤ k
  | 0 => Nat.le_refl _
  | k + 1 => by
    have := spotsN_length s l k
    rw [spotsN, List.length_append]
    split
    · simp; omega
    · simp; omega
theorem spotsN_sorted (s : ByteArray) (l : List Cel) : ∀ k, (spotsN s l k).Pairwise fun x y => ltC cmpSpot x y = true
  | 0 => List.Pairwise.nil
  | k + 1 => by
    rw [spotsN, List.pairwise_append]
    refine ⟨spotsN_sorted s l k, by split <;> simp, fun x hx y hy => ?_⟩
    split at hy
    · obtain rfl := List.mem_singleton.1 hy
      obtain ⟨h1, i, h2, h3, -⟩ := spotsN_mem hx
      exact (ltSpot_iff _ _).2 (.inr ⟨h1, by show x.2 < (k : Int); omega⟩)
    · cases hy
theorem damaged_sorted {A : Dk} (hs : Sorted A.files) : A.damaged.Pairwise fun x y => ltC cmpSpot x y = true := by
  unfold Dk.damaged
  rw [List.pairwise_flatMap]
  refine ⟨fun x _ => spotsN_sorted _ _ _, hs.imp fun {x y} h a ha b hb => ?_⟩
  obtain ⟨h1, -⟩ := spotsN_mem ha
  obtain ⟨h2, -⟩ := spotsN_mem hb
  exact (ltSpot_iff _ _).2 (.inl (by rw [h1, h2]; exact h))
theorem sorted_damaged {A : Dk} (hs : Sorted A.files) {l : List (ByteArray × Int)} (h : l.Perm A.damaged) : (l.mergeSort fun x y => !(ltC cmpSpot) y x) = A.damaged := by
  refine List.Perm.eq_of_pairwise (le := fun x y => (!(ltC cmpSpot) y x) = true) (fun a b _ _ h1 h2 => ?_) ?_ ?_ ((List.mergeSort_perm _ _).trans h)
  · simp only [Bool.not_eq_true'] at h1 h2
    exact ltSpot_total h2 h1
  · refine List.pairwise_mergeSort (fun a b c h1 h2 => ?_) (fun a b => ?_) l
    · simp only [Bool.not_eq_true'] at h1 h2 ⊢
      exact ltSpot_ntrans h2 h1
    · cases h1 : ltC cmpSpot b a with
      | false => rfl
      | true =>
        cases h2 : ltC cmpSpot a b with
        | false => rfl
        | true =>
          have := ltSpot_trans h1 h2
          rw [ltSpot_irrefl] at this; cases this
  · refine (damaged_sorted hs).imp fun {x y} h => ?_
    cases h2 : ltC cmpSpot y x with
    | false => rfl
    | true =>
      have := ltSpot_trans h h2
      rw [ltSpot_irrefl] at this; cases this

end Go.Proofs.YtnpinegpajbkeaaDoor
/- StripeOne, the plain part: one extent of a group turned, read and mended. -/
namespace Go.Proofs.YtnpinegpajbkeaaDoor
open Go.RowKit HP
set_option linter.unusedSimpArgs false
set_option linter.unusedVariables false

def rotC (I : List Int) (t : Nat) (m : Int) : Cel := ⟨xorAt I t m, xorAt I t m, I, I, false⟩
/-- A stored text of which of some groups one extent is turned: T tells a group's turned file. -/
structure OneB (A B : Dk) (gen : Nat) (l : List Int) (T : Nat → Option Nat) : Prop where
  sorted : Sorted B.files
  fuse : B.fuse = -1
  len : ∀ f, (B.at f).length = (A.at f).length
  whole : ∀ f (i : Nat), (∀ k, T i = some k → f ≠ stripeF exS k) → B.cel f i = A.cel f i
  turn : ∀ i k, T i = some k → k < 4 ∧ i < groupsN l.length ∧ ∃ (t : Nat) (m : Int), t < 128 ∧ 0 < m ∧ m ≤ 255 ∧ B.cel (stripeF exS k) i = some (rotC (extI (stripeF exS k) i gen (payS l i k)) t m)
theorem one_start {room : Int} {A : Dk} {gen : Nat} {l : List Int} (h : StHas room exS gen l A) : OneB A A gen l (fun _ => none) :=
  ⟨h.sorted, h.fuse, fun _ => rfl, fun _ _ _ => rfl, fun _ _ h => by cases h⟩
theorem cel_set_at {A : Dk} {f : ByteArray} {k : Nat} {c d : Cel} (hs : Sorted A.files) (hc : A.cel f k = some c) : (A.set f ((A.at f).set k d)).cel f k = some d := by
  unfold Dk.cel at hc ⊢
  rw [if_pos (by omega), Int.toNat_natCast] at hc ⊢
  rw [at_set hs, if_pos rfl, List.getElem?_set, if_pos rfl, if_pos (List.getElem?_eq_some_iff.1 hc).1]
/-- An extent of a whole group is turned. -/
theorem one_rot {room : Int} {A B : Dk} {gen : Nat} {l : List Int} {T : Nat → Option Nat} (h : StHas room exS gen l A) (hB : OneB A B gen l T) {i k t : Nat} {m : Int} (hi : i < groupsN l.length) (hk : k < 4) (hT : T i = none) (ht : t < 128) (hm : 0 < m) (hm2 : m ≤ 255) :
    (B.rot (stripeF exS k) i t m).1 = 0 ∧ OneB A (B.rot (stripeF exS k) i t m).2 gen l (fun j => if j = i then some k else T j) := by
  have ca : B.cel (stripeF exS k) (i : Int) = some (stl (extI (stripeF exS k) i gen (payS l i k))) := by
    rw [hB.whole _ i fun k2 h2 => by rw [hT] at h2; cases h2]
    exact held_cel (h.held k hk) (paysS_get l _ k hi)
  rw [rot_at ca ht]
  refine ⟨rfl, sorted_put _ _ hB.sorted, hB.fuse, fun f => ?_, fun f j hj => ?_, fun j k2 hj => ?_⟩
  · show ((B.set _ _).at f).length = _
    rw [at_set hB.sorted]
    split
    · rename_i e
      rw [List.length_set, e]; exact hB.len f
    · exact hB.len f
  · show (B.set _ _).cel f j = _
    by_cases e : j = i
    · subst e
      simp only [if_pos rfl] at hj
      rw [cel_set_other hB.sorted (.inl (hj k rfl))]
      exact hB.whole f j fun k2 h2 => by rw [hT] at h2; cases h2
    · simp only [if_neg e] at hj
      rw [cel_set_other hB.sorted (.inr (by omega))]
      exact hB.whole f j hj
  · show _ ∧ _ ∧ ∃ (t : Nat) (m : Int), _ ∧ _ ∧ _ ∧ (B.set _ _).cel _ _ = _
    by_cases e : j = i
    · subst e
      obtain rfl := Option.some.inj ((if_pos rfl).symm.trans hj)
      exact ⟨hk, hi, t, m, ht, hm, hm2, cel_set_at hB.sorted ca⟩
    · simp only [if_neg e] at hj
      obtain ⟨h1, h2, t2, m2, h3, h4, h5, h6⟩ := hB.turn j k2 hj
      exact ⟨h1, h2, t2, m2, h3, h4, h5, by rw [cel_set_other hB.sorted (.inr (by omega))]; exact h6⟩
theorem one_slots {room : Int} {A B : Dk} {gen : Nat} {l : List Int} {T : Nat → Option Nat} (h : StHas room exS gen l A) (hB : OneB A B gen l T) (hg : gen ≤ 4611686018427387904) (hn : groupsN l.length ≤ 2147483647) (hb : Bytes l) {i k : Nat} (hi : i < groupsN l.length) (hk : k < 4) :
    (T i ≠ some k → slotOf B exS gen i k = (slotT l i k, true)) ∧ (T i = some k → (slotOf B exS gen i k).2 = false) := by
  have hR := stRead_of h hg hn hb
  refine ⟨fun e => ?_, fun e => ?_⟩
  · rw [← hR.right i k hk hi]
    refine readS_same (hB.whole _ i fun k2 h2 => ?_)
    obtain ⟨h3, -⟩ := hB.turn i k2 h2
    exact stripeF_ne fourX hk h3 fun e2 => e (by rw [h2, e2])
  · obtain ⟨-, -, t, m, h1, h2, h3, h4⟩ := hB.turn i k e
    have := readS_turned (file := k) (gen := gen) h4 (openI_xorAt (payS_length l i k) (payS_bytes hb i k) h1 h2 h3)
    unfold slotOf
    rw [this]
/-- All is read. -/
theorem one_at {room : Int} {A B : Dk} {gen : Nat} {l : List Int} {T : Nat → Option Nat} (h : StHas room exS gen l A) (hB : OneB A B gen l T) (hg : gen ≤ 4611686018427387904) (hn : groupsN l.length ≤ 2147483647) (hb : Bytes l) {i k : Nat} (hi : i < groupsN l.length) (hk : k < 4) :
    atF B exS gen i k = (slotT l i k, true) := by
  have hs := fun j hj => one_slots h hB hg hn hb (i := i) (k := j) hi hj
  cases e : T i with
  | none => exact atF_right1 hb k hk (fun j hj _ => (hs j hj).1 (by rw [e]; exact fun h => by cases h)) (.inl ((hs k hk).1 (by rw [e]; exact fun h => by cases h))) hk
  | some m =>
    have hm := (hB.turn i m e).1
    exact atF_right1 hb m hm (fun j hj hne => (hs j hj).1 (by rw [e]; exact fun h => hne (Option.some.inj h).symm)) (.inr ((hs m hm).2 e)) hk
theorem one_waits {room : Int} {A B : Dk} {gen : Nat} {l : List Int} {T : Nat → Option Nat} (h : StHas room exS gen l A) (hB : OneB A B gen l T) {j k : Nat} (hk : k < 4) {c : Cel} (hc : B.cel (stripeF exS k) j = some c) : c.waits = false := by
  by_cases e : T j = some k
  · obtain ⟨-, -, t, m, -, -, -, h4⟩ := hB.turn j k e
    rw [h4] at hc
    obtain rfl := Option.some.inj hc
    rfl
  · rw [hB.whole _ j fun k2 h2 h3 => ?_] at hc
    · unfold Dk.cel at hc
      rw [if_pos (by omega), h.held k hk, List.getElem?_map] at hc
      obtain ⟨d, -, rfl⟩ := Option.map_eq_some_iff.1 hc
      unfold Cel.syncd
      cases hd : d.waits
      · exact hd
      · rfl
    · obtain ⟨h4, -⟩ := hB.turn j k2 h2
      by_cases e2 : k = k2
      · exact e (by rw [e2]; exact h2)
      · exact stripeF_ne fourX hk h4 e2 h3
theorem payI_slotT (l : List Int) (i k : Nat) : payI k (slotT l i k) = payS l i k := by
  unfold slotT payS
  by_cases h : k = 3
  · subst h
    rw [if_pos rfl, if_pos rfl]; rfl
  · rw [if_neg h, if_neg h]
    exact payI_slot (partI_le _ _) h
theorem setS_set {A : Dk} (hs : Sorted A.files) (s : ByteArray) (l m : List Cel) : (A.set s l).set s m = A.set s m := by
  have e : putF (putF A.files s l) s m = putF A.files s m := by
    refine sorted_ext (sorted_put s _ (sorted_put s _ hs)) (sorted_put s _ hs) fun t => ?_
    rw [lk_put _ _ _ (sorted_put s _ hs), lk_put _ _ _ hs, lk_put _ _ _ hs]
    split <;> rfl
  unfold Dk.set
  rw [e]
theorem writeS_lt {A : Dk} {f : ByteArray} {I : List Int} {k : Nat} (hn : namedB f = true) (hl : I.length = 128) (he : A.fuse = -1) (hk : k < (A.at f).length) : A.write f (k : Int) I = (0, A.set f ((A.at f).modify k fun c => c.wrote I)) := by
  unfold Dk.write
  rw [if_neg (by rw [hn, hl]; simp; omega), if_neg (by rw [goes_ever he]; simp), if_neg (by omega), if_neg (by omega), burnt_ever he, Int.toNat_natCast]
theorem syncS_ever {A : Dk} {f : ByteArray} (he : A.fuse = -1) (h0 : 0 < (A.at f).length) : A.sync f = (0, A.set f ((A.at f).map Cel.syncd)) := by
  rw [sync_some (at_some h0) (goes_ever he), burnt_ever he]
theorem fourX_named {k : Nat} (hk : k < 4) : namedB (stripeF exS k) = true := by
  have hc : k = 0 ∨ k = 1 ∨ k = 2 ∨ k = 3 := by omega
  rcases hc with rfl | rfl | rfl | rfl
  · exact fourX.n0
  · exact fourX.n1
  · exact fourX.n2
  · exact fourX.n3
/-- Mending a group. -/
theorem one_mend {room : Int} {A B : Dk} {gen : Nat} {l : List Int} {T : Nat → Option Nat} (h : StHas room exS gen l A) (hB : OneB A B gen l T) (hg : gen ≤ 4611686018427387904) (hn : groupsN l.length ≤ 2147483647) (hb : Bytes l) {i : Nat} (hi : i < groupsN l.length) :
    (mendS B exS gen i).1 = ((T i).isSome, 0) ∧ OneB A (mendS B exS gen i).2 gen l (fun j => if j = i then none else T j) := by
  have hs := fun j hj => one_slots h hB hg hn hb (i := i) (k := j) hi hj
  have hm : mendS B exS gen i = mendK B exS gen i (firstBad B exS gen i) := by unfold mendS; rw [if_neg (by omega)]
  rw [hm]
  cases e : T i with
  | none =>
    rw [firstBad_none fun j hj => by rw [(hs j hj).1 (by rw [e]; exact fun h => by cases h)]]
    refine ⟨rfl, hB.sorted, hB.fuse, hB.len, fun f j hj => hB.whole f j fun k hk => hj k ?_, fun j k hj => ?_⟩
    · have : j ≠ i := fun h2 => by rw [h2, e] at hk; cases hk
      rw [if_neg this]; exact hk
    · by_cases e2 : j = i
      · rw [if_pos e2] at hj; cases hj
      · rw [if_neg e2] at hj; exact hB.turn j k hj
  | some k =>
    obtain ⟨hk, -, t, m, -, -, -, h4⟩ := hB.turn i k e
    rw [firstBad_at hk (fun j hj => by rw [(hs j (by omega)).1 (by rw [e]; exact fun h => by cases h; omega)]) ((hs k hk).2 e)]
    show ((if (atF B exS gen i k).2 = true then mend1 B (stripeF exS k) ((i : Int)).toNat ((gen : Int)).toNat (payI k (atF B exS gen i k).1) else ((false, 50), B)).1 = _) ∧ OneB A (if (atF B exS gen i k).2 = true then mend1 B (stripeF exS k) ((i : Int)).toNat ((gen : Int)).toNat (payI k (atF B exS gen i k).1) else ((false, 50), B)).2 _ _ _
    rw [one_at h hB hg hn hb hi hk, if_pos rfl, payI_slotT, Int.toNat_natCast, Int.toNat_natCast]
    have hcl : i < (B.at (stripeF exS k)).length := by
      unfold Dk.cel at h4
      rw [if_pos (by omega), Int.toNat_natCast] at h4
      exact (List.getElem?_eq_some_iff.1 h4).1
    have hw := writeS_lt (A := B) (f := stripeF exS k) (I := extI (stripeF exS k) i gen (payS l i k)) (k := i) (fourX_named hk) (extI_length (payS_length l i k)) hB.fuse hcl
    have hs2 := syncS_ever (A := B.set (stripeF exS k) ((B.at (stripeF exS k)).modify i fun c => c.wrote (extI (stripeF exS k) i gen (payS l i k)))) (f := stripeF exS k) hB.fuse (by rw [at_set hB.sorted, if_pos rfl, List.length_modify]; omega)
    rw [at_set hB.sorted, if_pos rfl, setS_set hB.sorted] at hs2
    unfold mend1
    rw [hw, if_pos rfl, hs2]
    refine ⟨rfl, sorted_put _ _ hB.sorted, hB.fuse, fun f => ?_, fun f j hj => ?_, fun j k2 hj => ?_⟩
    · show ((B.set _ _).at f).length = _
      rw [at_set hB.sorted]
      split
      · rename_i e2
        rw [List.length_map, List.length_modify, e2]; exact hB.len f
      · exact hB.len f
    · show (B.set _ _).cel f j = _
      have hcel : ∀ f, (B.set (stripeF exS k) (((B.at (stripeF exS k)).modify i fun c => c.wrote (extI (stripeF exS k) i gen (payS l i k))).map Cel.syncd)).cel f j = if stripeF exS k = f then Option.map Cel.syncd (((B.at (stripeF exS k)).modify i fun c => c.wrote (extI (stripeF exS k) i gen (payS l i k)))[j]?) else B.cel f j := fun f => by
        unfold Dk.cel
        rw [if_pos (by omega), Int.toNat_natCast, at_set hB.sorted]
        split
        · rw [List.getElem?_map]
        · rfl
      have hget : ∀ c, B.cel (stripeF exS k) j = c ↔ (B.at (stripeF exS k))[j]? = c := fun c => by
        unfold Dk.cel
        rw [if_pos (by omega), Int.toNat_natCast]
      rw [hcel]
      by_cases e2 : stripeF exS k = f
      · subst e2
        rw [if_pos rfl, List.getElem?_modify]
        by_cases e3 : j = i
        · subst e3
          rw [List.getElem?_eq_getElem hcl]
          show Option.map Cel.syncd (some (if j = j then _ else _)) = _
          rw [if_pos rfl, held_cel (h.held k hk) (paysS_get l _ k hi)]
          rfl
        · have hw2 := hB.whole (stripeF exS k) j (by simpa only [if_neg e3] using hj)
          rw [← hw2, (hget _).2 rfl]
          cases hx : (B.at (stripeF exS k))[j]? with
          | none => rfl
          | some c =>
            have hwt := one_waits h hB hk ((hget _).2 hx)
            show some (Cel.syncd (if i = j then _ else c)) = _
            rw [if_neg (Ne.symm e3)]
            unfold Cel.syncd
            rw [hwt]; rfl
      · rw [if_neg e2]
        by_cases e3 : j = i
        · subst e3
          exact hB.whole f j fun k2 h2 => by
            rw [e] at h2
            obtain rfl := Option.some.inj h2
            exact Ne.symm e2
        · exact hB.whole f j (by simpa only [if_neg e3] using hj)
    · by_cases e3 : j = i
      · rw [if_pos e3] at hj; cases hj
      · rw [if_neg e3] at hj
        obtain ⟨g1, g2, t2, m2, g3, g4, g5, g6⟩ := hB.turn j k2 hj
        refine ⟨g1, g2, t2, m2, g3, g4, g5, ?_⟩
        show (B.set _ _).cel _ _ = _
        by_cases e2 : stripeF exS k = stripeF exS k2
        · unfold Dk.cel at g6 ⊢
          rw [if_pos (by omega), Int.toNat_natCast] at g6 ⊢
          rw [at_set hB.sorted, if_pos e2, List.getElem?_map, List.getElem?_modify, e2, g6]
          show some (Cel.syncd (if i = j then _ else _)) = _
          rw [if_neg (Ne.symm e3)]
          rfl
        · unfold Dk.cel at g6 ⊢
          rw [if_pos (by omega), Int.toNat_natCast] at g6 ⊢
          rw [at_set hB.sorted, if_neg e2]
          exact g6
theorem storeS_others {room : Int} {gen : Nat} {l : List Int} {B : Dk} (hg : (gen : Int) ≤ 4611686018427387904) (hr : 4 * (groupsN l.length : Int) ≤ room) (hm : groupsN l.length ≤ 2147483647) (h : StHas room exS gen l B) : ∀ f, (∀ k, k < 4 → f ≠ stripeF exS k) → B.at f = [] := by
  have hb := groupsN_bounds l.length
  have N := fourX
  have hd : dropS (Dk.new room) exS = (0, Dk.new room) := rfl
  have hfs : fsS exS l = [(exS ++ dot0, paysS l (groupsN l.length) 0), (exS ++ dot1, paysS l (groupsN l.length) 1), (exS ++ dot2, paysS l (groupsN l.length) 2), (exS ++ dotP, paysS l (groupsN l.length) 3)] := rfl
  have hsum : ((fsS exS l).map fun y => y.2.length).sum = 4 * groupsN l.length := by
    rw [hfs]
    simp only [List.map_cons, List.map_nil, List.sum_cons, List.sum_nil, paysS_length]
    omega
  have hall : ∀ k, ∀ p ∈ paysS l (groupsN l.length) k, p.length ≤ 106 := fun k p hp => by
    obtain ⟨g, -, rfl⟩ := paysS_mem hp
    exact payS_length l g k
  obtain ⟨B2, hB, F⟩ := wrT_new hg (fsS exS l) (Dk.new room) List.Pairwise.nil rfl (fun y hy => by
    rw [hfs] at hy
    simp only [List.mem_cons, List.not_mem_nil, or_false] at hy
    rcases hy with rfl | rfl | rfl | rfl
    · exact ⟨N.n0, rfl, by simp only [paysS_length]; omega, by simp only [paysS_length]; exact hm, hall 0⟩
    · exact ⟨N.n1, rfl, by simp only [paysS_length]; omega, by simp only [paysS_length]; exact hm, hall 1⟩
    · exact ⟨N.n2, rfl, by simp only [paysS_length]; omega, by simp only [paysS_length]; exact hm, hall 2⟩
    · exact ⟨N.n3, rfl, by simp only [paysS_length]; omega, by simp only [paysS_length]; exact hm, hall 3⟩) (by
      have := N.ne
      rw [hfs]
      simpa using this) (by
      rw [hsum]
      show ((4 * groupsN l.length : Nat) : Int) ≤ room - (0 : Nat)
      omega)
  have e : B2 = B := by
    have := h.eq
    unfold storeS at this
    rw [hd, if_pos rfl, hB] at this
    exact congrArg Prod.snd this
  subst e
  intro f hf
  rw [F.others f fun y hy => ?_]
  · rfl
  · rw [hfs] at hy
    simp only [List.mem_cons, List.not_mem_nil, or_false] at hy
    rcases hy with rfl | rfl | rfl | rfl
    · exact Ne.symm (hf 0 (by omega))
    · exact Ne.symm (hf 1 (by omega))
    · exact Ne.symm (hf 2 (by omega))
    · exact Ne.symm (hf 3 (by omega))
theorem spotsS_none {s : ByteArray} {l : List Cel} (h : ∀ c ∈ l, c.bad = false) : ∀ k, spotsN s l k = []
  | 0 => rfl
  | k + 1 => by
    unfold spotsN
    rw [spotsS_none h k, if_neg]
    · rfl
    · cases hk : l[k]? with
      | none => simp
      | some c => simp [h c (List.mem_of_getElem? hk)]
/-- Mended whole, a disk tells no damage. -/
theorem one_end {room : Int} {A B : Dk} {gen : Nat} {l : List Int} {T : Nat → Option Nat} (h : StHas room exS gen l A) (hB : OneB A B gen l T) (hT : ∀ i, T i = none) (hg : (gen : Int) ≤ 4611686018427387904) (hr : 4 * (groupsN l.length : Int) ≤ room) (hm : groupsN l.length ≤ 2147483647) :
    (∀ f (i : Nat), B.cel f i = A.cel f i) ∧ B.damaged = [] := by
  have hc : ∀ f (i : Nat), B.cel f i = A.cel f i := fun f i => hB.whole f i fun k hk => by rw [hT] at hk; cases hk
  refine ⟨hc, ?_⟩
  unfold Dk.damaged
  rw [List.flatMap_eq_nil_iff]
  intro y hy
  have hl := lk_of_mem hB.sorted (s := y.1) (v := y.2) hy
  have hat : B.at y.1 = y.2 := by unfold Dk.at; rw [hl]; rfl
  unfold spotsF
  refine spotsS_none (fun c hcm => ?_) _
  rw [← hat] at hcm
  obtain ⟨j, hj⟩ := List.getElem?_of_mem hcm
  have hcj : A.cel y.1 (j : Int) = some c := by
    rw [← hc]
    unfold Dk.cel
    rw [if_pos (by omega), Int.toNat_natCast]; exact hj
  by_cases e : ∃ k, k < 4 ∧ y.1 = stripeF exS k
  · obtain ⟨k, hk, e⟩ := e
    rw [e] at hcj
    have hjl : j < groupsN l.length := by
      unfold Dk.cel at hcj
      rw [if_pos (by omega), Int.toNat_natCast, h.held k hk, List.getElem?_map] at hcj
      obtain ⟨d, hd, -⟩ := Option.map_eq_some_iff.1 hcj
      have := (List.getElem?_eq_some_iff.1 hd).1
      rw [newCels_length, paysS_length] at this
      exact this
    rw [held_cel (h.held k hk) (paysS_get l _ k hjl)] at hcj
    obtain rfl := Option.some.inj hcj
    simp [Cel.bad, stl]
  · have h0 := storeS_others hg hr hm h y.1 fun k hk e2 => e ⟨k, hk, e2⟩
    unfold Dk.cel at hcj
    rw [if_pos (by omega), h0] at hcj
    cases hcj
theorem one_text {room : Int} {A B : Dk} {gen : Nat} {l : List Int} {T : Nat → Option Nat} (h : StHas room exS gen l A) (hB : OneB A B gen l T) (hg : gen ≤ 4611686018427387904) (hn : groupsN l.length ≤ 2147483647) (hb : Bytes l) :
    AtText l (fun (i : Nat) k => atF B exS gen ((i : Nat) : Int) k) ∧ partM (fun (i : Nat) k => atF B exS gen ((i : Nat) : Int) k) l.length 0 l.length [] = some l := by
  have hA : AtText l (fun (i : Nat) k => atF B exS gen ((i : Nat) : Int) k) := ⟨fun i k hk hr => by
    rcases Nat.lt_or_ge i (groupsN l.length) with hi | hi
    · show (atF B exS gen ((i : Nat) : Int) k).1 = _
      rw [one_at h hB hg hn hb hi (by omega)]
      unfold slotT
      rw [if_neg (by omega)]
    · exfalso
      have hR := stRead_of h hg hn hb
      have hs : ∀ j, j < 4 → slotOf B exS gen i j = (slotZ, false) := fun j hj => by
        rw [← hR.none i j hj hi]
        exact readS_same (hB.whole _ i fun k2 h2 => absurd (hB.turn i k2 h2).2.1 (by omega))
      have hbd := badN_all (A := B) (x := exS) (gen := gen) (i := i) 4 fun j hj => by rw [hs j hj]
      have hr2 : (atF B exS gen ((i : Nat) : Int) k).2 = true := hr
      unfold atF at hr2
      rw [hs k (by omega), if_neg (by exact Bool.false_ne_true), hbd, if_pos (by omega)] at hr2
      cases hr2⟩
  refine ⟨hA, ?_⟩
  have := partM_read hA (fun i k hk hi => by
    show (atF B exS gen ((i : Nat) : Int) k).2 = true
    rw [one_at h hB hg hn hb hi (by omega)]) (fr := 0) (en := l.length) (Nat.zero_le _) (Nat.le_refl _)
  rw [this]
  simp
end Go.Proofs.YtnpinegpajbkeaaDoor
/- StripeOne: the bytes of a disk of which some groups have one extent turned; its slots are told. -/
namespace Go.Proofs.YtnpinegpajbkeaaDoor
open Go.RowKit HP
set_option linter.unusedSimpArgs false
set_option linter.unusedVariables false

theorem odd_range (x : Int) : 0 < bits .or .u8 (IntKind.u8.wrap x) 1 ∧ bits .or .u8 (IntKind.u8.wrap x) 1 ≤ 255 := by
  have hx : 0 ≤ IntKind.u8.wrap x ∧ IntKind.u8.wrap x ≤ 255 := by rw [IntKind.wrap_u8]; omega
  obtain ⟨n, hn⟩ := Int.eq_ofNat_of_zero_le hx.1
  rw [hn] at hx ⊢
  have h := u8_or_nat n 1 (by omega) (by decide)
  have h2 : n ||| 1 < 256 := Nat.or_lt_two_pow (n := 8) (by omega) (by omega)
  have h3 : 1 ≤ n ||| 1 := Nat.right_le_or
  have e : bits .or .u8 (n : Int) 1 = ((n ||| 1 : Nat) : Int) := h
  rw [e]
  omega
theorem one_bytes {room : Int} {A B : Dk} {gen : Nat} {l : List Int} {T : Nat → Option Nat} (h : StHas room exS gen l A) (hB : OneB A B gen l T) (hg : gen ≤ 4611686018427387904) (hn : groupsN l.length ≤ 2147483647) (hb : Bytes l) : ∀ k, k < 4 → ∀ (i : Int) c, B.cel (stripeF exS k) i = some c → Bytes c.read := by
  have hR := stRead_of h hg hn hb
  intro k hk i c hc
  have hi0 : 0 ≤ i := by
    unfold Dk.cel at hc
    split at hc
    · assumption
    · cases hc
  obtain ⟨j, rfl⟩ := Int.eq_ofNat_of_zero_le hi0
  by_cases e : T j = some k
  · obtain ⟨-, -, t, m, -, h2, h3, h4⟩ := hB.turn j k e
    rw [h4] at hc
    obtain rfl := Option.some.inj hc
    exact xorAt_bytes (extI_bytes (payS_length l j k) (payS_bytes hb j k)) (by omega) h3
  · rw [hB.whole _ j fun k2 h2 => by
      obtain ⟨h3, -⟩ := hB.turn j k2 h2
      exact stripeF_ne fourX hk h3 fun e2 => e (by rw [h2, e2])] at hc
    exact hR.bytes k hk _ c hc
theorem one_slotB {room : Int} {A B : Dk} {gen : Nat} {l : List Int} {T : Nat → Option Nat} (h : StHas room exS gen l A) (hB : OneB A B gen l T) (hg : gen ≤ 4611686018427387904) (hn : groupsN l.length ≤ 2147483647) (hb : Bytes l) : ∀ (i : Int) j, j < 4 → Bytes (slotsL B exS gen i j) := fun i j hj => readS_byt (one_bytes h hB hg hn hb j hj i)
theorem one_atOk {E : Env} {room : Int} {A B : Dk} {gen : Nat} {l : List Int} {T : Nat → Option Nat} (h : StHas room exS gen l A) (hB : OneB A B gen l T) (hg : gen ≤ 4611686018427387904) (hn : groupsN l.length ≤ 2147483647) (hb : Bytes l) : AtOk E B exS gen (fun (i : Nat) k => atF B exS gen ((i : Nat) : Int) k) where
  call q' b G R n i k w hk hG hw := stripe_at E q' b B exS gen i G R n k w (by omega) hG (one_slotB h hB hg hn hb i) hw
  len i k := atF_length _ _ _ _ _
  bytes i k hk := atF_byt (by omega) (one_slotB h hB hg hn hb i)
end Go.Proofs.YtnpinegpajbkeaaDoor
/- The library's sort, of a slice of one's own. -/
namespace Go.Proofs.YtnpinegpajbkeaaDoor
open Go.RowKit Go.Sort Go.Shelf HP
set_option linter.unusedSimpArgs false
set_option linter.unusedVariables false

theorem Sat.grownS {E : Env} {q : HP} : ∀ (l : List Obj) {w : World}, Sat E w q → Sat E (Go.Sort.grow w l.toArray) q
  | [], w, h => by
    have : Go.Sort.grow w ([] : List Obj).toArray = w := by simp [Go.Sort.grow]
    rw [this]; exact h
  | o :: l, w, h => by
    have h1 : Sat E (w.alloc o) q := (h.alloc o).right
    have h2 := Sat.grownS l h1
    rw [Go.Sort.alloc_eq_grow, Go.Sort.grow_grow] at h2
    have e : #[o] ++ l.toArray = (o :: l).toArray := by simp
    rw [e] at h2; exact h2
section
variable {α : Type} [Inhabited α]
theorem flatK_list (enc : α → List Value) (k : Nat) (hk : ∀ x, (enc x).length = k) (l : List α) : (flatK enc k l.toArray).toList = l.flatMap enc := by
  have hl : (l.flatMap enc).length = l.length * k := by
    induction l with
    | nil => simp
    | cons x l ih => rw [List.flatMap_cons, List.length_append, ih, hk, List.length_cons, Nat.add_mul, Nat.one_mul, Nat.add_comm]
  apply List.ext_getElem?
  intro t
  by_cases ht : t < l.length * k
  · have k0 : 0 < k := by
      rcases Nat.eq_zero_or_pos k with h | h
      · subst h; simp at ht
      · exact h
    have hd : t / k < l.length := Nat.div_lt_of_lt_mul (by rw [Nat.mul_comm]; exact ht)
    have hm : t % k < k := Nat.mod_lt _ k0
    have e1 : (flatK enc k l.toArray).toList[t]? = some ((enc (l[t / k]))[t % k]'(by rw [hk]; exact hm)) := by
      rw [Array.getElem?_toList, Array.getElem?_eq_getElem (by simpa using ht)]
      have := get_flatK enc k l.toArray t (by simpa using ht)
      rw [getElem!_pos _ t (by simpa using ht)] at this
      rw [this]
      congr 1
      rw [getElem!_pos l.toArray (t / k) (by simpa using hd)]
      rw [getElem!_pos _ (t % k) (by rw [hk]; exact hm)]
      simp
    have e2 : (l.flatMap enc)[t]? = (enc (l[t / k]))[t % k]? := by
      have ht' : t = t / k * k + t % k := by rw [Nat.mul_comm]; exact (Nat.div_add_mod t k).symm
      have key : ∀ (l : List α) (i r : Nat) (x : α), l[i]? = some x → r < k → (l.flatMap enc)[i * k + r]? = (enc x)[r]? := by
        intro l
        induction l with
        | nil => intro i r x h; simp at h
        | cons y l ih =>
          intro i r x h hr
          rw [List.flatMap_cons]
          cases i with
          | zero =>
            simp only [List.getElem?_cons_zero, Option.some.injEq] at h
            subst h
            rw [Nat.zero_mul, Nat.zero_add, List.getElem?_append_left (by rw [hk]; exact hr)]
          | succ i =>
            simp only [List.getElem?_cons_succ] at h
            rw [List.getElem?_append_right (by rw [hk, Nat.add_mul]; omega), hk, ← ih i r x h hr]
            congr 1
            rw [Nat.add_mul, Nat.one_mul]
            omega
      have := key l (t / k) (t % k) (l[t / k]) (List.getElem?_eq_getElem hd) hm
      rwa [← ht'] at this
    rw [e1, e2, List.getElem?_eq_getElem]
  · rw [List.getElem?_eq_none (l := (flatK enc k l.toArray).toList) (by simp; omega), List.getElem?_eq_none (by rw [hl]; omega)]
theorem put_take (F : Array Value) (o : Nat) (c : Array Value) (h : o + F.size ≤ c.size) : ((putCells id o F c).toList.drop o).take F.size = F.toList := by
  apply List.ext_getElem?
  intro j
  rw [List.getElem?_take]
  split
  · rename_i hj
    rw [List.getElem?_drop, Array.getElem?_toList]
    unfold putCells
    rw [Array.getElem?_mapIdx, Array.getElem?_eq_getElem (by omega), Array.getElem?_toList, Array.getElem?_eq_getElem hj]
    simp only [Option.map_some]
    rw [if_pos (by omega), Nat.add_sub_cancel_left]
    simp [hj]
  · rw [List.getElem?_eq_none (by simp; omega)]
theorem put_size (F : Array Value) (o : Nat) (c : Array Value) : (putCells id o F c).size = c.size := by simp [putCells]
variable {E : Env} {q : HP} {w : World} {e : TypeId} {k n cap g o : Nat}
/-- The world that a sort leaves, of a row that lies at a place. -/
theorem sat_sorted {enc : α → List Value} (hk : ∀ x, (enc x).length = k) {cur : Array Value} {l' : List α} (hw : Sat E w (HP.pt g (.cells cur e) * q)) (hl : l'.length = n) (hs : o + n * k ≤ cur.size) (m : Nat) (os : Array Obj) :
    Sat E (sortWorldK enc k w g o m l'.toArray os) (HP.pt g (.cells (putCells id o (flatK enc k l'.toArray) cur) e) * q) := by
  have h1 : Sat E (Go.Sort.ahead w m) (HP.pt g (.cells cur e) * q) := hw.drewN (n := m)
  have hg := h1.get
  have h2 : Sat E (putRowK enc k (Go.Sort.ahead w m) g o l'.toArray) (HP.pt g (.cells (putCells id o (flatK enc k l'.toArray) cur) e) * q) := by
    refine h1.turn (w' := putRowK enc k (Go.Sort.ahead w m) g o l'.toArray) ⟨rfl, rfl, rfl, ?_⟩ ?_ fun b hb _ => ?_
    · unfold putRowK
      rw [size_putRow]
      exact Nat.le_refl _
    · unfold putRowK putRow mapBlock
      simp only [Array.getElem?_modify, if_true, hg, Option.map_some, onCells]
    · unfold putRowK putRow mapBlock
      simp only [Array.getElem?_modify]
      rw [if_neg (Ne.symm hb)]
  have := Sat.grownS os.toList h2
  simpa [sortWorldK] using this
variable {P : Program} {ρ : Ren}
/-- slices.SortFunc of a slice of one's own, by an order that parts whatever two that are not one. -/
theorem sort_row (L : SlLaysF0.n6 P ρ) (aE : ∀ w, (isAgg (ρ.t 24)).run P w = .ok true w) (zE : ∀ w, (Go.sizeOf (ρ.t 24)).run P w = .ok k w) (enc : α → List Value) (hk : ∀ x, (enc x).length = k) (h1 : ∀ x, ∀ v ∈ enc x, v.oneCell' = true) (cf : α → α → Int) (hO : SWO (ltOf cf)) (hT : ∀ x y, (ltOf cf) x y = false → (ltOf cf) y x = false → x = y) (f : Nat) (cb : Array Value)
    (eg : ∀ args w, (callFunc f args).run P w = .ok (.enter f args) w) (hcmp : ∀ x y W, Calls P f (#[.agg (enc x).toArray, .agg (enc y).toArray] ++ cb) W fun e w' => e = .returned (.int .i64 (cf x y)) ∧ ∃ q os', w' = grow (W.drewN q) os')
    {v : Value} {l : List α} (hl : l.length = n) (hn : n ≤ maxLen / 4) (hw : Sat E w (HP.row e k v n (l.flatMap enc) * q)) :
    Calls P (ρ.f 6) #[v, .func (.func f) #[] cb] w fun r w' => r = .returned (.tuple #[]) ∧ Sat E w' (HP.row e k v n ((l.mergeSort fun x y => !(ltOf cf) y x).flatMap enc) * q) := by
  have hln : (l.mergeSort fun x y => !(ltOf cf) y x).length = n := by rw [List.length_mergeSort, hl]
  by_cases h0 : n = 0
  · have hnil : l = [] := List.eq_nil_of_length_eq_zero (by omega)
    subst hnil
    subst h0
    obtain ⟨A, c, rfl, -, -⟩ := hw.row_slice
    refine (AnyF.slices_SortFunc_none L A c _ w).mono ?_
    rintro r w' ⟨rfl, rfl⟩
    exact ⟨rfl, by simpa using hw⟩
  · rcases hw.row_cases.2 with ⟨A, -, hz, -⟩ | ⟨g, off, cap, cur, rfl, hnc, hcm, hsz, htk, hp⟩
    · exact absurd hz h0
    · have hfl := flatK_list enc k hk l
      have hsz1 : (flatK enc k l.toArray).size = n * k := by simp [hl]
      have hH : HoldsK enc k w g (off * k) l.toArray := by
        intro j hj
        rw [hsz1] at hj
        have hjc : off * k + j < cur.size := by
          have : (off + cap) * k = off * k + cap * k := Nat.add_mul _ _ _
          have := Nat.mul_le_mul_right k hnc
          omega
        refine ⟨?_, hp.thaw _⟩
        rw [hp.cell, Array.getElem?_eq_getElem hjc]
        have e1 := congrArg (fun l => l[j]?) (htk.trans hfl.symm)
        simp only [List.getElem?_take, if_pos hj, List.getElem?_drop, Array.getElem?_toList] at e1
        rw [Array.getElem?_eq_getElem hjc, Array.getElem?_eq_getElem (by rw [hsz1]; exact hj)] at e1
        rw [e1]
        simp [hj, hl]
      have hsl : l.toArray.size = n := by simpa using hl
      have hc := AnyQ.slices_SortFunc_total L k aE zE enc hk h1 cf hO f cb g (off * k) cap l.toArray w eg (fun m os dk hs x y => hcmp x y _) hH hp.lt (by rw [hsl]; unfold maxLen at hn; omega) hT
      rw [hsl] at hc
      refine hc.mono ?_
      rintro r w' ⟨rfl, m, os, rfl⟩
      refine ⟨rfl, ?_⟩
      simp only at hln ⊢
      have hsk : off * k + n * k ≤ cur.size := by
        have : (off + cap) * k = off * k + cap * k := Nat.add_mul _ _ _
        have := Nat.mul_le_mul_right k hnc
        omega
      have h3 := sat_sorted hk (l' := l.mergeSort fun x y => !(ltOf cf) y x) hp hln hsk m os
      refine h3.row_mk (n := n) (cap := cap) (off := off) (size := k) hnc hcm (by rw [put_size]; exact hsz) ?_
      have hs2 : (flatK enc k (l.mergeSort fun x y => !(ltOf cf) y x).toArray).size = n * k := by rw [size_flatK]; simp [hl]
      have := put_take (flatK enc k (l.mergeSort fun x y => !(ltOf cf) y x).toArray) (off * k) cur (by rw [hs2]; exact hsk)
      rw [hs2, flatK_list enc k hk] at this
      exact this
end
end Go.Proofs.YtnpinegpajbkeaaDoor
/- A library function laid at this program (printed by the kit's own tool). -/
namespace Go.Proofs.YtnpinegpajbkeaaDoor
open Go.Shelf
set_option linter.unusedSimpArgs false
set_option linter.unusedVariables false

def laysSpot_ren : Go.Shelf.Ren := ⟨fun | 6 => 29 | 15 => 70 | 14 => 69 | 28 => 94 | 29 => 95 | 20 => 86 | 21 => 87 | 22 => 88 | 23 => 89 | 24 => 90 | 25 => 91 | 26 => 92 | 27 => 93 | 46 => 111 | 47 => 112 | 48 => 113 | 49 => 114 | 50 => 115 | 57 => 127 | n => n, fun | 22 => 22 | 24 => 25 | 25 => 71 | 3 => 3 | 39 => 56 | 0 => 0 | 53 => 155 | 55 => 133 | 4 => 4 | 46 => 148 | 45 => 147 | 50 => 152 | 5 => 5 | 9 => 9 | 66 => 171 | 70 => 175 | 76 => 188 | 77 => 189 | n => n, fun | n => n⟩
theorem laysSpot : Go.Proofs.SlLaysF0.n6 Tryd.prog laysSpot_ren := {
  mixed := by kernel_rfl
  f6 := ⟨Tryd.f29.name, by decide, Tryd.func29.trans (congrArg some (by kernel_rfl))⟩
  f14 := ⟨Tryd.f69.name, by decide, Tryd.func69.trans (congrArg some (by kernel_rfl))⟩
  f15 := Tryd.func70.trans (congrArg some (by kernel_rfl))
  f20 := ⟨Tryd.f86.name, by decide, Tryd.func86.trans (congrArg some (by kernel_rfl))⟩
  f21 := ⟨Tryd.f87.name, by decide, Tryd.func87.trans (congrArg some (by kernel_rfl))⟩
  f22 := ⟨Tryd.f88.name, by decide, Tryd.func88.trans (congrArg some (by kernel_rfl))⟩
  f23 := ⟨Tryd.f89.name, by decide, Tryd.func89.trans (congrArg some (by kernel_rfl))⟩
  f24 := ⟨Tryd.f90.name, by decide, Tryd.func90.trans (congrArg some (by kernel_rfl))⟩
  f25 := ⟨Tryd.f91.name, by decide, Tryd.func91.trans (congrArg some (by kernel_rfl))⟩
  f26 := ⟨Tryd.f92.name, by decide, Tryd.func92.trans (congrArg some (by kernel_rfl))⟩
  f27 := ⟨Tryd.f93.name, by decide, Tryd.func93.trans (congrArg some (by kernel_rfl))⟩
  f28 := Tryd.func94.trans (congrArg some (by kernel_rfl))
  f29 := Tryd.func95.trans (congrArg some (by kernel_rfl))
  f46 := ⟨Tryd.f111.name, by decide, Tryd.func111.trans (congrArg some (by kernel_rfl))⟩
  f47 := Tryd.func112.trans (congrArg some (by kernel_rfl))
  f48 := Tryd.func113.trans (congrArg some (by kernel_rfl))
  f49 := ⟨Tryd.f114.name, by decide, Tryd.func114.trans (congrArg some (by kernel_rfl))⟩
  f50 := ⟨Tryd.f115.name, by decide, Tryd.func115.trans (congrArg some (by kernel_rfl))⟩
  f57 := ⟨Tryd.f127.name, by decide, Tryd.func127.trans (congrArg some (by kernel_rfl))⟩
  t0 := Tryd.underlying0
  a0 := Tryd.isAgg0
  z0 := Tryd.sizeOf0
  v0 := Tryd.zeroValue0
  t3 := Tryd.underlying3
  a3 := Tryd.isAgg3
  z3 := Tryd.sizeOf3
  v3 := Tryd.zeroValue3
  t4 := Tryd.underlying4
  a4 := Tryd.isAgg4
  z4 := Tryd.sizeOf4
  v4 := Tryd.zeroValue4
  t5 := Tryd.underlying5
  a5 := Tryd.isAgg5
  z5 := Tryd.sizeOf5
  v5 := Tryd.zeroValue5
  t9 := Tryd.underlying9
  a9 := Tryd.isAgg9
  z9 := Tryd.sizeOf9
  v9 := Tryd.zeroValue9
  t22 := Tryd.underlying22
  a22 := Tryd.isAgg22
  z22 := Tryd.sizeOf22
  v22 := Tryd.zeroValue22
  t25 := Tryd.underlying71
  a25 := Tryd.isAgg71
  z25 := Tryd.sizeOf71
  v25 := Tryd.zeroValue71
  t39 := Tryd.underlying56
  a39 := Tryd.isAgg56
  z39 := Tryd.sizeOf56
  v39 := Tryd.zeroValue56
  t45 := Tryd.underlying147
  a45 := Tryd.isAgg147
  z45 := Tryd.sizeOf147
  v45 := Tryd.zeroValue147
  t46 := Tryd.underlying148
  a46 := Tryd.isAgg148
  z46 := Tryd.sizeOf148
  v46 := Tryd.zeroValue148
  t50 := Tryd.underlying152
  a50 := Tryd.isAgg152
  z50 := Tryd.sizeOf152
  v50 := Tryd.zeroValue152
  t53 := Tryd.underlying155
  a53 := Tryd.isAgg155
  z53 := Tryd.sizeOf155
  v53 := Tryd.zeroValue155
  t55 := Tryd.underlying133
  a55 := Tryd.isAgg133
  z55 := Tryd.sizeOf133
  v55 := Tryd.zeroValue133
  t66 := Tryd.underlying171
  a66 := Tryd.isAgg171
  z66 := Tryd.sizeOf171
  v66 := Tryd.zeroValue171
  t70 := Tryd.underlying175
  a70 := Tryd.isAgg175
  z70 := Tryd.sizeOf175
  v70 := Tryd.zeroValue175
  t76 := Tryd.underlying188
  a76 := Tryd.isAgg188
  z76 := Tryd.sizeOf188
  v76 := Tryd.zeroValue188
  t77 := Tryd.underlying189
  a77 := Tryd.isAgg189
  z77 := Tryd.sizeOf189
  v77 := Tryd.zeroValue189 }
end Go.Proofs.YtnpinegpajbkeaaDoor
/- (*Disk).Damaged: the walk. -/
namespace Go.Proofs.YtnpinegpajbkeaaDoor
open Go.RowKit HP
set_option linter.unusedSimpArgs false
set_option linter.unusedVariables false

theorem slSp : SlTy Tryd.prog 22 25 (.agg #[.string ⟨#[]⟩, .int .i64 0]) 2 24 := ⟨Tryd.underlying22, by kernel_rfl, rfl, by decide⟩
theorem encSpot_one (x : ByteArray × Int) : ∀ v ∈ encSpot x, v.oneCell' = true := by
  intro v hv
  simp [encSpot] at hv
  rcases hv with rfl | rfl <;> rfl
theorem sort_spots (E : Env) (q : HP) (v : Value) (l : List (ByteArray × Int)) (n : Nat) (w : World) (hl : l.length = n) (hn : n ≤ maxLen / 4) (hw : Sat E w (HP.row 25 2 v n (l.flatMap encSpot) * q)) :
    Calls Tryd.prog 29 #[v, .func (.func 66) #[] #[]] w fun r w' => r = .returned (.tuple #[]) ∧ Sat E w' (HP.row 25 2 v n ((l.mergeSort fun x y => !(ltC cmpSpot) y x).flatMap encSpot) * q) :=
  sort_row (k := 2) laysSpot (by intro w; kernel_rfl) (by intro w; kernel_rfl) encSpot (fun _ => rfl) encSpot_one cmpSpot swo_spot (fun _ _ h1 h2 => ltSpot_total h1 h2) 66 #[] (enters_of Tryd.func66 (by kernel_rfl) rfl)
    (fun x y W => damaged_cmp x.1 y.1 x.2 y.2 W) hl hn hw
theorem spots_length : ∀ l : List (ByteArray × List Cel), (l.flatMap spotsF).length ≤ sizeF l
  | [] => Nat.le_refl _
  | x :: l => by
    have h1 := spots_length l
    have h2 := spotsN_length x.1 x.2 x.2.length
    rw [List.flatMap_cons, List.length_append]
    unfold sizeF at *
    rw [List.map_cons, List.sum_cons]
    unfold spotsF at *
    omega
def leftS (es : Array MapEntry) (seen : Array Nat) (fs : List Fil) : List (ByteArray × Int) := (leftZ es seen fs).flatMap fun x => spotsF (x.2.name, x.2.cs)
theorem leftS_start {A : Dk} {es : Array MapEntry} {clock : Nat} {fs : List Fil} (hv : View A es clock fs) : (leftS es #[] fs).Perm A.damaged := by
  have hlen : es.toList.length = fs.length := by simpa using congrArg List.length hv.map.2.1
  have e : leftS es #[] fs = (fs.map fun f => (f.name, f.cs)).flatMap spotsF := by
    unfold leftS
    conv => rhs; rw [← leftZ_start hlen]
    rw [List.map_map, List.flatMap_map]
    rfl
  rw [e]
  exact (files_perm hv).flatMap_right _
theorem leftS_step {es : Array MapEntry} {seen : Array Nat} {fs : List Fil} {j : Nat} {e : MapEntry} {f : Fil} (hn : (es.toList.map (·.born)).Nodup) (hl : es.toList.length = fs.length) (hj : es.toList[j]? = some e) (hf : fs[j]? = some f) (he : e ∈ leftL es seen) :
    (leftS es seen fs).Perm (spotsF (f.name, f.cs) ++ leftS es (seen.push e.born) fs) := by
  have he2 : seen.contains e.born = false := by
    have := (List.mem_filter.1 he).2
    simpa using this
  have := (leftZ_step hn hl hj hf he2).flatMap_right (fun x => spotsF (x.2.name, x.2.cs))
  rwa [List.flatMap_cons] at this
set_option maxHeartbeats 4000000 in
set_option maxRecDepth 100000 in
theorem disk_damaged (E : Env) (q : HP) (d : Nat) (A : Dk) (w : World) (hw : Sat E w (HP.disk d A * q)) :
    Calls Tryd.prog 25 #[.pointer (some ⟨d, 0, none⟩)] w fun e w' => ∃ v, e = .returned v ∧ Sat E w' (HP.row 25 2 v A.damaged.length (A.damaged.flatMap encSpot) * (HP.disk d A * q)) := by
  obtain ⟨m, es, clock, fs, hv, hd⟩ := hw.disk_open
  clear hw
  go_enter Tryd.func25, Tryd.ntmps25
  go_wp2_with fail
  refine (disk_none E _ d _ _ m w (dk_parts hd)).mono ?_
  rintro e w1 ⟨rfl, rfl⟩
  have c1 := (dk_parts hd).cell 1
  simp only [List.getElem?_toArray, List.getElem?_cons_zero, List.getElem?_cons_succ] at c1
  have hrg := run_range_map (P := Tryd.prog) (t := 36) Tryd.underlying36 (dk_parts hd).s2.get
  have HS0 := Aside.mk ((hd.alloc (.mapIter (some m) clock #[] clock)).row_nil 25 2 none)
  have HM := Aside.mk hv.map
  have hlen : es.toList.length = fs.length := by simpa using congrArg List.length hv.map.2.1
  have HV := Aside.mk (And.intro hv hlen)
  have hdl : A.damaged.length ≤ 100000 := by
    have h1 := spots_length A.files
    have h2 := hv.fine.fits
    have h3 := hv.fine.room
    unfold Dk.damaged
    omega
  have HL := Aside.mk (And.intro (leftS_start hv) (damaged_sorted hv.fine.sorted))
  clear hv hlen hd
  go_wp2
  obtain ⟨g, hg⟩ : ∃ g, g = w1.heap.size := ⟨_, rfl⟩
  obtain ⟨w0, hw0⟩ : ∃ w0, w0 = w1.alloc (.mapIter (some m) clock #[] clock) := ⟨_, rfl⟩
  rw [← hg, ← hw0] at HS0
  rw [← hg, ← hw0]
  clear hrg c1 hg hw0
  go_loopw [3] (fun v3 wr => ∃ (seen : Array Nat) (c0 : Nat) (out : List (ByteArray × Int)), clock ≤ c0 ∧ Aside ((out ++ leftS es seen fs).Perm A.damaged) ∧ Aside (Sat E wr (HP.pt g (.mapIter (some m) clock seen c0) * (HP.row 25 2 v3 out.length (out.flatMap encSpot) * (HP.dk d A.room A.fuse m es clock fs * q)))))
    (fun _ wr => match wr.heap[g]? with | some (.mapIter _ _ seen _) => (leftL es seen).length | _ => 0)
  case atStart => exact ⟨#[], clock, [], Nat.le_refl _, ⟨HL.out.1⟩, ⟨HS0.out.perm (by show HP.row _ _ _ 0 [] * _ = HP.pt _ _ * (HP.row _ _ _ 0 [] * _); ac_rfl)⟩⟩
  case round =>
    clear HS0
    obtain ⟨seen, c0, out, hc0, HO, HS⟩ := hrel
    have hol : out.length ≤ 100000 := by
      have := HO.out.length_eq
      rw [List.length_append] at this
      omega
    rcases next_file HM.out hc0 (HS.out.perm (by ac_rfl : _ = HP.pt g (.mapIter (some m) clock seen c0) * (HP.dk d A.room A.fuse m es clock fs * (HP.row 25 2 u3 out.length (out.flatMap encSpot) * q)))) 0 with ⟨hend, hnext⟩ | ⟨j, f, e, w2, hj, hje, hel, hnext, hent, h2⟩
    · have hz : leftS es seen fs = [] := by unfold leftS; rw [leftZ_end hend]; rfl
      have hp := HO.out
      rw [hz, List.append_nil] at hp
      have HP0 := Aside.mk hp
      clear hz hp HO hend
      go_wp2_with fail
      refine (sort_spots E _ u3 out out.length _ rfl (by unfold maxLen; omega) HS.out.right).mono ?_
      rintro e w2 ⟨rfl, h2⟩
      rw [sorted_damaged HV.out.1.fine.sorted HP0.out, HP0.out.length_eq] at h2
      have H2 := Aside.mk (And.intro rfl (Sat.disk_close (q := HP.row 25 2 u3 A.damaged.length (A.damaged.flatMap encSpot) * q) HV.out.1 h2.s2) : u3 = u3 ∧ _)
      clear h2 HP0 HS hol
      go_wp2
      go_ret
      exact ⟨_, rfl, H2.out.2.s2⟩
    · obtain ⟨R0, h3, hback⟩ := dk_fileQ (h2.perm (by ac_rfl : _ = HP.dk d A.room A.fuse m es clock fs * (HP.pt g (.mapIter (some m) clock (seen.push e.born) clock) * (HP.row 25 2 u3 out.length (out.flatMap encSpot) * q)))) hj
      obtain ⟨B, cc, hvB, -, -⟩ := h3.row_slice
      have hfm := HV.out.1.mem (List.mem_of_getElem? hj)
      have hfs : f.cels.length ≤ 100000 := by
        have h7 := at_small HV.out.1.fine f.name
        rw [Dk.at, lk_of_mem HV.out.1.fine.sorted hfm] at h7
        simpa [Fil.cs] using h7
      have HFine : Aside (∀ x ∈ f.cels, x.2.Fine) := ⟨fun x hx => HV.out.1.cel_fine (List.mem_of_getElem? hj) hx⟩
      have hset : fs.set j ⟨f.name, f.val, f.cels⟩ = fs := by
        obtain ⟨h1, h2⟩ := List.getElem?_eq_some_iff.1 hj
        rw [show (⟨f.name, f.val, f.cels⟩ : Fil) = fs[j] from h2.symm]
        exact List.set_getElem_self h1
      have hst := leftS_step HM.out.2.2.2.2 HV.out.2 hje hj hel
      have HC := Aside.mk (And.intro hback (And.intro hset (And.intro hst hel)))
      have hce : f.cs.length = f.cels.length := by unfold Fil.cs; rw [List.length_map]
      rw [hvB] at hnext hent h3
      have H3 := Aside.mk h3
      have HG1 := Aside.mk HS.out.get
      clear HS h2 hback h3 hj hje hel hfm hset hst
      obtain ⟨n, hnn⟩ : ∃ n, n = f.cels.length := ⟨_, rfl⟩
      rw [← hnn] at H3 hfs hnext hent hce
      have HN := Aside.mk (And.intro hnn hce)
      clear hnn hce
      go_wp2
      obtain ⟨wo, rfl⟩ : ∃ wo : World, wo = wr := ⟨_, rfl⟩
      go_loopw [3, 22] (fun v3 v22 wi => ∃ k : Nat, v22 = .int .i64 k ∧ k ≤ n ∧ Aside (Sat E wi (HP.row 25 2 v3 (out ++ spotsN f.name f.cs k).length ((out ++ spotsN f.name f.cs k).flatMap encSpot) * (HP.row 110 1 (.slice B n cc) n (celPtrs f.cels) * (HP.cels f.cels * (R0 * (HP.pt g (.mapIter (some m) clock (seen.push e.born) clock) * q))))))) (fun _ x _ => n - (intOf x).toNat)
      case atStart => exact ⟨0, rfl, Nat.zero_le _, ⟨by rw [show spotsN f.name f.cs 0 = [] from rfl, List.append_nil]; exact H3.out.perm (by ac_rfl)⟩⟩
      case round =>
        clear H3 hnext hent
        obtain ⟨k, rfl, hk, HR⟩ := hrel
        by_cases hlt : k < n
        · have hkf : k < f.cels.length := by have := HN.out.1; omega
          have hrow := HR.out.right
          obtain ⟨pa, hpa, hcx⟩ := hrow.row_cells.at_ k (by simp [celPtrs, hkf])
          obtain ⟨pg, po, rfl⟩ : ∃ g o, pa = ⟨g, o, none⟩ := slice_addr hrow.row_cells hpa (k := k) (by simp [celPtrs, hkf])
          subst hpa
          rw [addr_add] at hcx
          simp only [celPtrs, List.getElem_map] at hcx
          obtain ⟨Rk, h5, hRk, hbackk⟩ := cels_take (hrow.s2) (List.getElem?_eq_getElem hkf)
          have hxf : (f.cels[k]).2.Fine := HFine.out _ (List.getElem_mem hkf)
          have hcs : f.cs[k]? = some (f.cels[k]).2 := by unfold Fil.cs; rw [List.getElem?_map, List.getElem?_eq_getElem hkf]; rfl
          have HSN : Aside (spotsN f.name f.cs (k + 1) = spotsN f.name f.cs k ++ if (f.cels[k]).2.bad = true then [(f.name, (k : Int))] else []) := ⟨by rw [spotsN, hcs]; rfl⟩
          have hsl := spotsN_length f.name f.cs k
          generalize f.cels[k] = x at *
          obtain ⟨bk, c⟩ := x
          dsimp only at *
          have hk0 : (0 : Int) ≤ (k : Int) := by omega
          have hk1 : (k : Int) < (n : Int) := by omega
          have ld1 := run_loadAgg agImg (by rw [b8s_length]; exact hxf.2.1) (cel_durable h5.drew hxf)
          have ld2 := run_loadAgg agImg (by rw [b8s_length]; exact hxf.2.2.1) (cel_synced h5.drew hxf)
          have ld4 := run_loadAgg agImg (by rw [b8s_length]; exact hxf.2.2.2) (cel_written h5.drew hxf)
          have ne1 := run_neq_u8s (P := Tryd.prog) (w := wr.drew) Tryd.underlying112 Tryd.underlying5 (by kernel_rfl) (by kernel_rfl) c.durable c.synced hxf.2.1 hxf.2.2.1
          have ne2 := run_neq_u8s (P := Tryd.prog) (w := wr.drew) Tryd.underlying112 Tryd.underlying5 (by kernel_rfl) (by kernel_rfl) c.durable c.written hxf.2.1 hxf.2.2.2
          clear hRk hrow
          by_cases e1 : c.durable = c.synced
          · have hbad : c.bad = false := by unfold Cel.bad; simp [e1]
            rw [hbad] at HSN
            simp only [Bool.false_eq_true, if_false, List.append_nil] at HSN
            have HR2 : Aside (Sat E wr.drew (HP.row 25 2 u3 (out ++ spotsN f.name f.cs (k + 1)).length ((out ++ spotsN f.name f.cs (k + 1)).flatMap encSpot) * (HP.row 110 1 (.slice (some ⟨pg, po, none⟩) n cc) n (celPtrs f.cels) * (HP.cels f.cels * (R0 * (HP.pt g (.mapIter (some m) clock (seen.push e.born) clock) * q)))))) := ⟨by rw [HSN.out]; exact HR.out.drew⟩
            rw [decide_eq_true e1] at ne1
            generalize (b8s c.durable).toArray = D1 at *
            generalize (b8s c.synced).toArray = D2 at *
            clear ld4 ne2 h5 hbackk HR HSN hxf hcs
            go_wp2
            refine region_R [] [] (fun _ => True) #[false, false, false, false, false, false, false, false, false, false, false, false, false, false, false, false, false, false, false, false] (by kernel_rfl) rfl rfl ?_
            refine wpR_rd 0 #[true, false, false, false, false, false, false, false, false, false, false, false, false, false, false, false, false, false, false, false] rfl onlyN_noPanic (by kernel_rfl) (fun K hK => ?_); (go_simp; try go_bits); refine hK _ ?_; clear hK K
            refine wpR_rd 1 #[true, true, false, false, false, false, false, false, false, false, false, false, false, false, false, false, false, false, false, false] rfl onlyN_noPanic (by kernel_rfl) (fun K hK => ?_); (go_simp; try go_bits); refine hK _ ?_; clear hK K
            refine wpR_rd 2 #[true, true, true, false, false, false, false, false, false, false, false, false, false, false, false, false, false, false, false, false] rfl onlyN_noPanic (by kernel_rfl) (fun K hK => ?_); (go_simp; try go_bits); refine hK _ ?_; clear hK K
            refine wpR_read (i := 3) #[true, true, true, true, false, false, false, false, false, false, false, false, false, false, false, false, false, false, false, false] rfl onlyN_noPanic (by kernel_rfl) (.inl ⟨rfl, exec_load rfl rfl ld1⟩) ?_
            simp only [Act.put, List.setIfInBounds_toArray, List.set_cons_zero, List.set_cons_succ]
            refine wpR_rd 4 #[true, true, true, true, true, false, false, false, false, false, false, false, false, false, false, false, false, false, false, false] rfl onlyN_noPanic (by kernel_rfl) (fun K hK => ?_); (go_simp; try go_bits); refine hK _ ?_; clear hK K
            refine wpR_rd 5 #[true, true, true, true, true, true, false, false, false, false, false, false, false, false, false, false, false, false, false, false] rfl onlyN_noPanic (by kernel_rfl) (fun K hK => ?_); (go_simp; try go_bits); refine hK _ ?_; clear hK K
            refine wpR_rd 6 #[true, true, true, true, true, true, true, false, false, false, false, false, false, false, false, false, false, false, false, false] rfl onlyN_noPanic (by kernel_rfl) (fun K hK => ?_); (go_simp; try go_bits); refine hK _ ?_; clear hK K
            refine wpR_read (i := 7) #[true, true, true, true, true, true, true, true, false, false, false, false, false, false, false, false, false, false, false, false] rfl onlyN_noPanic (by kernel_rfl) (.inl ⟨rfl, exec_load rfl rfl ld2⟩) ?_
            simp only [Act.put, List.setIfInBounds_toArray, List.set_cons_zero, List.set_cons_succ]
            refine wpR_read (i := 8) #[true, true, true, true, true, true, true, true, true, false, false, false, false, false, false, false, false, false, false, false] rfl onlyN_noPanic (by kernel_rfl) (.inl ⟨rfl, exec_binop rfl rfl rfl (run_eqGuard_agg _ .neq 112 _ _ _ _ (by kernel_rfl)) ne1⟩) ?_
            simp only [Act.put, List.setIfInBounds_toArray, List.set_cons_zero, List.set_cons_succ]
            refine wpR_rd 9 #[true, true, true, true, true, true, true, true, true, true, false, false, false, false, false, false, false, false, false, false] rfl onlyN_noPanic (by kernel_rfl) (fun K hK => ?_); (go_simp; try go_bits); refine hK _ ?_; clear hK K
            refine wpR_rd 10 #[true, true, true, true, true, true, true, true, true, true, true, false, false, false, false, false, false, false, false, false] rfl onlyN_noPanic (by kernel_rfl) (fun K hK => ?_); (go_simp; try go_bits); refine hK _ ?_; clear hK K
            refine wpR_rd 11 #[true, true, true, true, true, true, true, true, true, true, true, true, false, false, false, false, false, false, false, false] rfl onlyN_noPanic (by kernel_rfl) (fun K hK => ?_); (go_simp; try go_bits); refine hK _ ?_; clear hK K
            refine wpR_rd 12 #[true, true, true, true, true, true, true, true, true, true, true, true, true, false, false, false, false, false, false, false] rfl onlyN_noPanic (by kernel_rfl) (fun K hK => ?_); (go_simp; try go_bits); refine hK _ ?_; clear hK K
            refine wpR_rd 13 #[true, true, true, true, true, true, true, true, true, true, true, true, true, true, false, false, false, false, false, false] rfl onlyN_noPanic (by kernel_rfl) (fun K hK => ?_); (go_simp; try go_bits); refine hK _ ?_; clear hK K
            refine wpR_rd 14 #[true, true, true, true, true, true, true, true, true, true, true, true, true, true, true, false, false, false, false, false] rfl onlyN_noPanic (by kernel_rfl) (fun K hK => ?_); (go_simp; try go_bits); refine hK _ ?_; clear hK K
            refine wpR_rd 15 #[true, true, true, true, true, true, true, true, true, true, true, true, true, true, true, true, false, false, false, false] rfl onlyN_noPanic (by kernel_rfl) (fun K hK => ?_); (go_simp; try go_bits); refine hK _ ?_; clear hK K
            refine wpR_rd 16 #[true, true, true, true, true, true, true, true, true, true, true, true, true, true, true, true, true, false, false, false] rfl onlyN_noPanic (by kernel_rfl) (fun K hK => ?_); (go_simp; try go_bits); refine hK _ ?_; clear hK K
            refine wpR_rd 17 #[true, true, true, true, true, true, true, true, true, true, true, true, true, true, true, true, true, true, false, false] rfl onlyN_noPanic (by kernel_rfl) (fun K hK => ?_); (go_simp; try go_bits); refine hK _ ?_; clear hK K
            refine wpR_rd 18 #[true, true, true, true, true, true, true, true, true, true, true, true, true, true, true, true, true, true, true, false] rfl onlyN_noPanic (by kernel_rfl) (fun K hK => ?_); (go_simp; try go_bits); refine hK _ ?_; clear hK K
            refine wpR_rd 19 #[true, true, true, true, true, true, true, true, true, true, true, true, true, true, true, true, true, true, true, true] rfl onlyN_noPanic (by kernel_rfl) (fun K hK => ?_); (go_simp; try go_bits); refine hK _ ?_; clear hK K
            refine wpR_done (by kernel_rfl) ?_ _
            simp only [OnlyN]
            go_wp2
            go_roundw
            case rel => exact ⟨k + 1, by go_num, by omega, HR2⟩
            case measure => simp [intOf]; omega
          · rw [decide_eq_false e1] at ne1
            by_cases e2 : c.durable = c.written
            · have hbad : c.bad = false := by unfold Cel.bad; simp [e2]
              rw [hbad] at HSN
              simp only [Bool.false_eq_true, if_false, List.append_nil] at HSN
              have HR2 : Aside (Sat E wr.drew (HP.row 25 2 u3 (out ++ spotsN f.name f.cs (k + 1)).length ((out ++ spotsN f.name f.cs (k + 1)).flatMap encSpot) * (HP.row 110 1 (.slice (some ⟨pg, po, none⟩) n cc) n (celPtrs f.cels) * (HP.cels f.cels * (R0 * (HP.pt g (.mapIter (some m) clock (seen.push e.born) clock) * q)))))) := ⟨by rw [HSN.out]; exact HR.out.drew⟩
              rw [decide_eq_true e2] at ne2
              generalize (b8s c.durable).toArray = D1 at *
              generalize (b8s c.synced).toArray = D2 at *
              generalize (b8s c.written).toArray = D3 at *
              clear h5 hbackk HR HSN hxf hcs
              go_wp2
              refine region_R [] [] (fun _ => True) #[false, false, false, false, false, false, false, false, false, false, false, false, false, false, false, false, false, false, false, false] (by kernel_rfl) rfl rfl ?_
              refine wpR_rd 0 #[true, false, false, false, false, false, false, false, false, false, false, false, false, false, false, false, false, false, false, false] rfl onlyN_noPanic (by kernel_rfl) (fun K hK => ?_); (go_simp; try go_bits); refine hK _ ?_; clear hK K
              refine wpR_rd 1 #[true, true, false, false, false, false, false, false, false, false, false, false, false, false, false, false, false, false, false, false] rfl onlyN_noPanic (by kernel_rfl) (fun K hK => ?_); (go_simp; try go_bits); refine hK _ ?_; clear hK K
              refine wpR_rd 2 #[true, true, true, false, false, false, false, false, false, false, false, false, false, false, false, false, false, false, false, false] rfl onlyN_noPanic (by kernel_rfl) (fun K hK => ?_); (go_simp; try go_bits); refine hK _ ?_; clear hK K
              refine wpR_read (i := 3) #[true, true, true, true, false, false, false, false, false, false, false, false, false, false, false, false, false, false, false, false] rfl onlyN_noPanic (by kernel_rfl) (.inl ⟨rfl, exec_load rfl rfl ld1⟩) ?_
              simp only [Act.put, List.setIfInBounds_toArray, List.set_cons_zero, List.set_cons_succ]
              refine wpR_rd 4 #[true, true, true, true, true, false, false, false, false, false, false, false, false, false, false, false, false, false, false, false] rfl onlyN_noPanic (by kernel_rfl) (fun K hK => ?_); (go_simp; try go_bits); refine hK _ ?_; clear hK K
              refine wpR_rd 5 #[true, true, true, true, true, true, false, false, false, false, false, false, false, false, false, false, false, false, false, false] rfl onlyN_noPanic (by kernel_rfl) (fun K hK => ?_); (go_simp; try go_bits); refine hK _ ?_; clear hK K
              refine wpR_rd 6 #[true, true, true, true, true, true, true, false, false, false, false, false, false, false, false, false, false, false, false, false] rfl onlyN_noPanic (by kernel_rfl) (fun K hK => ?_); (go_simp; try go_bits); refine hK _ ?_; clear hK K
              refine wpR_read (i := 7) #[true, true, true, true, true, true, true, true, false, false, false, false, false, false, false, false, false, false, false, false] rfl onlyN_noPanic (by kernel_rfl) (.inl ⟨rfl, exec_load rfl rfl ld2⟩) ?_
              simp only [Act.put, List.setIfInBounds_toArray, List.set_cons_zero, List.set_cons_succ]
              refine wpR_read (i := 8) #[true, true, true, true, true, true, true, true, true, false, false, false, false, false, false, false, false, false, false, false] rfl onlyN_noPanic (by kernel_rfl) (.inl ⟨rfl, exec_binop rfl rfl rfl (run_eqGuard_agg _ .neq 112 _ _ _ _ (by kernel_rfl)) ne1⟩) ?_
              simp only [Act.put, List.setIfInBounds_toArray, List.set_cons_zero, List.set_cons_succ]
              refine wpR_rd 9 #[true, true, true, true, true, true, true, true, true, true, false, false, false, false, false, false, false, false, false, false] rfl onlyN_noPanic (by kernel_rfl) (fun K hK => ?_); (go_simp; try go_bits); refine hK _ ?_; clear hK K
              refine wpR_rd 10 #[true, true, true, true, true, true, true, true, true, true, true, false, false, false, false, false, false, false, false, false] rfl onlyN_noPanic (by kernel_rfl) (fun K hK => ?_); (go_simp; try go_bits); refine hK _ ?_; clear hK K
              refine wpR_rd 11 #[true, true, true, true, true, true, true, true, true, true, true, true, false, false, false, false, false, false, false, false] rfl onlyN_noPanic (by kernel_rfl) (fun K hK => ?_); (go_simp; try go_bits); refine hK _ ?_; clear hK K
              refine wpR_rd 12 #[true, true, true, true, true, true, true, true, true, true, true, true, true, false, false, false, false, false, false, false] rfl onlyN_noPanic (by kernel_rfl) (fun K hK => ?_); (go_simp; try go_bits); refine hK _ ?_; clear hK K
              refine wpR_read (i := 13) #[true, true, true, true, true, true, true, true, true, true, true, true, true, true, false, false, false, false, false, false] rfl onlyN_noPanic (by kernel_rfl) (.inl ⟨rfl, exec_load rfl rfl ld1⟩) ?_
              simp only [Act.put, List.setIfInBounds_toArray, List.set_cons_zero, List.set_cons_succ]
              refine wpR_rd 14 #[true, true, true, true, true, true, true, true, true, true, true, true, true, true, true, false, false, false, false, false] rfl onlyN_noPanic (by kernel_rfl) (fun K hK => ?_); (go_simp; try go_bits); refine hK _ ?_; clear hK K
              refine wpR_rd 15 #[true, true, true, true, true, true, true, true, true, true, true, true, true, true, true, true, false, false, false, false] rfl onlyN_noPanic (by kernel_rfl) (fun K hK => ?_); (go_simp; try go_bits); refine hK _ ?_; clear hK K
              refine wpR_rd 16 #[true, true, true, true, true, true, true, true, true, true, true, true, true, true, true, true, true, false, false, false] rfl onlyN_noPanic (by kernel_rfl) (fun K hK => ?_); (go_simp; try go_bits); refine hK _ ?_; clear hK K
              refine wpR_read (i := 17) #[true, true, true, true, true, true, true, true, true, true, true, true, true, true, true, true, true, true, false, false] rfl onlyN_noPanic (by kernel_rfl) (.inl ⟨rfl, exec_load rfl rfl ld4⟩) ?_
              simp only [Act.put, List.setIfInBounds_toArray, List.set_cons_zero, List.set_cons_succ]
              refine wpR_read (i := 18) #[true, true, true, true, true, true, true, true, true, true, true, true, true, true, true, true, true, true, true, false] rfl onlyN_noPanic (by kernel_rfl) (.inl ⟨rfl, exec_binop rfl rfl rfl (run_eqGuard_agg _ .neq 112 _ _ _ _ (by kernel_rfl)) ne2⟩) ?_
              simp only [Act.put, List.setIfInBounds_toArray, List.set_cons_zero, List.set_cons_succ]
              refine wpR_rd 19 #[true, true, true, true, true, true, true, true, true, true, true, true, true, true, true, true, true, true, true, true] rfl onlyN_noPanic (by kernel_rfl) (fun K hK => ?_); (go_simp; try go_bits); refine hK _ ?_; clear hK K
              refine wpR_done (by kernel_rfl) ?_ _
              simp only [OnlyN]
              go_wp2
              go_roundw
              case rel => exact ⟨k + 1, by go_num, by omega, HR2⟩
              case measure => simp [intOf]; omega
            · have hbad : c.bad = true := by unfold Cel.bad; simp [e1, e2]
              rw [hbad] at HSN
              simp only [if_true] at HSN
              rw [decide_eq_false e2] at ne2
              have HR2 := Aside.mk HR.out.drew
              obtain ⟨ln, hln⟩ : ∃ ln, ln = (out ++ spotsN f.name f.cs k).length := ⟨_, rfl⟩
              have hln2 : ln ≤ 200000 := by rw [hln, List.length_append]; omega
              rw [← hln] at HR2
              have HLN := Aside.mk hln
              generalize (b8s c.durable).toArray = D1 at *
              generalize (b8s c.synced).toArray = D2 at *
              generalize (b8s c.written).toArray = D3 at *
              obtain ⟨A3, c3, rfl, -, -⟩ := HR2.out.row_slice
              clear h5 hbackk HR hxf hcs hln
              go_wp2
              refine region_R [] [] (fun _ => True) #[false, false, false, false, false, false, false, false, false, false, false, false, false, false, false, false, false, false, false, false] (by kernel_rfl) rfl rfl ?_
              refine wpR_rd 0 #[true, false, false, false, false, false, false, false, false, false, false, false, false, false, false, false, false, false, false, false] rfl onlyN_noPanic (by kernel_rfl) (fun K hK => ?_); (go_simp; try go_bits); refine hK _ ?_; clear hK K
              refine wpR_rd 1 #[true, true, false, false, false, false, false, false, false, false, false, false, false, false, false, false, false, false, false, false] rfl onlyN_noPanic (by kernel_rfl) (fun K hK => ?_); (go_simp; try go_bits); refine hK _ ?_; clear hK K
              refine wpR_rd 2 #[true, true, true, false, false, false, false, false, false, false, false, false, false, false, false, false, false, false, false, false] rfl onlyN_noPanic (by kernel_rfl) (fun K hK => ?_); (go_simp; try go_bits); refine hK _ ?_; clear hK K
              refine wpR_read (i := 3) #[true, true, true, true, false, false, false, false, false, false, false, false, false, false, false, false, false, false, false, false] rfl onlyN_noPanic (by kernel_rfl) (.inl ⟨rfl, exec_load rfl rfl ld1⟩) ?_
              simp only [Act.put, List.setIfInBounds_toArray, List.set_cons_zero, List.set_cons_succ]
              refine wpR_rd 4 #[true, true, true, true, true, false, false, false, false, false, false, false, false, false, false, false, false, false, false, false] rfl onlyN_noPanic (by kernel_rfl) (fun K hK => ?_); (go_simp; try go_bits); refine hK _ ?_; clear hK K
              refine wpR_rd 5 #[true, true, true, true, true, true, false, false, false, false, false, false, false, false, false, false, false, false, false, false] rfl onlyN_noPanic (by kernel_rfl) (fun K hK => ?_); (go_simp; try go_bits); refine hK _ ?_; clear hK K
              refine wpR_rd 6 #[true, true, true, true, true, true, true, false, false, false, false, false, false, false, false, false, false, false, false, false] rfl onlyN_noPanic (by kernel_rfl) (fun K hK => ?_); (go_simp; try go_bits); refine hK _ ?_; clear hK K
              refine wpR_read (i := 7) #[true, true, true, true, true, true, true, true, false, false, false, false, false, false, false, false, false, false, false, false] rfl onlyN_noPanic (by kernel_rfl) (.inl ⟨rfl, exec_load rfl rfl ld2⟩) ?_
              simp only [Act.put, List.setIfInBounds_toArray, List.set_cons_zero, List.set_cons_succ]
              refine wpR_read (i := 8) #[true, true, true, true, true, true, true, true, true, false, false, false, false, false, false, false, false, false, false, false] rfl onlyN_noPanic (by kernel_rfl) (.inl ⟨rfl, exec_binop rfl rfl rfl (run_eqGuard_agg _ .neq 112 _ _ _ _ (by kernel_rfl)) ne1⟩) ?_
              simp only [Act.put, List.setIfInBounds_toArray, List.set_cons_zero, List.set_cons_succ]
              refine wpR_rd 9 #[true, true, true, true, true, true, true, true, true, true, false, false, false, false, false, false, false, false, false, false] rfl onlyN_noPanic (by kernel_rfl) (fun K hK => ?_); (go_simp; try go_bits); refine hK _ ?_; clear hK K
              refine wpR_rd 10 #[true, true, true, true, true, true, true, true, true, true, true, false, false, false, false, false, false, false, false, false] rfl onlyN_noPanic (by kernel_rfl) (fun K hK => ?_); (go_simp; try go_bits); refine hK _ ?_; clear hK K
              refine wpR_rd 11 #[true, true, true, true, true, true, true, true, true, true, true, true, false, false, false, false, false, false, false, false] rfl onlyN_noPanic (by kernel_rfl) (fun K hK => ?_); (go_simp; try go_bits); refine hK _ ?_; clear hK K
              refine wpR_rd 12 #[true, true, true, true, true, true, true, true, true, true, true, true, true, false, false, false, false, false, false, false] rfl onlyN_noPanic (by kernel_rfl) (fun K hK => ?_); (go_simp; try go_bits); refine hK _ ?_; clear hK K
              refine wpR_read (i := 13) #[true, true, true, true, true, true, true, true, true, true, true, true, true, true, false, false, false, false, false, false] rfl onlyN_noPanic (by kernel_rfl) (.inl ⟨rfl, exec_load rfl rfl ld1⟩) ?_
              simp only [Act.put, List.setIfInBounds_toArray, List.set_cons_zero, List.set_cons_succ]
              refine wpR_rd 14 #[true, true, true, true, true, true, true, true, true, true, true, true, true, true, true, false, false, false, false, false] rfl onlyN_noPanic (by kernel_rfl) (fun K hK => ?_); (go_simp; try go_bits); refine hK _ ?_; clear hK K
              refine wpR_rd 15 #[true, true, true, true, true, true, true, true, true, true, true, true, true, true, true, true, false, false, false, false] rfl onlyN_noPanic (by kernel_rfl) (fun K hK => ?_); (go_simp; try go_bits); refine hK _ ?_; clear hK K
              refine wpR_rd 16 #[true, true, true, true, true, true, true, true, true, true, true, true, true, true, true, true, true, false, false, false] rfl onlyN_noPanic (by kernel_rfl) (fun K hK => ?_); (go_simp; try go_bits); refine hK _ ?_; clear hK K
              refine wpR_read (i := 17) #[true, true, true, true, true, true, true, true, true, true, true, true, true, true, true, true, true, true, false, false] rfl onlyN_noPanic (by kernel_rfl) (.inl ⟨rfl, exec_load rfl rfl ld4⟩) ?_
              simp only [Act.put, List.setIfInBounds_toArray, List.set_cons_zero, List.set_cons_succ]
              refine wpR_read (i := 18) #[true, true, true, true, true, true, true, true, true, true, true, true, true, true, true, true, true, true, true, false] rfl onlyN_noPanic (by kernel_rfl) (.inl ⟨rfl, exec_binop rfl rfl rfl (run_eqGuard_agg _ .neq 112 _ _ _ _ (by kernel_rfl)) ne2⟩) ?_
              simp only [Act.put, List.setIfInBounds_toArray, List.set_cons_zero, List.set_cons_succ]
              refine wpR_rd 19 #[true, true, true, true, true, true, true, true, true, true, true, true, true, true, true, true, true, true, true, true] rfl onlyN_noPanic (by kernel_rfl) (fun K hK => ?_); (go_simp; try go_bits); refine hK _ ?_; clear hK K
              refine wpR_done (by kernel_rfl) ?_ _
              simp only [OnlyN]
              go_wp2_with (at_builtin; refine wpList_append_new slSp rfl rfl (by rfl) (by rfl) HR2.out (by rfl) (by rfl) (by unfold maxLen; omega) (by omega) (fun v5 w5 hw5 => ?_); obtain ⟨A5, c5, rfl, -, -⟩ := hw5.row_slice; have HW5 := Aside.mk hw5; clear hw5)
              refine ⟨⟨k + 1, by push_cast; rfl, by omega, ⟨by rw [HSN.out, ← List.append_assoc, List.flatMap_append, List.length_append, ← HLN.out]; exact HW5.out⟩⟩, ?_⟩
              simp only [intOf]
              omega
        · have hkn : k = n := by omega
          subst hkn
          have HT : Aside (Sat E wr (HP.pt g (.mapIter (some m) clock (seen.push e.born) clock) * (HP.row 25 2 u3 (out ++ spotsF (f.name, f.cs)).length ((out ++ spotsF (f.name, f.cs)).flatMap encSpot) * (HP.dk d A.room A.fuse m es clock fs * q)))) := ⟨by
            obtain ⟨hback, hset, -, -⟩ := HC.out
            have e1 : spotsF (f.name, f.cs) = spotsN f.name f.cs k := by unfold spotsF; rw [HN.out.2]
            rw [e1]
            have h8 := hback _ wr f.cels rfl (by rw [hvB, ← HN.out.1]; exact HR.out.perm (by ac_rfl : _ = HP.row 110 1 (.slice B k cc) k (celPtrs f.cels) * (HP.cels f.cels * (R0 * (HP.pt g (.mapIter (some m) clock (seen.push e.born) clock) * (HP.row 25 2 u3 (out ++ spotsN f.name f.cs k).length ((out ++ spotsN f.name f.cs k).flatMap encSpot) * q))))))
            rw [hset] at h8
            exact h8.perm (by ac_rfl)⟩
          have HO2 : Aside (((out ++ spotsF (f.name, f.cs)) ++ leftS es (seen.push e.born) fs).Perm A.damaged) := ⟨by
            rw [List.append_assoc]
            exact ((HC.out.2.2.1.symm).append_left out).trans HO.out⟩
          have HLS : Aside ((leftL es (seen.push e.born)).length < (leftL es seen).length) := ⟨left_less HM.out.2.2.2.2 HC.out.2.2.2⟩
          clear HR HC HFine HN HO
          go_wp2
          go_roundw
          case rel => exact ⟨seen.push e.born, clock, out ++ spotsF (f.name, f.cs), Nat.le_refl _, HO2, HT⟩
          case measure =>
            have h8 := HT.out.get
            rw [h8, HG1.out]
            exact HLS.out
end Go.Proofs.YtnpinegpajbkeaaDoor
