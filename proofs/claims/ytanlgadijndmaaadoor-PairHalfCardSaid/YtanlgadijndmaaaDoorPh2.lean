/- cmp.Compare of texts and of whole numbers, cmp.Or; the order of spots. -/
import Derived.Test.YtanlgadijndmaaaDoorPh1
import Derived.Laws.Cover1
import Derived.Sort.Grow
import Derived.Sort.Statements
import Derived.Shelf.SlSortCmp.NoneTotal
import Derived.Test.YtanlgadijndmaaaDoorProg
namespace Go.Proofs.YtanlgadijndmaaaDoor
open Go.RowKit HP
set_option linter.unusedSimpArgs false
set_option linter.unusedVariables false

def cmpS (a b : ByteArray) : Int := if ltN a b = true then -1 else if ltN b a = true then 1 else 0
def cmpI (a b : Int) : Int := if a < b then -1 else if b < a then 1 else 0
def orL (l : List Int) : Int := (l.find? (fun x => decide (x ≠ 0))).getD 0
set_option maxHeartbeats 1000000 in
theorem isNaN_str (a : ByteArray) (w : World) : Calls Tryd.prog 112 #[.string a] w fun e w' => e = .returned (.bool false) ∧ w' = w := by
  go_enter Tryd.func112, Tryd.ntmps112
  go_wp2
  go_ret
  exact ⟨rfl, rfl⟩
set_option maxHeartbeats 1000000 in
theorem isNaN_int (a : Int) (w : World) : Calls Tryd.prog 113 #[.int .i64 a] w fun e w' => e = .returned (.bool false) ∧ w' = w := by
  go_enter Tryd.func113, Tryd.ntmps113
  go_wp2
  go_ret
  exact ⟨rfl, rfl⟩
theorem gtr_less (a b : ByteArray) : (!(Op.bytesLess a.toList b.toList || a.toList == b.toList)) = Op.bytesLess b.toList a.toList := by
  by_cases h : a.toList = b.toList
  · rw [h, bytesLess_irrefl]; simp
  · cases h1 : Op.bytesLess a.toList b.toList with
    | true =>
      cases h2 : Op.bytesLess b.toList a.toList with
      | false => rfl
      | true =>
        have := bytesLess_trans h1 h2
        rw [bytesLess_irrefl] at this
        cases this
    | false => rw [bytesLess_total h1 h]; simp [h]
set_option maxHeartbeats 1000000 in
theorem compare_str (a b : ByteArray) (w : World) : Calls Tryd.prog 53 #[.string a, .string b] w fun e w' => e = .returned (.int .i64 (cmpS a b)) ∧ w' = w := by
  have hg := gtr_less a b
  go_enter Tryd.func53, Tryd.ntmps53
  go_wp2_with fail
  refine (isNaN_str a _).mono ?_
  rintro e w1 ⟨rfl, rfl⟩
  go_wp2_with fail
  refine (isNaN_str b _).mono ?_
  rintro e w1 ⟨rfl, rfl⟩
  go_wp2
  all_goals (go_ret; refine ⟨?_, rfl⟩; unfold cmpS ltN; rw [← hg]; simp_all)
set_option maxHeartbeats 1000000 in
theorem compare_int (a b : Int) (w : World) : Calls Tryd.prog 54 #[.int .i64 a, .int .i64 b] w fun e w' => e = .returned (.int .i64 (cmpI a b)) ∧ w' = w := by
  go_enter Tryd.func54, Tryd.ntmps54
  go_wp2_with fail
  refine (isNaN_int a _).mono ?_
  rintro e w1 ⟨rfl, rfl⟩
  go_wp2_with fail
  refine (isNaN_int b _).mono ?_
  rintro e w1 ⟨rfl, rfl⟩
  go_wp2
  all_goals (go_ret; refine ⟨?_, rfl⟩; unfold cmpI; first | (rw [if_pos (by omega)]; rfl) | (rw [if_neg (by omega), if_pos (by omega)]; rfl) | (rw [if_neg (by omega), if_neg (by omega)]; rfl))
set_option maxHeartbeats 1000000 in
theorem cmp_or2 (x y : Int) (A : Addr) (c : Nat) (w : World) (h : Cells w (some A) [.int .i64 x, .int .i64 y]) : Calls Tryd.prog 52 #[.slice (some A) 2 c] w fun e w' => e = .returned (.int .i64 (if x = 0 then y else x)) ∧ w' = w := by
  obtain ⟨g, o, rfl⟩ := slice_addr h rfl (k := 0) (by simp)
  have g0 : w.cell? ⟨g, o, none⟩ = some (.int .i64 x) := by
    obtain ⟨a, ha, hc⟩ := h.at_ 0 (by simp)
    cases ha
    exact hc
  have g1 : w.cell? ⟨g, o + 1, none⟩ = some (.int .i64 y) := by
    obtain ⟨a, ha, hc⟩ := h.at_ 1 (by simp)
    cases ha
    exact hc
  clear h
  go_enter Tryd.func52, Tryd.ntmps52
  go_wp2
  go_loopw [8] (fun v8 wr => ∃ k : Nat, k ≤ 2 ∧ v8 = .int .i64 k ∧ wr = w ∧ (0 < k → x = 0) ∧ (1 < k → y = 0)) (fun i _ => 2 - (intOf i).toNat)
  case atStart => exact ⟨0, by omega, rfl, rfl, by omega, by omega⟩
  case round =>
    obtain ⟨k, hk, rfl, rfl, hkx, hky⟩ := hrel
    have hc : k = 0 ∨ k = 1 ∨ k = 2 := by omega
    rcases hc with h0 | h0 | h0 <;> subst h0
    · clear hkx hky
      by_cases hx : x = 0
      · subst hx
        go_wp2
        go_roundw
        case rel => exact ⟨1, by omega, by simp, by simp, by simp, by simp⟩
        case measure => simp [intOf]
      · have hxb : (x == 0) = false := by rw [beq_eq_false_iff_ne]; exact hx
        go_wp2
        all_goals (go_ret; exact ⟨rfl, rfl⟩)
    · have hx := hkx (by omega)
      subst hx
      clear hkx hky
      by_cases hy : y = 0
      · subst hy
        go_wp2
        go_roundw
        case rel => exact ⟨2, by omega, by simp, by simp, by simp, by simp⟩
        case measure => simp [intOf]
      · have hyb : (y == 0) = false := by rw [beq_eq_false_iff_ne]; exact hy
        go_wp2
        all_goals (go_ret; exact ⟨rfl, rfl⟩)
    · have hx := hkx (by omega)
      have hy := hky (by omega)
      subst hx
      subst hy
      go_wp2
      go_ret
      exact ⟨rfl, rfl⟩
end Go.Proofs.YtanlgadijndmaaaDoor
/- The order that (*Disk).Damaged sorts spots by. -/
namespace Go.Proofs.YtanlgadijndmaaaDoor
open Go.RowKit Go.Sort HP
set_option linter.unusedSimpArgs false
set_option linter.unusedVariables false

def encSpot (x : ByteArray × Int) : List Value := [.string x.1, .int .i64 x.2]
def cmpSpot (x y : ByteArray × Int) : Int := if cmpS x.1 y.1 = 0 then cmpI x.2 y.2 else cmpS x.1 y.1
set_option maxHeartbeats 2000000 in
set_option maxRecDepth 100000 in
theorem damaged_cmp (s t : ByteArray) (i j : Int) (W : World) : Calls Tryd.prog 93 #[.agg #[.string s, .int .i64 i], .agg #[.string t, .int .i64 j]] W fun e w' => e = .returned (.int .i64 (if cmpS s t = 0 then cmpI i j else cmpS s t)) ∧ ∃ q os', w' = grow (W.drewN q) os' := by
  have a0 := fun k => Sat.cell (Sat.s2 ((((Sat.nothing (w := W)).alloc (.cells #[.string s, .int .i64 i] 25)).alloc (.cells #[.string t, .int .i64 j] 25)).drew)) k
  have a1 := fun k => Sat.cell ((((Sat.nothing (w := W)).alloc (.cells #[.string s, .int .i64 i] 25)).alloc (.cells #[.string t, .int .i64 j] 25)).drew) k
  rw [show (W.alloc (.cells #[.string s, .int .i64 i] 25)).heap.size = W.heap.size + 1 by simp] at a1
  have g0 := a0 0
  have g1 := a0 1
  have g2 := a1 0
  have g3 := a1 1
  simp only [List.getElem?_toArray, List.getElem?_cons_zero, List.getElem?_cons_succ] at g0 g1 g2 g3
  clear a0 a1
  have hcs := compare_str s t
  have hci := compare_int i j
  generalize cmpS s t = x at *
  generalize cmpI i j = y at *
  obtain ⟨z, hz⟩ : ∃ z, z = if x = 0 then y else x := ⟨_, rfl⟩
  rw [← hz]
  have HZ := Aside.mk hz
  clear hz
  go_enter Tryd.func93, Tryd.ntmps93
  go_wp2
  refine region_R [4, 9, 10, 11] [4, 9] (fun w => w = (((W.alloc (.cells #[.string s, .int .i64 i] 25)).alloc (.cells #[.string t, .int .i64 j] 25)).drew)) #[false, false, false, false, false, false, false, false, false, false, false, false, false] (by kernel_rfl) rfl rfl ?_
  refine wpR_rd 0 #[true, false, false, false, false, false, false, false, false, false, false, false, false] rfl onlyN_noPanic (by kernel_rfl) (fun K hK => ?_); (go_simp; try go_bits); refine hK _ ?_; clear hK K
  refine wpR_rd 1 #[true, true, false, false, false, false, false, false, false, false, false, false, false] rfl onlyN_noPanic (by kernel_rfl) (fun K hK => ?_); (go_simp; try go_bits); refine hK _ ?_; clear hK K
  refine wpR_rd 2 #[true, true, true, false, false, false, false, false, false, false, false, false, false] rfl onlyN_noPanic (by kernel_rfl) (fun K hK => ?_); (go_simp; try go_bits); refine hK _ ?_; clear hK K
  refine wpR_rd 3 #[true, true, true, true, false, false, false, false, false, false, false, false, false] rfl onlyN_noPanic (by kernel_rfl) (fun K hK => ?_); (go_simp; try go_bits); refine hK _ ?_; clear hK K
  refine wpR_pu 5 #[true, true, true, true, false, true, false, false, false, false, false, false, false] rfl onlyN_noPanic (by kernel_rfl) (fun K hK => ?_); (go_simp; try go_bits); refine hK _ ?_; clear hK K
  refine wpR_held (i := 6) (v := .int .i64 i) #[true, true, true, true, false, true, true, false, false, false, false, false, false] rfl onlyN_noPanic (by kernel_rfl) rfl (.inl ⟨rfl, fun w' hT => ?_⟩) ?_
  · subst hT; go_simp
  simp only [Act.put, List.setIfInBounds_toArray, List.set_cons_zero, List.set_cons_succ]
  refine wpR_pu 7 #[true, true, true, true, false, true, true, true, false, false, false, false, false] rfl onlyN_noPanic (by kernel_rfl) (fun K hK => ?_); (go_simp; try go_bits); refine hK _ ?_; clear hK K
  refine wpR_held (i := 8) (v := .int .i64 j) #[true, true, true, true, false, true, true, true, true, false, false, false, false] rfl onlyN_noPanic (by kernel_rfl) rfl (.inl ⟨rfl, fun w' hT => ?_⟩) ?_
  · subst hT; go_simp
  simp only [Act.put, List.setIfInBounds_toArray, List.set_cons_zero, List.set_cons_succ]
  refine wpR_keep #[true, true, true, true, true, true, true, true, true, false, false, false, false] (i := 4) rfl (by kernel_rfl) (fun K hK => ?_)
  go_simp; refine (hcs _).mono ?_; rintro e w5 ⟨rfl, hw5⟩; subst w5; refine hK _ _ rfl ?_; clear hK K
  refine wpR_keep #[true, true, true, true, true, true, true, true, true, true, false, false, false] (i := 9) rfl (by kernel_rfl) (fun K hK => ?_)
  go_simp; refine (hci _).mono ?_; rintro e w5 ⟨rfl, hw5⟩; subst w5; refine hK _ _ rfl ?_; clear hK K
  obtain ⟨W2, hW2⟩ : ∃ W2, W2 = (((W.alloc (.cells #[.string s, .int .i64 i] 25)).alloc (.cells #[.string t, .int .i64 j] 25)).drew) := ⟨_, rfl⟩
  rw [← hW2]
  have HW2 := Aside.mk hW2
  clear g0 g1 g2 g3 hW2
  refine wpR_eff #[true, true, true, true, true, true, true, true, true, true, true, false, false] (i := 10) rfl (by kernel_rfl) (fun K hK => ?_)
  go_simp; refine hK _ _ ?_; clear hK K
  have hc := Cells.fresh W2 [.int .i64 (x), .int .i64 (y)] 3 (0, 0)
  refine wpR_eff #[true, true, true, true, true, true, true, true, true, true, true, true, false] (i := 11) rfl (by kernel_rfl) (fun K hK => ?_)
  go_simp; refine (cmp_or2 (x) (y) _ _ _ hc).mono ?_; rintro e w5 ⟨rfl, hw5⟩; subst w5; rw [← HZ.out]; refine hK _ _ ?_; clear hK K
  refine wpR_rd 12 #[true, true, true, true, true, true, true, true, true, true, true, true, true] rfl onlyN_noPanic (by kernel_rfl) (fun K hK => ?_); (go_simp; try go_bits); refine hK _ ?_; clear hK K
  refine wpR_done (by kernel_rfl) ?_ _
  simp only [OnlyN]
  clear hc
  go_wp2
  go_ret
  refine ⟨rfl, 1, #[.cells #[.string s, .int .i64 i] 25, .cells #[.string t, .int .i64 j] 25, .cells #[.int .i64 x, .int .i64 y] 3], ?_⟩
  rw [HW2.out]
  simp only [alloc_eq_grow, drew_grow, grow_grow]
  rfl
end Go.Proofs.YtanlgadijndmaaaDoor
/- What a disk tells as damaged: plain; the order of spots. -/
namespace Go.Proofs.YtanlgadijndmaaaDoor
open Go.RowKit Go.Sort HP
set_option linter.unusedSimpArgs false
set_option linter.unusedVariables false

/-- 'less', as a sort by 'cmp' has it. -/
def ltC {α : Type} (cf : α → α → Int) (x y : α) : Bool := decide (cf x y < 0)
theorem ltN_asym {a b : ByteArray} (h : ltN a b = true) : ltN b a = false := by
  cases h2 : ltN b a with
  | false => rfl
  | true =>
    have := ltN_trans h h2
    rw [ltN_irrefl] at this
    cases this
theorem cmpS_zero {a b : ByteArray} : cmpS a b = 0 ↔ a = b := by
  unfold cmpS
  constructor
  · intro h
    split at h
    · omega
    · rename_i h1
      split at h
      · omega
      · rename_i h2
        by_cases e : a = b
        · exact e
        · exact absurd (ltN_total (by simpa using h1) e) h2
  · rintro rfl
    rw [ltN_irrefl]
    rfl
theorem ltSpot_iff (x y : ByteArray × Int) : ltC cmpSpot x y = true ↔ ltN x.1 y.1 = true ∨ x.1 = y.1 ∧ x.2 < y.2 := by
  unfold ltC cmpSpot
  rw [decide_eq_true_eq]
  by_cases e : x.1 = y.1
  · rw [if_pos (cmpS_zero.2 e), e, ltN_irrefl]
    unfold cmpI
    constructor
    · intro h
      refine .inr ⟨rfl, ?_⟩
      split at h
      · assumption
      · split at h <;> omega
    · rintro (h | ⟨-, h⟩)
      · cases h
      · rw [if_pos h]; omega
  · rw [if_neg (fun h => e (cmpS_zero.1 h))]
    unfold cmpS
    constructor
    · intro h
      left
      split at h
      · assumption
      · split at h <;> omega
    · rintro (h | ⟨h, -⟩)
      · rw [if_pos h]; omega
      · exact absurd h e
theorem ltSpot_irrefl (x : ByteArray × Int) : ltC cmpSpot x x = false := by
  rw [Bool.eq_false_iff]
  intro h
  rcases (ltSpot_iff x x).1 h with h | h
  · rw [ltN_irrefl] at h; cases h
  · omega
theorem ltSpot_trans {x y z : ByteArray × Int} (h1 : ltC cmpSpot x y = true) (h2 : ltC cmpSpot y z = true) : ltC cmpSpot x z = true := by
  rw [ltSpot_iff] at *
  rcases h1 with h1 | ⟨e1, h1⟩ <;> rcases h2 with h2 | ⟨e2, h2⟩
  · exact .inl (ltN_trans h1 h2)
  · exact .inl (by rw [← e2]; exact h1)
  · exact .inl (by rw [e1]; exact h2)
  · exact .inr ⟨e1.trans e2, by omega⟩
theorem ltSpot_total {x y : ByteArray × Int} (h1 : ltC cmpSpot x y = false) (h2 : ltC cmpSpot y x = false) : x = y := by
  have n1 : ¬ (ltN x.1 y.1 = true ∨ x.1 = y.1 ∧ x.2 < y.2) := fun h => by have := (ltSpot_iff x y).2 h; rw [h1] at this; cases this
  have n2 : ¬ (ltN y.1 x.1 = true ∨ y.1 = x.1 ∧ y.2 < x.2) := fun h => by have := (ltSpot_iff y x).2 h; rw [h2] at this; cases this
  have e : x.1 = y.1 := by
    by_cases e : x.1 = y.1
    · exact e
    · cases h : ltN x.1 y.1 with
      | true => exact (n1 (.inl h)).elim
      | false => exact (n2 (.inl (ltN_total h e))).elim
  have e2 : x.2 = y.2 := by
    rcases Int.lt_trichotomy x.2 y.2 with h | h | h
    · exact (n1 (.inr ⟨e, h⟩)).elim
    · exact h
    · exact (n2 (.inr ⟨e.symm, h⟩)).elim
  exact Prod.ext e e2
theorem ltSpot_ntrans {x y z : ByteArray × Int} (h1 : ltC cmpSpot x y = false) (h2 : ltC cmpSpot y z = false) : ltC cmpSpot x z = false := by
  cases h : ltC cmpSpot x z with
  | false => rfl
  | true =>
    cases h3 : ltC cmpSpot y x with
    | true =>
      have := ltSpot_trans h3 h
      rw [h2] at this; cases this
    | false =>
      obtain rfl := ltSpot_total h1 h3
      rw [h2] at h; cases h
theorem swo_spot : SWO (ltC cmpSpot) := ⟨ltSpot_irrefl, fun _ _ _ h1 h2 => ltSpot_trans h1 h2, fun _ _ _ h1 h2 => ltSpot_ntrans h1 h2⟩

def Cel.bad (c : Cel) : Bool := decide (c.durable ≠ c.synced) && decide (c.durable ≠ c.written)
def spotsN (s : ByteArray) (l : List Cel) : Nat → List (ByteArray × Int)
  | 0 => []
  | k + 1 => spotsN s l k ++ if (l[k]?).any Cel.bad = true then [(s, (k : Int))] else []
def spotsF (x : ByteArray × List Cel) : List (ByteArray × Int) := spotsN x.1 x.2 x.2.length
def Dk.damaged (A : Dk) : List (ByteArray × Int) := A.files.flatMap spotsF
theorem spotsN_mem {s : ByteArray} {l : List Cel} : ∀ {k : Nat} {x : ByteArray × Int}, x ∈ spotsN s l k → x.1 = s ∧ ∃ i : Nat, i < k ∧ x.2 = i ∧ (l[i]?).any Cel.bad = true
  | 0, x, h => by cases h
  | k + 1, x, h => by
    rcases List.mem_append.1 h with h | h
    · obtain ⟨h1, i, h2, h3⟩ := spotsN_mem h
      exact ⟨h1, i, by omega, h3⟩
    · split at h
      · rename_i hb
        obtain rfl := List.mem_singleton.1 h
        exact ⟨rfl, k, by omega, rfl, hb⟩
      · cases h
theorem spotsN_length (s : ByteArray) (l : List Cel) : ∀ k, (spotsN s l k).length ≤ k
  | 0 => Nat.le_refl _
  | k + 1 => by
    have := spotsN_length s l k
    rw [spotsN, List.length_append]
    split
    · simp; omega
    · simp; omega
theorem spotsN_sorted (s : ByteArray) (l : List Cel) : ∀ k, (spotsN s l k).Pairwise fun x y => ltC cmpSpot x y = true
  | 0 => List.Pairwise.nil
  | k + 1 => by
    rw [spotsN, List.pairwise_append]
    refine ⟨spotsN_sorted s l k, by split <;> simp, fun x hx y hy => ?_⟩
    split at hy
    · obtain rfl := List.mem_singleton.1 hy
      obtain ⟨h1, i, h2, h3, -⟩ := spotsN_mem hx
      exact (ltSpot_iff _ _).2 (.inr ⟨h1, by show x.2 < (k : Int); omega⟩)
    · cases hy
theorem damaged_sorted {A : Dk} (hs : Sorted A.files) : A.damaged.Pairwise fun x y => ltC cmpSpot x y = true := by
  unfold Dk.damaged
  rw [List.pairwise_flatMap]
  refine ⟨fun x _ => spotsN_sorted _ _ _, hs.imp fun {x y} h a ha b hb => ?_⟩
  obtain ⟨h1, -⟩ := spotsN_mem ha
  obtain ⟨h2, -⟩ := spotsN_mem hb
  exact (ltSpot_iff _ _).2 (.inl (by rw [h1, h2]; exact h))
theorem sorted_damaged {A : Dk} (hs : Sorted A.files) {l : List (ByteArray × Int)} (h : l.Perm A.damaged) : (l.mergeSort fun x y => !(ltC cmpSpot) y x) = A.damaged := by
  refine List.Perm.eq_of_pairwise (le := fun x y => (!(ltC cmpSpot) y x) = true) (fun a b _ _ h1 h2 => ?_) ?_ ?_ ((List.mergeSort_perm _ _).trans h)
  · simp only [Bool.not_eq_true'] at h1 h2
    exact ltSpot_total h2 h1
  · refine List.pairwise_mergeSort (fun a b c h1 h2 => ?_) (fun a b => ?_) l
    · simp only [Bool.not_eq_true'] at h1 h2 ⊢
      exact ltSpot_ntrans h2 h1
    · cases h1 : ltC cmpSpot b a with
      | false => rfl
      | true =>
        cases h2 : ltC cmpSpot a b with
        | false => rfl
        | true =>
          have := ltSpot_trans h1 h2
          rw [ltSpot_irrefl] at this; cases this
  · refine (damaged_sorted hs).imp fun {x y} h => ?_
    cases h2 : ltC cmpSpot y x with
    | false => rfl
    | true =>
      have := ltSpot_trans h h2
      rw [ltSpot_irrefl] at this; cases this

end Go.Proofs.YtanlgadijndmaaaDoor
/- The library's sort, of a slice of one's own. -/
namespace Go.Proofs.YtanlgadijndmaaaDoor
open Go.RowKit Go.Sort Go.Shelf HP
set_option linter.unusedSimpArgs false
set_option linter.unusedVariables false

theorem Sat.grownS {E : Env} {q : HP} : ∀ (l : List Obj) {w : World}, Sat E w q → Sat E (Go.Sort.grow w l.toArray) q
  | [], w, h => by
    have : Go.Sort.grow w ([] : List Obj).toArray = w := by simp [Go.Sort.grow]
    rw [this]; exact h
  | o :: l, w, h => by
    have h1 : Sat E (w.alloc o) q := (h.alloc o).right
    have h2 := Sat.grownS l h1
    rw [Go.Sort.alloc_eq_grow, Go.Sort.grow_grow] at h2
    have e : #[o] ++ l.toArray = (o :: l).toArray := by simp
    rw [e] at h2; exact h2
section
variable {α : Type} [Inhabited α]
theorem flatK_list (enc : α → List Value) (k : Nat) (hk : ∀ x, (enc x).length = k) (l : List α) : (flatK enc k l.toArray).toList = l.flatMap enc := by
  have hl : (l.flatMap enc).length = l.length * k := by
    induction l with
    | nil => simp
    | cons x l ih => rw [List.flatMap_cons, List.length_append, ih, hk, List.length_cons, Nat.add_mul, Nat.one_mul, Nat.add_comm]
  apply List.ext_getElem?
  intro t
  by_cases ht : t < l.length * k
  · have k0 : 0 < k := by
      rcases Nat.eq_zero_or_pos k with h | h
      · subst h; simp at ht
      · exact h
    have hd : t / k < l.length := Nat.div_lt_of_lt_mul (by rw [Nat.mul_comm]; exact ht)
    have hm : t % k < k := Nat.mod_lt _ k0
    have e1 : (flatK enc k l.toArray).toList[t]? = some ((enc (l[t / k]))[t % k]'(by rw [hk]; exact hm)) := by
      rw [Array.getElem?_toList, Array.getElem?_eq_getElem (by simpa using ht)]
      have := get_flatK enc k l.toArray t (by simpa using ht)
      rw [getElem!_pos _ t (by simpa using ht)] at this
      rw [this]
      congr 1
      rw [getElem!_pos l.toArray (t / k) (by simpa using hd)]
      rw [getElem!_pos _ (t % k) (by rw [hk]; exact hm)]
      simp
    have e2 : (l.flatMap enc)[t]? = (enc (l[t / k]))[t % k]? := by
      have ht' : t = t / k * k + t % k := by rw [Nat.mul_comm]; exact (Nat.div_add_mod t k).symm
      have key : ∀ (l : List α) (i r : Nat) (x : α), l[i]? = some x → r < k → (l.flatMap enc)[i * k + r]? = (enc x)[r]? := by
        intro l
        induction l with
        | nil => intro i r x h; simp at h
        | cons y l ih =>
          intro i r x h hr
          rw [List.flatMap_cons]
          cases i with
          | zero =>
            simp only [List.getElem?_cons_zero, Option.some.injEq] at h
            subst h
            rw [Nat.zero_mul, Nat.zero_add, List.getElem?_append_left (by rw [hk]; exact hr)]
          | succ i =>
            simp only [List.getElem?_cons_succ] at h
            rw [List.getElem?_append_right (by rw [hk, Nat.add_mul]; omega), hk, ← ih i r x h hr]
            congr 1
            rw [Nat.add_mul, Nat.one_mul]
            omega
      have := key l (t / k) (t % k) (l[t / k]) (List.getElem?_eq_getElem hd) hm
      rwa [← ht'] at this
    rw [e1, e2, List.getElem?_eq_getElem]
  · rw [List.getElem?_eq_none (l := (flatK enc k l.toArray).toList) (by simp; omega), List.getElem?_eq_none (by rw [hl]; omega)]
theorem put_take (F : Array Value) (o : Nat) (c : Array Value) (h : o + F.size ≤ c.size) : ((putCells id o F c).toList.drop o).take F.size = F.toList := by
  apply List.ext_getElem?
  intro j
  rw [List.getElem?_take]
  split
  · rename_i hj
    rw [List.getElem?_drop, Array.getElem?_toList]
    unfold putCells
    rw [Array.getElem?_mapIdx, Array.getElem?_eq_getElem (by omega), Array.getElem?_toList, Array.getElem?_eq_getElem hj]
    simp only [Option.map_some]
    rw [if_pos (by omega), Nat.add_sub_cancel_left]
    simp [hj]
  · rw [List.getElem?_eq_none (by simp; omega)]
theorem put_size (F : Array Value) (o : Nat) (c : Array Value) : (putCells id o F c).size = c.size := by simp [putCells]
variable {E : Env} {q : HP} {w : World} {e : TypeId} {k n cap g o : Nat}
/-- The world that a sort leaves, of a row that lies at a place. -/
theorem sat_sorted {enc : α → List Value} (hk : ∀ x, (enc x).length = k) {cur : Array Value} {l' : List α} (hw : Sat E w (HP.pt g (.cells cur e) * q)) (hl : l'.length = n) (hs : o + n * k ≤ cur.size) (m : Nat) (os : Array Obj) :
    Sat E (sortWorldK enc k w g o m l'.toArray os) (HP.pt g (.cells (putCells id o (flatK enc k l'.toArray) cur) e) * q) := by
  have h1 : Sat E (Go.Sort.ahead w m) (HP.pt g (.cells cur e) * q) := hw.drewN (n := m)
  have hg := h1.get
  have h2 : Sat E (putRowK enc k (Go.Sort.ahead w m) g o l'.toArray) (HP.pt g (.cells (putCells id o (flatK enc k l'.toArray) cur) e) * q) := by
    refine h1.turn (w' := putRowK enc k (Go.Sort.ahead w m) g o l'.toArray) ⟨rfl, rfl, rfl, ?_⟩ ?_ fun b hb _ => ?_
    · unfold putRowK
      rw [size_putRow]
      exact Nat.le_refl _
    · unfold putRowK putRow mapBlock
      simp only [Array.getElem?_modify, if_true, hg, Option.map_some, onCells]
    · unfold putRowK putRow mapBlock
      simp only [Array.getElem?_modify]
      rw [if_neg (Ne.symm hb)]
  have := Sat.grownS os.toList h2
  simpa [sortWorldK] using this
variable {P : Program} {ρ : Ren}
/-- slices.SortFunc of a slice of one's own, by an order that parts whatever two that are not one. -/
theorem sort_row (L : SlLaysF0.n6 P ρ) (aE : ∀ w, (isAgg (ρ.t 24)).run P w = .ok true w) (zE : ∀ w, (Go.sizeOf (ρ.t 24)).run P w = .ok k w) (enc : α → List Value) (hk : ∀ x, (enc x).length = k) (h1 : ∀ x, ∀ v ∈ enc x, v.oneCell' = true) (cf : α → α → Int) (hO : SWO (ltOf cf)) (hT : ∀ x y, (ltOf cf) x y = false → (ltOf cf) y x = false → x = y) (f : Nat) (cb : Array Value)
    (eg : ∀ args w, (callFunc f args).run P w = .ok (.enter f args) w) (hcmp : ∀ x y W, Calls P f (#[.agg (enc x).toArray, .agg (enc y).toArray] ++ cb) W fun e w' => e = .returned (.int .i64 (cf x y)) ∧ ∃ q os', w' = grow (W.drewN q) os')
    {v : Value} {l : List α} (hl : l.length = n) (hn : n ≤ maxLen / 4) (hw : Sat E w (HP.row e k v n (l.flatMap enc) * q)) :
    Calls P (ρ.f 6) #[v, .func (.func f) #[] cb] w fun r w' => r = .returned (.tuple #[]) ∧ Sat E w' (HP.row e k v n ((l.mergeSort fun x y => !(ltOf cf) y x).flatMap enc) * q) := by
  have hln : (l.mergeSort fun x y => !(ltOf cf) y x).length = n := by rw [List.length_mergeSort, hl]
  by_cases h0 : n = 0
  · have hnil : l = [] := List.eq_nil_of_length_eq_zero (by omega)
    subst hnil
    subst h0
    obtain ⟨A, c, rfl, -, -⟩ := hw.row_slice
    refine (AnyF.slices_SortFunc_none L A c _ w).mono ?_
    rintro r w' ⟨rfl, rfl⟩
    exact ⟨rfl, by simpa using hw⟩
  · rcases hw.row_cases.2 with ⟨A, -, hz, -⟩ | ⟨g, off, cap, cur, rfl, hnc, hcm, hsz, htk, hp⟩
    · exact absurd hz h0
    · have hfl := flatK_list enc k hk l
      have hsz1 : (flatK enc k l.toArray).size = n * k := by simp [hl]
      have hH : HoldsK enc k w g (off * k) l.toArray := by
        intro j hj
        rw [hsz1] at hj
        have hjc : off * k + j < cur.size := by
          have : (off + cap) * k = off * k + cap * k := Nat.add_mul _ _ _
          have := Nat.mul_le_mul_right k hnc
          omega
        refine ⟨?_, hp.thaw _⟩
        rw [hp.cell, Array.getElem?_eq_getElem hjc]
        have e1 := congrArg (fun l => l[j]?) (htk.trans hfl.symm)
        simp only [List.getElem?_take, if_pos hj, List.getElem?_drop, Array.getElem?_toList] at e1
        rw [Array.getElem?_eq_getElem hjc, Array.getElem?_eq_getElem (by rw [hsz1]; exact hj)] at e1
        rw [e1]
        simp [hj, hl]
      have hsl : l.toArray.size = n := by simpa using hl
      have hc := AnyQ.slices_SortFunc_total L k aE zE enc hk h1 cf hO f cb g (off * k) cap l.toArray w eg (fun m os dk hs x y => hcmp x y _) hH hp.lt (by rw [hsl]; unfold maxLen at hn; omega) hT
      rw [hsl] at hc
      refine hc.mono ?_
      rintro r w' ⟨rfl, m, os, rfl⟩
      refine ⟨rfl, ?_⟩
      simp only at hln ⊢
      have hsk : off * k + n * k ≤ cur.size := by
        have : (off + cap) * k = off * k + cap * k := Nat.add_mul _ _ _
        have := Nat.mul_le_mul_right k hnc
        omega
      have h3 := sat_sorted hk (l' := l.mergeSort fun x y => !(ltOf cf) y x) hp hln hsk m os
      refine h3.row_mk (n := n) (cap := cap) (off := off) (size := k) hnc hcm (by rw [put_size]; exact hsz) ?_
      have hs2 : (flatK enc k (l.mergeSort fun x y => !(ltOf cf) y x).toArray).size = n * k := by rw [size_flatK]; simp [hl]
      have := put_take (flatK enc k (l.mergeSort fun x y => !(ltOf cf) y x).toArray) (off * k) cur (by rw [hs2]; exact hsk)
      rw [hs2, flatK_list enc k hk] at this
      exact this
end
end Go.Proofs.YtanlgadijndmaaaDoor
/- A library function laid at this program (printed by the kit's own tool). -/
namespace Go.Proofs.YtanlgadijndmaaaDoor
open Go.Shelf
set_option linter.unusedSimpArgs false
set_option linter.unusedVariables false

def laysSpot_ren : Go.Shelf.Ren := ⟨fun | 6 => 50 | 15 => 111 | 14 => 110 | 28 => 145 | 29 => 146 | 20 => 137 | 21 => 138 | 22 => 139 | 23 => 140 | 24 => 141 | 25 => 142 | 26 => 143 | 27 => 144 | 46 => 164 | 47 => 165 | 48 => 166 | 49 => 167 | 50 => 168 | 57 => 182 | n => n, fun | 22 => 22 | 24 => 25 | 25 => 95 | 3 => 3 | 39 => 60 | 0 => 0 | 53 => 210 | 55 => 152 | 4 => 4 | 46 => 203 | 45 => 202 | 50 => 207 | 5 => 5 | 9 => 9 | 66 => 227 | 70 => 231 | 76 => 245 | 77 => 246 | n => n, fun | n => n⟩
theorem laysSpot : Go.Proofs.SlLaysF0.n6 Tryd.prog laysSpot_ren := {
  mixed := by kernel_rfl
  f6 := ⟨Tryd.f50.name, by decide, Tryd.func50.trans (congrArg some (by kernel_rfl))⟩
  f14 := ⟨Tryd.f110.name, by decide, Tryd.func110.trans (congrArg some (by kernel_rfl))⟩
  f15 := Tryd.func111.trans (congrArg some (by kernel_rfl))
  f20 := ⟨Tryd.f137.name, by decide, Tryd.func137.trans (congrArg some (by kernel_rfl))⟩
  f21 := ⟨Tryd.f138.name, by decide, Tryd.func138.trans (congrArg some (by kernel_rfl))⟩
  f22 := ⟨Tryd.f139.name, by decide, Tryd.func139.trans (congrArg some (by kernel_rfl))⟩
  f23 := ⟨Tryd.f140.name, by decide, Tryd.func140.trans (congrArg some (by kernel_rfl))⟩
  f24 := ⟨Tryd.f141.name, by decide, Tryd.func141.trans (congrArg some (by kernel_rfl))⟩
  f25 := ⟨Tryd.f142.name, by decide, Tryd.func142.trans (congrArg some (by kernel_rfl))⟩
  f26 := ⟨Tryd.f143.name, by decide, Tryd.func143.trans (congrArg some (by kernel_rfl))⟩
  f27 := ⟨Tryd.f144.name, by decide, Tryd.func144.trans (congrArg some (by kernel_rfl))⟩
  f28 := Tryd.func145.trans (congrArg some (by kernel_rfl))
  f29 := Tryd.func146.trans (congrArg some (by kernel_rfl))
  f46 := ⟨Tryd.f164.name, by decide, Tryd.func164.trans (congrArg some (by kernel_rfl))⟩
  f47 := Tryd.func165.trans (congrArg some (by kernel_rfl))
  f48 := Tryd.func166.trans (congrArg some (by kernel_rfl))
  f49 := ⟨Tryd.f167.name, by decide, Tryd.func167.trans (congrArg some (by kernel_rfl))⟩
  f50 := ⟨Tryd.f168.name, by decide, Tryd.func168.trans (congrArg some (by kernel_rfl))⟩
  f57 := ⟨Tryd.f182.name, by decide, Tryd.func182.trans (congrArg some (by kernel_rfl))⟩
  t0 := Tryd.underlying0
  a0 := Tryd.isAgg0
  z0 := Tryd.sizeOf0
  v0 := Tryd.zeroValue0
  t3 := Tryd.underlying3
  a3 := Tryd.isAgg3
  z3 := Tryd.sizeOf3
  v3 := Tryd.zeroValue3
  t4 := Tryd.underlying4
  a4 := Tryd.isAgg4
  z4 := Tryd.sizeOf4
  v4 := Tryd.zeroValue4
  t5 := Tryd.underlying5
  a5 := Tryd.isAgg5
  z5 := Tryd.sizeOf5
  v5 := Tryd.zeroValue5
  t9 := Tryd.underlying9
  a9 := Tryd.isAgg9
  z9 := Tryd.sizeOf9
  v9 := Tryd.zeroValue9
  t22 := Tryd.underlying22
  a22 := Tryd.isAgg22
  z22 := Tryd.sizeOf22
  v22 := Tryd.zeroValue22
  t25 := Tryd.underlying95
  a25 := Tryd.isAgg95
  z25 := Tryd.sizeOf95
  v25 := Tryd.zeroValue95
  t39 := Tryd.underlying60
  a39 := Tryd.isAgg60
  z39 := Tryd.sizeOf60
  v39 := Tryd.zeroValue60
  t45 := Tryd.underlying202
  a45 := Tryd.isAgg202
  z45 := Tryd.sizeOf202
  v45 := Tryd.zeroValue202
  t46 := Tryd.underlying203
  a46 := Tryd.isAgg203
  z46 := Tryd.sizeOf203
  v46 := Tryd.zeroValue203
  t50 := Tryd.underlying207
  a50 := Tryd.isAgg207
  z50 := Tryd.sizeOf207
  v50 := Tryd.zeroValue207
  t53 := Tryd.underlying210
  a53 := Tryd.isAgg210
  z53 := Tryd.sizeOf210
  v53 := Tryd.zeroValue210
  t55 := Tryd.underlying152
  a55 := Tryd.isAgg152
  z55 := Tryd.sizeOf152
  v55 := Tryd.zeroValue152
  t66 := Tryd.underlying227
  a66 := Tryd.isAgg227
  z66 := Tryd.sizeOf227
  v66 := Tryd.zeroValue227
  t70 := Tryd.underlying231
  a70 := Tryd.isAgg231
  z70 := Tryd.sizeOf231
  v70 := Tryd.zeroValue231
  t76 := Tryd.underlying245
  a76 := Tryd.isAgg245
  z76 := Tryd.sizeOf245
  v76 := Tryd.zeroValue245
  t77 := Tryd.underlying246
  a77 := Tryd.isAgg246
  z77 := Tryd.sizeOf246
  v77 := Tryd.zeroValue246 }
end Go.Proofs.YtanlgadijndmaaaDoor
/- (*Disk).Damaged: the walk. -/
namespace Go.Proofs.YtanlgadijndmaaaDoor
open Go.RowKit HP
set_option linter.unusedSimpArgs false
set_option linter.unusedVariables false

theorem slSp : SlTy Tryd.prog 22 25 (.agg #[.string ⟨#[]⟩, .int .i64 0]) 2 24 := ⟨Tryd.underlying22, by kernel_rfl, rfl, by decide⟩
theorem encSpot_one (x : ByteArray × Int) : ∀ v ∈ encSpot x, v.oneCell' = true := by
  intro v hv
  simp [encSpot] at hv
  rcases hv with rfl | rfl <;> rfl
theorem sort_spots (E : Env) (q : HP) (v : Value) (l : List (ByteArray × Int)) (n : Nat) (w : World) (hl : l.length = n) (hn : n ≤ maxLen / 4) (hw : Sat E w (HP.row 25 2 v n (l.flatMap encSpot) * q)) :
    Calls Tryd.prog 50 #[v, .func (.func 93) #[] #[]] w fun r w' => r = .returned (.tuple #[]) ∧ Sat E w' (HP.row 25 2 v n ((l.mergeSort fun x y => !(ltC cmpSpot) y x).flatMap encSpot) * q) :=
  sort_row (k := 2) laysSpot (by intro w; kernel_rfl) (by intro w; kernel_rfl) encSpot (fun _ => rfl) encSpot_one cmpSpot swo_spot (fun _ _ h1 h2 => ltSpot_total h1 h2) 93 #[] (enters_of Tryd.func93 (by kernel_rfl) rfl)
    (fun x y W => damaged_cmp x.1 y.1 x.2 y.2 W) hl hn hw
theorem spots_length : ∀ l : List (ByteArray × List Cel), (l.flatMap spotsF).length ≤ sizeF l
  | [] => Nat.le_refl _
  | x :: l => by
    have h1 := spots_length l
    have h2 := spotsN_length x.1 x.2 x.2.length
    rw [List.flatMap_cons, List.length_append]
    unfold sizeF at *
    rw [List.map_cons, List.sum_cons]
    unfold spotsF at *
    omega
def leftS (es : Array MapEntry) (seen : Array Nat) (fs : List Fil) : List (ByteArray × Int) := (leftZ es seen fs).flatMap fun x => spotsF (x.2.name, x.2.cs)
theorem leftS_start {A : Dk} {es : Array MapEntry} {clock : Nat} {fs : List Fil} (hv : View A es clock fs) : (leftS es #[] fs).Perm A.damaged := by
  have hlen : es.toList.length = fs.length := by simpa using congrArg List.length hv.map.2.1
  have e : leftS es #[] fs = (fs.map fun f => (f.name, f.cs)).flatMap spotsF := by
    unfold leftS
    conv => rhs; rw [← leftZ_start hlen]
    rw [List.map_map, List.flatMap_map]
    rfl
  rw [e]
  exact (files_perm hv).flatMap_right _
theorem leftS_step {es : Array MapEntry} {seen : Array Nat} {fs : List Fil} {j : Nat} {e : MapEntry} {f : Fil} (hn : (es.toList.map (·.born)).Nodup) (hl : es.toList.length = fs.length) (hj : es.toList[j]? = some e) (hf : fs[j]? = some f) (he : e ∈ leftL es seen) :
    (leftS es seen fs).Perm (spotsF (f.name, f.cs) ++ leftS es (seen.push e.born) fs) := by
  have he2 : seen.contains e.born = false := by
    have := (List.mem_filter.1 he).2
    simpa using this
  have := (leftZ_step hn hl hj hf he2).flatMap_right (fun x => spotsF (x.2.name, x.2.cs))
  rwa [List.flatMap_cons] at this
set_option maxHeartbeats 4000000 in
set_option maxRecDepth 100000 in
theorem disk_damaged (E : Env) (q : HP) (d : Nat) (A : Dk) (w : World) (hw : Sat E w (HP.disk d A * q)) :
    Calls Tryd.prog 36 #[.pointer (some ⟨d, 0, none⟩)] w fun e w' => ∃ v, e = .returned v ∧ Sat E w' (HP.row 25 2 v A.damaged.length (A.damaged.flatMap encSpot) * (HP.disk d A * q)) := by
  obtain ⟨m, es, clock, fs, hv, hd⟩ := hw.disk_open
  clear hw
  go_enter Tryd.func36, Tryd.ntmps36
  go_wp2_with fail
  refine (disk_none E _ d _ _ m w (dk_parts hd)).mono ?_
  rintro e w1 ⟨rfl, rfl⟩
  have c1 := (dk_parts hd).cell 1
  simp only [List.getElem?_toArray, List.getElem?_cons_zero, List.getElem?_cons_succ] at c1
  have hrg := run_range_map (P := Tryd.prog) (t := 36) Tryd.underlying36 (dk_parts hd).s2.get
  have HS0 := Aside.mk ((hd.alloc (.mapIter (some m) clock #[] clock)).row_nil 25 2 none)
  have HM := Aside.mk hv.map
  have hlen : es.toList.length = fs.length := by simpa using congrArg List.length hv.map.2.1
  have HV := Aside.mk (And.intro hv hlen)
  have hdl : A.damaged.length ≤ 100000 := by
    have h1 := spots_length A.files
    have h2 := hv.fine.fits
    have h3 := hv.fine.room
    unfold Dk.damaged
    omega
  have HL := Aside.mk (And.intro (leftS_start hv) (damaged_sorted hv.fine.sorted))
  clear hv hlen hd
  go_wp2
  obtain ⟨g, hg⟩ : ∃ g, g = w1.heap.size := ⟨_, rfl⟩
  obtain ⟨w0, hw0⟩ : ∃ w0, w0 = w1.alloc (.mapIter (some m) clock #[] clock) := ⟨_, rfl⟩
  rw [← hg, ← hw0] at HS0
  rw [← hg, ← hw0]
  clear hrg c1 hg hw0
  go_loopw [3] (fun v3 wr => ∃ (seen : Array Nat) (c0 : Nat) (out : List (ByteArray × Int)), clock ≤ c0 ∧ Aside ((out ++ leftS es seen fs).Perm A.damaged) ∧ Aside (Sat E wr (HP.pt g (.mapIter (some m) clock seen c0) * (HP.row 25 2 v3 out.length (out.flatMap encSpot) * (HP.dk d A.room A.fuse m es clock fs * q)))))
    (fun _ wr => match wr.heap[g]? with | some (.mapIter _ _ seen _) => (leftL es seen).length | _ => 0)
  case atStart => exact ⟨#[], clock, [], Nat.le_refl _, ⟨HL.out.1⟩, ⟨HS0.out.perm (by show HP.row _ _ _ 0 [] * _ = HP.pt _ _ * (HP.row _ _ _ 0 [] * _); ac_rfl)⟩⟩
  case round =>
    clear HS0
    obtain ⟨seen, c0, out, hc0, HO, HS⟩ := hrel
    have hol : out.length ≤ 100000 := by
      have := HO.out.length_eq
      rw [List.length_append] at this
      omega
    rcases next_file HM.out hc0 (HS.out.perm (by ac_rfl : _ = HP.pt g (.mapIter (some m) clock seen c0) * (HP.dk d A.room A.fuse m es clock fs * (HP.row 25 2 u3 out.length (out.flatMap encSpot) * q)))) 0 with ⟨hend, hnext⟩ | ⟨j, f, e, w2, hj, hje, hel, hnext, hent, h2⟩
    · have hz : leftS es seen fs = [] := by unfold leftS; rw [leftZ_end hend]; rfl
      have hp := HO.out
      rw [hz, List.append_nil] at hp
      have HP0 := Aside.mk hp
      clear hz hp HO hend
      go_wp2_with fail
      refine (sort_spots E _ u3 out out.length _ rfl (by unfold maxLen; omega) HS.out.right).mono ?_
      rintro e w2 ⟨rfl, h2⟩
      rw [sorted_damaged HV.out.1.fine.sorted HP0.out, HP0.out.length_eq] at h2
      have H2 := Aside.mk (And.intro rfl (Sat.disk_close (q := HP.row 25 2 u3 A.damaged.length (A.damaged.flatMap encSpot) * q) HV.out.1 h2.s2) : u3 = u3 ∧ _)
      clear h2 HP0 HS hol
      go_wp2
      go_ret
      exact ⟨_, rfl, H2.out.2.s2⟩
    · obtain ⟨R0, h3, hback⟩ := dk_fileQ (h2.perm (by ac_rfl : _ = HP.dk d A.room A.fuse m es clock fs * (HP.pt g (.mapIter (some m) clock (seen.push e.born) clock) * (HP.row 25 2 u3 out.length (out.flatMap encSpot) * q)))) hj
      obtain ⟨B, cc, hvB, -, -⟩ := h3.row_slice
      have hfm := HV.out.1.mem (List.mem_of_getElem? hj)
      have hfs : f.cels.length ≤ 100000 := by
        have h7 := at_small HV.out.1.fine f.name
        rw [Dk.at, lk_of_mem HV.out.1.fine.sorted hfm] at h7
        simpa [Fil.cs] using h7
      have HFine : Aside (∀ x ∈ f.cels, x.2.Fine) := ⟨fun x hx => HV.out.1.cel_fine (List.mem_of_getElem? hj) hx⟩
      have hset : fs.set j ⟨f.name, f.val, f.cels⟩ = fs := by
        obtain ⟨h1, h2⟩ := List.getElem?_eq_some_iff.1 hj
        rw [show (⟨f.name, f.val, f.cels⟩ : Fil) = fs[j] from h2.symm]
        exact List.set_getElem_self h1
      have hst := leftS_step HM.out.2.2.2.2 HV.out.2 hje hj hel
      have HC := Aside.mk (And.intro hback (And.intro hset (And.intro hst hel)))
      have hce : f.cs.length = f.cels.length := by unfold Fil.cs; rw [List.length_map]
      rw [hvB] at hnext hent h3
      have H3 := Aside.mk h3
      have HG1 := Aside.mk HS.out.get
      clear HS h2 hback h3 hj hje hel hfm hset hst
      obtain ⟨n, hnn⟩ : ∃ n, n = f.cels.length := ⟨_, rfl⟩
      rw [← hnn] at H3 hfs hnext hent hce
      have HN := Aside.mk (And.intro hnn hce)
      clear hnn hce
      go_wp2
      obtain ⟨wo, rfl⟩ : ∃ wo : World, wo = wr := ⟨_, rfl⟩
      go_loopw [3, 22] (fun v3 v22 wi => ∃ k : Nat, v22 = .int .i64 k ∧ k ≤ n ∧ Aside (Sat E wi (HP.row 25 2 v3 (out ++ spotsN f.name f.cs k).length ((out ++ spotsN f.name f.cs k).flatMap encSpot) * (HP.row 121 1 (.slice B n cc) n (celPtrs f.cels) * (HP.cels f.cels * (R0 * (HP.pt g (.mapIter (some m) clock (seen.push e.born) clock) * q))))))) (fun _ x _ => n - (intOf x).toNat)
      case atStart => exact ⟨0, rfl, Nat.zero_le _, ⟨by rw [show spotsN f.name f.cs 0 = [] from rfl, List.append_nil]; exact H3.out.perm (by ac_rfl)⟩⟩
      case round =>
        clear H3 hnext hent
        obtain ⟨k, rfl, hk, HR⟩ := hrel
        by_cases hlt : k < n
        · have hkf : k < f.cels.length := by have := HN.out.1; omega
          have hrow := HR.out.right
          obtain ⟨pa, hpa, hcx⟩ := hrow.row_cells.at_ k (by simp [celPtrs, hkf])
          obtain ⟨pg, po, rfl⟩ : ∃ g o, pa = ⟨g, o, none⟩ := slice_addr hrow.row_cells hpa (k := k) (by simp [celPtrs, hkf])
          subst hpa
          rw [addr_add] at hcx
          simp only [celPtrs, List.getElem_map] at hcx
          obtain ⟨Rk, h5, hRk, hbackk⟩ := cels_take (hrow.s2) (List.getElem?_eq_getElem hkf)
          have hxf : (f.cels[k]).2.Fine := HFine.out _ (List.getElem_mem hkf)
          have hcs : f.cs[k]? = some (f.cels[k]).2 := by unfold Fil.cs; rw [List.getElem?_map, List.getElem?_eq_getElem hkf]; rfl
          have HSN : Aside (spotsN f.name f.cs (k + 1) = spotsN f.name f.cs k ++ if (f.cels[k]).2.bad = true then [(f.name, (k : Int))] else []) := ⟨by rw [spotsN, hcs]; rfl⟩
          have hsl := spotsN_length f.name f.cs k
          generalize f.cels[k] = x at *
          obtain ⟨bk, c⟩ := x
          dsimp only at *
          have hk0 : (0 : Int) ≤ (k : Int) := by omega
          have hk1 : (k : Int) < (n : Int) := by omega
          have ld1 := run_loadAgg agImg (by rw [b8s_length]; exact hxf.2.1) (cel_durable h5.drew hxf)
          have ld2 := run_loadAgg agImg (by rw [b8s_length]; exact hxf.2.2.1) (cel_synced h5.drew hxf)
          have ld4 := run_loadAgg agImg (by rw [b8s_length]; exact hxf.2.2.2) (cel_written h5.drew hxf)
          have ne1 := run_neq_u8s (P := Tryd.prog) (w := wr.drew) Tryd.underlying123 Tryd.underlying5 (by kernel_rfl) (by kernel_rfl) c.durable c.synced hxf.2.1 hxf.2.2.1
          have ne2 := run_neq_u8s (P := Tryd.prog) (w := wr.drew) Tryd.underlying123 Tryd.underlying5 (by kernel_rfl) (by kernel_rfl) c.durable c.written hxf.2.1 hxf.2.2.2
          clear hRk hrow
          by_cases e1 : c.durable = c.synced
          · have hbad : c.bad = false := by unfold Cel.bad; simp [e1]
            rw [hbad] at HSN
            simp only [Bool.false_eq_true, if_false, List.append_nil] at HSN
            have HR2 : Aside (Sat E wr.drew (HP.row 25 2 u3 (out ++ spotsN f.name f.cs (k + 1)).length ((out ++ spotsN f.name f.cs (k + 1)).flatMap encSpot) * (HP.row 121 1 (.slice (some ⟨pg, po, none⟩) n cc) n (celPtrs f.cels) * (HP.cels f.cels * (R0 * (HP.pt g (.mapIter (some m) clock (seen.push e.born) clock) * q)))))) := ⟨by rw [HSN.out]; exact HR.out.drew⟩
            rw [decide_eq_true e1] at ne1
            generalize (b8s c.durable).toArray = D1 at *
            generalize (b8s c.synced).toArray = D2 at *
            clear ld4 ne2 h5 hbackk HR HSN hxf hcs
            go_wp2
            refine region_R [] [] (fun _ => True) #[false, false, false, false, false, false, false, false, false, false, false, false, false, false, false, false, false, false, false, false] (by kernel_rfl) rfl rfl ?_
            refine wpR_rd 0 #[true, false, false, false, false, false, false, false, false, false, false, false, false, false, false, false, false, false, false, false] rfl onlyN_noPanic (by kernel_rfl) (fun K hK => ?_); (go_simp; try go_bits); refine hK _ ?_; clear hK K
            refine wpR_rd 1 #[true, true, false, false, false, false, false, false, false, false, false, false, false, false, false, false, false, false, false, false] rfl onlyN_noPanic (by kernel_rfl) (fun K hK => ?_); (go_simp; try go_bits); refine hK _ ?_; clear hK K
            refine wpR_rd 2 #[true, true, true, false, false, false, false, false, false, false, false, false, false, false, false, false, false, false, false, false] rfl onlyN_noPanic (by kernel_rfl) (fun K hK => ?_); (go_simp; try go_bits); refine hK _ ?_; clear hK K
            refine wpR_read (i := 3) #[true, true, true, true, false, false, false, false, false, false, false, false, false, false, false, false, false, false, false, false] rfl onlyN_noPanic (by kernel_rfl) (.inl ⟨rfl, exec_load rfl rfl ld1⟩) ?_
            simp only [Act.put, List.setIfInBounds_toArray, List.set_cons_zero, List.set_cons_succ]
            refine wpR_rd 4 #[true, true, true, true, true, false, false, false, false, false, false, false, false, false, false, false, false, false, false, false] rfl onlyN_noPanic (by kernel_rfl) (fun K hK => ?_); (go_simp; try go_bits); refine hK _ ?_; clear hK K
            refine wpR_rd 5 #[true, true, true, true, true, true, false, false, false, false, false, false, false, false, false, false, false, false, false, false] rfl onlyN_noPanic (by kernel_rfl) (fun K hK => ?_); (go_simp; try go_bits); refine hK _ ?_; clear hK K
            refine wpR_rd 6 #[true, true, true, true, true, true, true, false, false, false, false, false, false, false, false, false, false, false, false, false] rfl onlyN_noPanic (by kernel_rfl) (fun K hK => ?_); (go_simp; try go_bits); refine hK _ ?_; clear hK K
            refine wpR_read (i := 7) #[true, true, true, true, true, true, true, true, false, false, false, false, false, false, false, false, false, false, false, false] rfl onlyN_noPanic (by kernel_rfl) (.inl ⟨rfl, exec_load rfl rfl ld2⟩) ?_
            simp only [Act.put, List.setIfInBounds_toArray, List.set_cons_zero, List.set_cons_succ]
            refine wpR_read (i := 8) #[true, true, true, true, true, true, true, true, true, false, false, false, false, false, false, false, false, false, false, false] rfl onlyN_noPanic (by kernel_rfl) (.inl ⟨rfl, exec_binop rfl rfl rfl (run_eqGuard_agg _ .neq 123 _ _ _ _ (by kernel_rfl)) ne1⟩) ?_
            simp only [Act.put, List.setIfInBounds_toArray, List.set_cons_zero, List.set_cons_succ]
            refine wpR_rd 9 #[true, true, true, true, true, true, true, true, true, true, false, false, false, false, false, false, false, false, false, false] rfl onlyN_noPanic (by kernel_rfl) (fun K hK => ?_); (go_simp; try go_bits); refine hK _ ?_; clear hK K
            refine wpR_rd 10 #[true, true, true, true, true, true, true, true, true, true, true, false, false, false, false, false, false, false, false, false] rfl onlyN_noPanic (by kernel_rfl) (fun K hK => ?_); (go_simp; try go_bits); refine hK _ ?_; clear hK K
            refine wpR_rd 11 #[true, true, true, true, true, true, true, true, true, true, true, true, false, false, false, false, false, false, false, false] rfl onlyN_noPanic (by kernel_rfl) (fun K hK => ?_); (go_simp; try go_bits); refine hK _ ?_; clear hK K
            refine wpR_rd 12 #[true, true, true, true, true, true, true, true, true, true, true, true, true, false, false, false, false, false, false, false] rfl onlyN_noPanic (by kernel_rfl) (fun K hK => ?_); (go_simp; try go_bits); refine hK _ ?_; clear hK K
            refine wpR_rd 13 #[true, true, true, true, true, true, true, true, true, true, true, true, true, true, false, false, false, false, false, false] rfl onlyN_noPanic (by kernel_rfl) (fun K hK => ?_); (go_simp; try go_bits); refine hK _ ?_; clear hK K
            refine wpR_rd 14 #[true, true, true, true, true, true, true, true, true, true, true, true, true, true, true, false, false, false, false, false] rfl onlyN_noPanic (by kernel_rfl) (fun K hK => ?_); (go_simp; try go_bits); refine hK _ ?_; clear hK K
            refine wpR_rd 15 #[true, true, true, true, true, true, true, true, true, true, true, true, true, true, true, true, false, false, false, false] rfl onlyN_noPanic (by kernel_rfl) (fun K hK => ?_); (go_simp; try go_bits); refine hK _ ?_; clear hK K
            refine wpR_rd 16 #[true, true, true, true, true, true, true, true, true, true, true, true, true, true, true, true, true, false, false, false] rfl onlyN_noPanic (by kernel_rfl) (fun K hK => ?_); (go_simp; try go_bits); refine hK _ ?_; clear hK K
            refine wpR_rd 17 #[true, true, true, true, true, true, true, true, true, true, true, true, true, true, true, true, true, true, false, false] rfl onlyN_noPanic (by kernel_rfl) (fun K hK => ?_); (go_simp; try go_bits); refine hK _ ?_; clear hK K
            refine wpR_rd 18 #[true, true, true, true, true, true, true, true, true, true, true, true, true, true, true, true, true, true, true, false] rfl onlyN_noPanic (by kernel_rfl) (fun K hK => ?_); (go_simp; try go_bits); refine hK _ ?_; clear hK K
            refine wpR_rd 19 #[true, true, true, true, true, true, true, true, true, true, true, true, true, true, true, true, true, true, true, true] rfl onlyN_noPanic (by kernel_rfl) (fun K hK => ?_); (go_simp; try go_bits); refine hK _ ?_; clear hK K
            refine wpR_done (by kernel_rfl) ?_ _
            simp only [OnlyN]
            go_wp2
            go_roundw
            case rel => exact ⟨k + 1, by go_num, by omega, HR2⟩
            case measure => simp [intOf]; omega
          · rw [decide_eq_false e1] at ne1
            by_cases e2 : c.durable = c.written
            · have hbad : c.bad = false := by unfold Cel.bad; simp [e2]
              rw [hbad] at HSN
              simp only [Bool.false_eq_true, if_false, List.append_nil] at HSN
              have HR2 : Aside (Sat E wr.drew (HP.row 25 2 u3 (out ++ spotsN f.name f.cs (k + 1)).length ((out ++ spotsN f.name f.cs (k + 1)).flatMap encSpot) * (HP.row 121 1 (.slice (some ⟨pg, po, none⟩) n cc) n (celPtrs f.cels) * (HP.cels f.cels * (R0 * (HP.pt g (.mapIter (some m) clock (seen.push e.born) clock) * q)))))) := ⟨by rw [HSN.out]; exact HR.out.drew⟩
              rw [decide_eq_true e2] at ne2
              generalize (b8s c.durable).toArray = D1 at *
              generalize (b8s c.synced).toArray = D2 at *
              generalize (b8s c.written).toArray = D3 at *
              clear h5 hbackk HR HSN hxf hcs
              go_wp2
              refine region_R [] [] (fun _ => True) #[false, false, false, false, false, false, false, false, false, false, false, false, false, false, false, false, false, false, false, false] (by kernel_rfl) rfl rfl ?_
              refine wpR_rd 0 #[true, false, false, false, false, false, false, false, false, false, false, false, false, false, false, false, false, false, false, false] rfl onlyN_noPanic (by kernel_rfl) (fun K hK => ?_); (go_simp; try go_bits); refine hK _ ?_; clear hK K
              refine wpR_rd 1 #[true, true, false, false, false, false, false, false, false, false, false, false, false, false, false, false, false, false, false, false] rfl onlyN_noPanic (by kernel_rfl) (fun K hK => ?_); (go_simp; try go_bits); refine hK _ ?_; clear hK K
              refine wpR_rd 2 #[true, true, true, false, false, false, false, false, false, false, false, false, false, false, false, false, false, false, false, false] rfl onlyN_noPanic (by kernel_rfl) (fun K hK => ?_); (go_simp; try go_bits); refine hK _ ?_; clear hK K
              refine wpR_read (i := 3) #[true, true, true, true, false, false, false, false, false, false, false, false, false, false, false, false, false, false, false, false] rfl onlyN_noPanic (by kernel_rfl) (.inl ⟨rfl, exec_load rfl rfl ld1⟩) ?_
              simp only [Act.put, List.setIfInBounds_toArray, List.set_cons_zero, List.set_cons_succ]
              refine wpR_rd 4 #[true, true, true, true, true, false, false, false, false, false, false, false, false, false, false, false, false, false, false, false] rfl onlyN_noPanic (by kernel_rfl) (fun K hK => ?_); (go_simp; try go_bits); refine hK _ ?_; clear hK K
              refine wpR_rd 5 #[true, true, true, true, true, true, false, false, false, false, false, false, false, false, false, false, false, false, false, false] rfl onlyN_noPanic (by kernel_rfl) (fun K hK => ?_); (go_simp; try go_bits); refine hK _ ?_; clear hK K
              refine wpR_rd 6 #[true, true, true, true, true, true, true, false, false, false, false, false, false, false, false, false, false, false, false, false] rfl onlyN_noPanic (by kernel_rfl) (fun K hK => ?_); (go_simp; try go_bits); refine hK _ ?_; clear hK K
              refine wpR_read (i := 7) #[true, true, true, true, true, true, true, true, false, false, false, false, false, false, false, false, false, false, false, false] rfl onlyN_noPanic (by kernel_rfl) (.inl ⟨rfl, exec_load rfl rfl ld2⟩) ?_
              simp only [Act.put, List.setIfInBounds_toArray, List.set_cons_zero, List.set_cons_succ]
              refine wpR_read (i := 8) #[true, true, true, true, true, true, true, true, true, false, false, false, false, false, false, false, false, false, false, false] rfl onlyN_noPanic (by kernel_rfl) (.inl ⟨rfl, exec_binop rfl rfl rfl (run_eqGuard_agg _ .neq 123 _ _ _ _ (by kernel_rfl)) ne1⟩) ?_
              simp only [Act.put, List.setIfInBounds_toArray, List.set_cons_zero, List.set_cons_succ]
              refine wpR_rd 9 #[true, true, true, true, true, true, true, true, true, true, false, false, false, false, false, false, false, false, false, false] rfl onlyN_noPanic (by kernel_rfl) (fun K hK => ?_); (go_simp; try go_bits); refine hK _ ?_; clear hK K
              refine wpR_rd 10 #[true, true, true, true, true, true, true, true, true, true, true, false, false, false, false, false, false, false, false, false] rfl onlyN_noPanic (by kernel_rfl) (fun K hK => ?_); (go_simp; try go_bits); refine hK _ ?_; clear hK K
              refine wpR_rd 11 #[true, true, true, true, true, true, true, true, true, true, true, true, false, false, false, false, false, false, false, false] rfl onlyN_noPanic (by kernel_rfl) (fun K hK => ?_); (go_simp; try go_bits); refine hK _ ?_; clear hK K
              refine wpR_rd 12 #[true, true, true, true, true, true, true, true, true, true, true, true, true, false, false, false, false, false, false, false] rfl onlyN_noPanic (by kernel_rfl) (fun K hK => ?_); (go_simp; try go_bits); refine hK _ ?_; clear hK K
              refine wpR_read (i := 13) #[true, true, true, true, true, true, true, true, true, true, true, true, true, true, false, false, false, false, false, false] rfl onlyN_noPanic (by kernel_rfl) (.inl ⟨rfl, exec_load rfl rfl ld1⟩) ?_
              simp only [Act.put, List.setIfInBounds_toArray, List.set_cons_zero, List.set_cons_succ]
              refine wpR_rd 14 #[true, true, true, true, true, true, true, true, true, true, true, true, true, true, true, false, false, false, false, false] rfl onlyN_noPanic (by kernel_rfl) (fun K hK => ?_); (go_simp; try go_bits); refine hK _ ?_; clear hK K
              refine wpR_rd 15 #[true, true, true, true, true, true, true, true, true, true, true, true, true, true, true, true, false, false, false, false] rfl onlyN_noPanic (by kernel_rfl) (fun K hK => ?_); (go_simp; try go_bits); refine hK _ ?_; clear hK K
              refine wpR_rd 16 #[true, true, true, true, true, true, true, true, true, true, true, true, true, true, true, true, true, false, false, false] rfl onlyN_noPanic (by kernel_rfl) (fun K hK => ?_); (go_simp; try go_bits); refine hK _ ?_; clear hK K
              refine wpR_read (i := 17) #[true, true, true, true, true, true, true, true, true, true, true, true, true, true, true, true, true, true, false, false] rfl onlyN_noPanic (by kernel_rfl) (.inl ⟨rfl, exec_load rfl rfl ld4⟩) ?_
              simp only [Act.put, List.setIfInBounds_toArray, List.set_cons_zero, List.set_cons_succ]
              refine wpR_read (i := 18) #[true, true, true, true, true, true, true, true, true, true, true, true, true, true, true, true, true, true, true, false] rfl onlyN_noPanic (by kernel_rfl) (.inl ⟨rfl, exec_binop rfl rfl rfl (run_eqGuard_agg _ .neq 123 _ _ _ _ (by kernel_rfl)) ne2⟩) ?_
              simp only [Act.put, List.setIfInBounds_toArray, List.set_cons_zero, List.set_cons_succ]
              refine wpR_rd 19 #[true, true, true, true, true, true, true, true, true, true, true, true, true, true, true, true, true, true, true, true] rfl onlyN_noPanic (by kernel_rfl) (fun K hK => ?_); (go_simp; try go_bits); refine hK _ ?_; clear hK K
              refine wpR_done (by kernel_rfl) ?_ _
              simp only [OnlyN]
              go_wp2
              go_roundw
              case rel => exact ⟨k + 1, by go_num, by omega, HR2⟩
              case measure => simp [intOf]; omega
            · have hbad : c.bad = true := by unfold Cel.bad; simp [e1, e2]
              rw [hbad] at HSN
              simp only [if_true] at HSN
              rw [decide_eq_false e2] at ne2
              have HR2 := Aside.mk HR.out.drew
              obtain ⟨ln, hln⟩ : ∃ ln, ln = (out ++ spotsN f.name f.cs k).length := ⟨_, rfl⟩
              have hln2 : ln ≤ 200000 := by rw [hln, List.length_append]; omega
              rw [← hln] at HR2
              have HLN := Aside.mk hln
              generalize (b8s c.durable).toArray = D1 at *
              generalize (b8s c.synced).toArray = D2 at *
              generalize (b8s c.written).toArray = D3 at *
              obtain ⟨A3, c3, rfl, -, -⟩ := HR2.out.row_slice
              clear h5 hbackk HR hxf hcs hln
              go_wp2
              refine region_R [] [] (fun _ => True) #[false, false, false, false, false, false, false, false, false, false, false, false, false, false, false, false, false, false, false, false] (by kernel_rfl) rfl rfl ?_
              refine wpR_rd 0 #[true, false, false, false, false, false, false, false, false, false, false, false, false, false, false, false, false, false, false, false] rfl onlyN_noPanic (by kernel_rfl) (fun K hK => ?_); (go_simp; try go_bits); refine hK _ ?_; clear hK K
              refine wpR_rd 1 #[true, true, false, false, false, false, false, false, false, false, false, false, false, false, false, false, false, false, false, false] rfl onlyN_noPanic (by kernel_rfl) (fun K hK => ?_); (go_simp; try go_bits); refine hK _ ?_; clear hK K
              refine wpR_rd 2 #[true, true, true, false, false, false, false, false, false, false, false, false, false, false, false, false, false, false, false, false] rfl onlyN_noPanic (by kernel_rfl) (fun K hK => ?_); (go_simp; try go_bits); refine hK _ ?_; clear hK K
              refine wpR_read (i := 3) #[true, true, true, true, false, false, false, false, false, false, false, false, false, false, false, false, false, false, false, false] rfl onlyN_noPanic (by kernel_rfl) (.inl ⟨rfl, exec_load rfl rfl ld1⟩) ?_
              simp only [Act.put, List.setIfInBounds_toArray, List.set_cons_zero, List.set_cons_succ]
              refine wpR_rd 4 #[true, true, true, true, true, false, false, false, false, false, false, false, false, false, false, false, false, false, false, false] rfl onlyN_noPanic (by kernel_rfl) (fun K hK => ?_); (go_simp; try go_bits); refine hK _ ?_; clear hK K
              refine wpR_rd 5 #[true, true, true, true, true, true, false, false, false, false, false, false, false, false, false, false, false, false, false, false] rfl onlyN_noPanic (by kernel_rfl) (fun K hK => ?_); (go_simp; try go_bits); refine hK _ ?_; clear hK K
              refine wpR_rd 6 #[true, true, true, true, true, true, true, false, false, false, false, false, false, false, false, false, false, false, false, false] rfl onlyN_noPanic (by kernel_rfl) (fun K hK => ?_); (go_simp; try go_bits); refine hK _ ?_; clear hK K
              refine wpR_read (i := 7) #[true, true, true, true, true, true, true, true, false, false, false, false, false, false, false, false, false, false, false, false] rfl onlyN_noPanic (by kernel_rfl) (.inl ⟨rfl, exec_load rfl rfl ld2⟩) ?_
              simp only [Act.put, List.setIfInBounds_toArray, List.set_cons_zero, List.set_cons_succ]
              refine wpR_read (i := 8) #[true, true, true, true, true, true, true, true, true, false, false, false, false, false, false, false, false, false, false, false] rfl onlyN_noPanic (by kernel_rfl) (.inl ⟨rfl, exec_binop rfl rfl rfl (run_eqGuard_agg _ .neq 123 _ _ _ _ (by kernel_rfl)) ne1⟩) ?_
              simp only [Act.put, List.setIfInBounds_toArray, List.set_cons_zero, List.set_cons_succ]
              refine wpR_rd 9 #[true, true, true, true, true, true, true, true, true, true, false, false, false, false, false, false, false, false, false, false] rfl onlyN_noPanic (by kernel_rfl) (fun K hK => ?_); (go_simp; try go_bits); refine hK _ ?_; clear hK K
              refine wpR_rd 10 #[true, true, true, true, true, true, true, true, true, true, true, false, false, false, false, false, false, false, false, false] rfl onlyN_noPanic (by kernel_rfl) (fun K hK => ?_); (go_simp; try go_bits); refine hK _ ?_; clear hK K
              refine wpR_rd 11 #[true, true, true, true, true, true, true, true, true, true, true, true, false, false, false, false, false, false, false, false] rfl onlyN_noPanic (by kernel_rfl) (fun K hK => ?_); (go_simp; try go_bits); refine hK _ ?_; clear hK K
              refine wpR_rd 12 #[true, true, true, true, true, true, true, true, true, true, true, true, true, false, false, false, false, false, false, false] rfl onlyN_noPanic (by kernel_rfl) (fun K hK => ?_); (go_simp; try go_bits); refine hK _ ?_; clear hK K
              refine wpR_read (i := 13) #[true, true, true, true, true, true, true, true, true, true, true, true, true, true, false, false, false, false, false, false] rfl onlyN_noPanic (by kernel_rfl) (.inl ⟨rfl, exec_load rfl rfl ld1⟩) ?_
              simp only [Act.put, List.setIfInBounds_toArray, List.set_cons_zero, List.set_cons_succ]
              refine wpR_rd 14 #[true, true, true, true, true, true, true, true, true, true, true, true, true, true, true, false, false, false, false, false] rfl onlyN_noPanic (by kernel_rfl) (fun K hK => ?_); (go_simp; try go_bits); refine hK _ ?_; clear hK K
              refine wpR_rd 15 #[true, true, true, true, true, true, true, true, true, true, true, true, true, true, true, true, false, false, false, false] rfl onlyN_noPanic (by kernel_rfl) (fun K hK => ?_); (go_simp; try go_bits); refine hK _ ?_; clear hK K
              refine wpR_rd 16 #[true, true, true, true, true, true, true, true, true, true, true, true, true, true, true, true, true, false, false, false] rfl onlyN_noPanic (by kernel_rfl) (fun K hK => ?_); (go_simp; try go_bits); refine hK _ ?_; clear hK K
              refine wpR_read (i := 17) #[true, true, true, true, true, true, true, true, true, true, true, true, true, true, true, true, true, true, false, false] rfl onlyN_noPanic (by kernel_rfl) (.inl ⟨rfl, exec_load rfl rfl ld4⟩) ?_
              simp only [Act.put, List.setIfInBounds_toArray, List.set_cons_zero, List.set_cons_succ]
              refine wpR_read (i := 18) #[true, true, true, true, true, true, true, true, true, true, true, true, true, true, true, true, true, true, true, false] rfl onlyN_noPanic (by kernel_rfl) (.inl ⟨rfl, exec_binop rfl rfl rfl (run_eqGuard_agg _ .neq 123 _ _ _ _ (by kernel_rfl)) ne2⟩) ?_
              simp only [Act.put, List.setIfInBounds_toArray, List.set_cons_zero, List.set_cons_succ]
              refine wpR_rd 19 #[true, true, true, true, true, true, true, true, true, true, true, true, true, true, true, true, true, true, true, true] rfl onlyN_noPanic (by kernel_rfl) (fun K hK => ?_); (go_simp; try go_bits); refine hK _ ?_; clear hK K
              refine wpR_done (by kernel_rfl) ?_ _
              simp only [OnlyN]
              go_wp2_with (at_builtin; refine wpList_append_new slSp rfl rfl (by rfl) (by rfl) HR2.out (by rfl) (by rfl) (by unfold maxLen; omega) (by omega) (fun v5 w5 hw5 => ?_); obtain ⟨A5, c5, rfl, -, -⟩ := hw5.row_slice; have HW5 := Aside.mk hw5; clear hw5)
              refine ⟨⟨k + 1, by push_cast; rfl, by omega, ⟨by rw [HSN.out, ← List.append_assoc, List.flatMap_append, List.length_append, ← HLN.out]; exact HW5.out⟩⟩, ?_⟩
              simp only [intOf]
              omega
        · have hkn : k = n := by omega
          subst hkn
          have HT : Aside (Sat E wr (HP.pt g (.mapIter (some m) clock (seen.push e.born) clock) * (HP.row 25 2 u3 (out ++ spotsF (f.name, f.cs)).length ((out ++ spotsF (f.name, f.cs)).flatMap encSpot) * (HP.dk d A.room A.fuse m es clock fs * q)))) := ⟨by
            obtain ⟨hback, hset, -, -⟩ := HC.out
            have e1 : spotsF (f.name, f.cs) = spotsN f.name f.cs k := by unfold spotsF; rw [HN.out.2]
            rw [e1]
            have h8 := hback _ wr f.cels rfl (by rw [hvB, ← HN.out.1]; exact HR.out.perm (by ac_rfl : _ = HP.row 121 1 (.slice B k cc) k (celPtrs f.cels) * (HP.cels f.cels * (R0 * (HP.pt g (.mapIter (some m) clock (seen.push e.born) clock) * (HP.row 25 2 u3 (out ++ spotsN f.name f.cs k).length ((out ++ spotsN f.name f.cs k).flatMap encSpot) * q))))))
            rw [hset] at h8
            exact h8.perm (by ac_rfl)⟩
          have HO2 : Aside (((out ++ spotsF (f.name, f.cs)) ++ leftS es (seen.push e.born) fs).Perm A.damaged) := ⟨by
            rw [List.append_assoc]
            exact ((HC.out.2.2.1.symm).append_left out).trans HO.out⟩
          have HLS : Aside ((leftL es (seen.push e.born)).length < (leftL es seen).length) := ⟨left_less HM.out.2.2.2.2 HC.out.2.2.2⟩
          clear HR HC HFine HN HO
          go_wp2
          go_roundw
          case rel => exact ⟨seen.push e.born, clock, out ++ spotsF (f.name, f.cs), Nat.le_refl _, HO2, HT⟩
          case measure =>
            have h8 := HT.out.get
            rw [h8, HG1.out]
            exact HLS.out
end Go.Proofs.YtanlgadijndmaaaDoor
/- PairHalf, the plain part: a stored text, one half turned, read and mended. -/
namespace Go.Proofs.YtanlgadijndmaaaDoor
open Go.RowKit HP
set_option linter.unusedSimpArgs false
set_option linter.unusedVariables false

def gpOf (gen : Nat) (ps : List (List Int)) : List (Nat × List Int) := ps.map fun p => (gen, p)
theorem gpOf_get {gen k : Nat} {ps : List (List Int)} {p : List Int} (h : ps[k]? = some p) : (gpOf gen ps)[k]? = some (gen, p) := by unfold gpOf; rw [List.getElem?_map, h]; rfl
theorem newCels_imgs (f : ByteArray) (gen : Nat) (ps : List (List Int)) : (newCels f gen 0 ps).map Cel.syncd = imgsF f (gpOf gen ps) := by
  apply List.ext_getElem?
  intro k
  rcases Nat.lt_or_ge k ps.length with h | h
  · have hp := List.getElem?_eq_getElem h
    rw [List.getElem?_map, newCels_get ps 0 k _ hp, imgsF_get (gpOf_get hp), Nat.zero_add]
    rfl
  · rw [List.getElem?_eq_none (by rw [List.length_map, newCels_length]; exact h), List.getElem?_eq_none (by rw [imgsF_length]; unfold gpOf; rw [List.length_map]; exact h)]
structure StoredX (room : Int) (gen : Nat) (l : List Int) (A : Dk) : Prop where
  eq : storeP (Dk.new room) exS gen l = (0, A)
  hold : HoldG A exS (gpOf gen (piecesI l))
  ok : GpOk (gpOf gen (piecesI l))
  some_ : 0 < (gpOf gen (piecesI l)).length
theorem pieces_byt {l : List Int} (hb : Bytes l) : ∀ p ∈ piecesI l, Bytes p := by
  intro p hp x hx
  have h := piecesI_flat l
  exact hb x (by rw [← h]; exact List.mem_flatten.2 ⟨p, hp, hx⟩)
theorem store_x {room : Int} {l : List Int} {gen : Nat} (hg : (gen : Int) ≤ 4611686018427387904) (hr : needI l.length ≤ room) (hl : (piecesI l).length ≤ 2147483647) (hb : Bytes l) : ∃ A, StoredX room gen l A := by
  obtain ⟨p1, p2, -, p4⟩ := pieces_count (l := l)
  have hd : dropP (Dk.new room) exS = (0, Dk.new room) := by simp [dropP, dropL, halvesL, Dk.at, Dk.new, lk_nil]
  have hs0 : Sorted (Dk.new room).files := List.Pairwise.nil
  have hz : sizeF (Dk.new room).files = 0 := rfl
  have c1 : ((piecesI l).length : Int) ≤ (Dk.new room).free := by show _ ≤ room - (0 : Nat); omega
  obtain ⟨B1, h1, f1, -⟩ := wrF_fresh (f := exS ++ dotA) twoEx.na hg (piecesI l) (Dk.new room) 0 hs0 rfl rfl c1 p4 (by omega) (by omega)
  have g1 := wrF_cels (f := exS ++ dotA) twoEx.na hg (piecesI l) (Dk.new room) 0 hs0 rfl rfl c1 p4 (by omega) (by omega)
  have hr1 : B1.room = room := f1.room
  have c2 : ((piecesI l).length : Int) ≤ B1.free := by
    have := f1.size
    unfold Dk.free
    omega
  have hb0 : (B1.at (exS ++ dotB)).length = 0 := by rw [f1.others _ twoEx.ne]; rfl
  obtain ⟨B2, h2, f2, -⟩ := wrF_fresh (f := exS ++ dotB) twoEx.nb hg (piecesI l) B1 0 f1.sorted f1.fuse hb0 c2 p4 (by omega) (by omega)
  have g2 := wrF_cels (f := exS ++ dotB) twoEx.nb hg (piecesI l) B1 0 f1.sorted f1.fuse hb0 c2 p4 (by omega) (by omega)
  have hst : storeP (Dk.new room) exS gen l = (0, B2) := by
    unfold storeP
    rw [hd, if_pos rfl]
    unfold wrP halvesL
    simp only [wrL, h1, h2, if_pos rfl]
    rfl
  rw [h1] at g1
  rw [h2] at g2
  refine ⟨B2, hst, ⟨?_, ?_, f2.sorted, f2.fuse, fun t h3 h4 => ?_⟩, ⟨?_, fun x hx => ?_⟩, ?_⟩
  · rw [f2.others _ (Ne.symm twoEx.ne), ← newCels_imgs]
    exact g1
  · rw [List.eq_nil_of_length_eq_zero hb0, List.nil_append] at g2
    rw [← newCels_imgs]
    exact g2
  · rw [f2.others _ h4, f1.others _ h3]; rfl
  · unfold gpOf; rw [List.length_map]; exact hl
  · unfold gpOf at hx
    obtain ⟨p, hp, rfl⟩ := List.mem_map.1 hx
    exact ⟨by show gen ≤ _; omega, p4 p hp, pieces_byt hb p hp⟩
  · unfold gpOf; rw [List.length_map]; exact p2
theorem gets_loadG {B : Dk} {x : ByteArray} {gen : Nat} {ps : List (List Int)} (h : ∀ (k : Nat) (p : List Int), ps[k]? = some p → getP B x (k : Int) = ((gen : Int), p)) : ∀ (c i : Nat) (out : List Int), i + c = ps.length → loadG B x gen i c out = some (out ++ (ps.drop i).flatten)
  | 0, i, out, hi => by
    rw [List.drop_of_length_le (by omega)]
    simp [loadG]
  | c + 1, i, out, hi => by
    have hil : i < ps.length := by omega
    have hg2 := h i _ (List.getElem?_eq_getElem hil)
    unfold loadG
    rw [hg2, if_pos ⟨by show (0 : Int) ≤ gen; omega, rfl⟩, gets_loadG h c (i + 1) _ (by omega)]
    have e : (ps.drop i).flatten = ps[i] ++ (ps.drop (i + 1)).flatten := by rw [List.drop_eq_getElem_cons hil, List.flatten_cons]
    rw [e, List.append_assoc]
theorem turned_load {room : Int} {A B : Dk} {gen : Nat} {l : List Int} {f : ByteArray} {l' : List Cel} (S : StoredX room gen l A) (hf : f ∈ halvesL exS) (hT : Turned A B exS f (gpOf gen (piecesI l)) l') (ht : toldB B A = true) : loadP B exS gen = some l := by
  have hlen : ∀ t ∈ halvesL exS, (B.at t).length = (piecesI l).length := by
    intro t htm
    rw [hT.eq, at_set S.hold.sorted]
    split
    · rw [hT.len]; unfold gpOf; rw [List.length_map]
    · rw [S.hold.at_f htm, imgsF_length]; unfold gpOf; rw [List.length_map]
  have hn : extN B exS = (piecesI l).length := by
    unfold extN
    unfold halvesL at hlen ⊢
    simp only [List.foldl_cons, List.foldl_nil]
    rw [hlen _ (List.mem_cons_self ..), hlen _ (List.mem_cons_of_mem _ (List.mem_cons_self ..))]
    omega
  have h0 : 0 < (piecesI l).length := by
    have := S.some_
    unfold gpOf at this
    rw [List.length_map] at this
    exact this
  unfold loadP
  rw [hn, if_neg (by omega), gets_loadG (ps := piecesI l) (fun k p hp => hT.told ht k (gen, p) (gpOf_get hp)) _ 0 [] (by omega)]
  rw [List.drop_zero, List.nil_append, piecesI_flat]
theorem spots_none {s : ByteArray} {l : List Cel} (h : ∀ c ∈ l, c.bad = false) : ∀ k, spotsN s l k = []
  | 0 => rfl
  | k + 1 => by
    unfold spotsN
    rw [spots_none h k, if_neg]
    · rfl
    · cases hk : l[k]? with
      | none => simp
      | some c => simp [h c (List.mem_of_getElem? hk)]
theorem hold_sound {A : Dk} {x : ByteArray} {gp : List (Nat × List Int)} (H : HoldG A x gp) : A.damaged = [] := by
  unfold Dk.damaged
  rw [List.flatMap_eq_nil_iff]
  intro y hy
  have hl := lk_of_mem H.sorted (s := y.1) (v := y.2) hy
  have hat : A.at y.1 = y.2 := by unfold Dk.at; rw [hl]; rfl
  unfold spotsF
  refine spots_none (fun c hc => ?_) _
  have key : ∀ f, c ∈ imgsF f gp → c.bad = false := fun f h => by
    obtain ⟨k, z, -, rfl⟩ := imgsF_mem h
    simp [Cel.bad, stl]
  rw [← hat] at hc
  by_cases h1 : x ++ dotA = y.1
  · rw [← h1, H.a] at hc; exact key _ hc
  · by_cases h2 : x ++ dotB = y.1
    · rw [← h2, H.b] at hc; exact key _ hc
    · rw [H.others _ h1 h2] at hc; cases hc
end Go.Proofs.YtanlgadijndmaaaDoor
/- PairHalf: the walk. -/
namespace Go.Proofs.YtanlgadijndmaaaDoor
open Go.RowKit HP
set_option linter.unusedSimpArgs false
set_option linter.unusedVariables false

set_option maxHeartbeats 4000000 in
set_option maxRecDepth 100000 in
theorem pairHalf_ok (E : Env) (q : HP) (A0 : Option Addr) (l0 : List Int) (n0 c0 : Nat) (gz : Int) (b : Bool) (s : Sl Int) (w : World) (e0 : l0.length = n0) (k0 : n0 ≤ c0) (m0 : c0 ≤ maxLen) (b0 : Bytes l0) (hs : s.l.length ≤ s.cap ∧ s.cap ≤ maxLen)
    (hq : ∀ E w, Sat E w q → Quarter w ∧ Cells w A0 (b8s l0) ∧ Cells w s.A (s.l.map (Value.int .i64))) (hw : Sat E w q) :
    Calls Tryd.prog 7 #[.slice A0 n0 c0, .int .i64 gz, .bool b, s.val] w fun e w' => e = .returned (.bool true) ∧ Sat E w' q := by
  unfold Sl.val
  have hn0 : (if 600 < (n0 : Int) then 600 else (n0 : Int)) = (min n0 600 : Nat) := by split <;> omega
  have hn1 : (min (n0 : Int) 600).toNat = min n0 600 := by omega
  have HQ := Aside.mk (And.intro hq hw)
  have HSL := Aside.mk hs
  have L0 : Aside ((l0.take (min n0 600)).length = min n0 600 ∧ min n0 600 ≤ 600) := ⟨by rw [List.length_take]; omega, by omega⟩
  have HB := Aside.mk b0
  have r0 : min n0 600 ≤ n0 := Nat.min_le_left _ _
  obtain ⟨p0, hp0⟩ : ∃ p0, p0 = min n0 600 := ⟨_, rfl⟩
  rw [← hp0] at hn0 hn1 L0 r0
  have s0 : p0 ≤ c0 := by omega
  clear hq hw b0 e0 hp0 hs
  have hx3 : exS.size + 2 ≤ maxLen := by show 3 ≤ maxLen; unfold maxLen; omega
  have HX3 := Aside.mk hx3
  clear hx3
  have HQ2 : Aside (∀ w, Sat E w q → Quarter w ∧ Cells w A0 (b8s (l0.take p0))) := ⟨fun w h => by
    have h1 := HQ.out.1 _ _ h
    refine ⟨h1.1, ?_⟩
    have := h1.2.1.take p0
    unfold b8s at this ⊢
    rw [List.map_take]; exact this⟩
  have HB2 : Aside (Bytes (l0.take p0)) := ⟨fun x hx => HB.out x (List.mem_of_mem_take hx)⟩
  generalize l0.take p0 = t0 at *
  obtain ⟨gen, hgen, hzg⟩ : ∃ gen : Nat, (gen : Int) ≤ 4611686018427387904 ∧ wrap64 ((IntKind.u64.wrap gz).tmod 4611686018427387905) = (gen : Int) := by
    rw [IntKind.wrap_u64, tmod_of_emod]
    refine ⟨(gz % 18446744073709551616 % 4611686018427387905).toNat, by omega, ?_⟩
    rw [Int.toNat_of_nonneg (by omega)]
    unfold wrap64
    omega
  obtain ⟨pc1, pc2, pc3, pc4⟩ := pieces_count (l := t0)
  have pc3 := pc3 (by rw [L0.out.1]; exact L0.out.2)
  obtain ⟨A, hA⟩ := store_x (room := 20) (l := t0) (gen := gen) hgen (by omega) (by omega) HB2.out
  have HA := Aside.mk hA
  obtain ⟨gp, hgp⟩ : ∃ gp, gp = gpOf gen (piecesI t0) := ⟨_, rfl⟩
  obtain ⟨N, hN⟩ : ∃ N, N = gp.length := ⟨_, rfl⟩
  have hN6 : N ≤ 6 := by rw [hN, hgp]; unfold gpOf; rw [List.length_map]; exact pc3
  have HGP := Aside.mk hgp
  have HN := Aside.mk hN
  clear hA pc1 pc2 pc3 pc4 hgp hN
  go_enter Tryd.func7, Tryd.ntmps7
  go_wp2_with fail
  refine (disk_new_ok E q 20 _ ⟨by omega, by omega⟩ HQ.out.2).mono ?_
  rintro e w1 ⟨d, rfl, h1⟩
  have H1 := Aside.mk h1
  clear h1
  go_wp2_with fail
  refine (pair_store E q d (Dk.new 20) exS gen A0 t0 p0 c0 _ HX3.out hgen L0.out.1 s0 m0 (by have := L0.out.2; omega) HB2.out HQ2.out H1.out).mono ?_
  rintro e w2 ⟨rfl, h2⟩
  rw [HA.out.eq] at h2 ⊢
  have H2 := Aside.mk h2
  clear h2 H1
  cases b
  all_goals
    go_wp2_with fail
    refine (disk_copy E _ d A _ H2.out).mono ?_
    rintro e w3 ⟨c, rfl, h3⟩
    have H3 := Aside.mk h3.s2
    clear h3 H2
    go_wp2_with fail
    refine (half_ok E _ d A _ s.A s.l s.l.length s.cap _ (by show (3 : Nat) ≤ maxLen; unfold maxLen; omega) rfl (Nat.le_trans HSL.out.1 HSL.out.2) (fun E w h => (HQ.out.1 _ w h.right).2.2) H3.out).mono ?_
    rintro e w4 ⟨rfl, B, hr, h4⟩
    obtain ⟨f, hfm, hfl, l', hT⟩ : ∃ f ∈ halvesL exS, f = _ ∧ ∃ l', Turned A B exS f gp l' := by
      rw [HGP.out]
      first
        | exact ⟨exS ++ dotA, List.mem_cons_self .., (show exS ++ dotA = ⟨#[120, 46, 97]⟩ from rfl), turned_of HA.out.hold HA.out.ok HA.out.some_ (List.mem_cons_self ..) hr⟩
        | exact ⟨exS ++ dotB, List.mem_cons_of_mem _ (List.mem_cons_self ..), (show exS ++ dotB = ⟨#[120, 46, 98]⟩ from rfl), turned_of HA.out.hold HA.out.ok HA.out.some_ (List.mem_cons_of_mem _ (List.mem_cons_self ..)) hr⟩
    have HT := Aside.mk hT
    have HF := Aside.mk hfm
    have HFL := Aside.mk hfl
    have H4 := Aside.mk h4
    clear hr h4 H3 hT hfm hfl
    go_wp2_with fail
    refine (told_ok E _ d c B A _ HT.out.rb (HA.out.hold.rbyt HA.out.ok) H4.out).mono ?_
    rintro e w5 ⟨rfl, h5⟩
    have H5 := Aside.mk h5
    clear h5 H4
    obtain ⟨t, ht⟩ : ∃ t, t = toldB B A := ⟨_, rfl⟩
    rw [← ht]
    have HTO := Aside.mk ht.symm
    clear ht
    cases t with
    | false =>
      go_wp2_with fail
      refine (awake5_ok E q _ (fun w h => (HQ.out.1 _ w h).1) H5.out.right.right).mono ?_
      rintro e w6 ⟨rfl, h6⟩
      go_wp2
      go_ret
      exact ⟨rfl, h6⟩
    | true =>
      have HLD : Aside (loadP B exS gen = some t0) := ⟨turned_load HA.out HF.out (by rw [← HGP.out]; exact HT.out) HTO.out⟩
      go_wp2_with fail
      refine (pair_load E _ d B exS gen _ HX3.out (fun f hf i c hc => HT.out.rb f i c hc) (fun w h => (HQ.out.1 _ w h.right).1) H5.out).mono ?_
      intro e w6 h6
      rw [HLD.out] at h6
      obtain ⟨v, rfl, h6⟩ := h6
      obtain ⟨Av, cv, rfl, -, -⟩ := h6.row_slice
      have H6 := Aside.mk h6
      clear h6 H5 HLD
      go_wp2_with fail
      refine (bytesEq_ok Av A0 t0 t0 t0.length p0 cv c0 _ rfl L0.out.1 H6.out.row_cells (HQ2.out _ H6.out.right.right.right).2 HB2.out HB2.out).mono ?_
      rintro e w7 ⟨rfl, rfl⟩
      rw [decide_eq_true rfl]
      have hbl : (B.at f).length = N := by rw [HT.out.eq, at_set HA.out.hold.sorted, if_pos rfl, HT.out.len, HN.out]
      have hbl2 := hbl
      rw [HFL.out] at hbl2
      have HBL := Aside.mk hbl2
      have H7 : Aside (Sat E w7 (HP.disk d (A.set f (mixL f gp l' 0)) * (HP.disk c A * q))) := ⟨by rw [mixL_zero, ← HT.out.eq]; exact H6.out.right⟩
      have H7B := Aside.mk H6.out.right
      clear hbl hbl2 H6
      go_wp2_with fail
      refine (disk_extents E _ d B _ _ (by show (3 : Nat) ≤ maxLen; unfold maxLen; omega) H7B.out).mono ?_
      rintro e w8 ⟨rfl, rfl⟩
      rw [HBL.out]
      clear H7B HBL
      have HNB : Aside (namedB f = true) := ⟨by rw [HFL.out]; kernel_rfl⟩
      clear HFL
      go_wp2
      go_loopw [75] (fun v75 wr => ∃ k : Nat, v75 = .int .i64 k ∧ k ≤ N ∧ Aside (Sat E wr (HP.disk d (A.set f (mixL f gp l' k)) * (HP.disk c A * q)))) (fun x _ => N - (intOf x).toNat)
      case atStart => exact ⟨0, rfl, Nat.zero_le _, H7⟩
      case round =>
        clear H7
        obtain ⟨k, rfl, hk, HS⟩ := hrel
        by_cases hlt : k < N
        · have hlt2 : (k : Int) < (N : Int) := by omega
          have HMS : Aside (∃ wr, mendP (A.set f (mixL f gp l' k)) exS (k : Int) = ((wr, 0), A.set f (mixL f gp l' (k + 1)))) := ⟨mend_step (by rw [HGP.out]; exact HA.out.hold) (by rw [HGP.out]; exact HA.out.ok) HF.out HT.out HTO.out HNB.out (by rw [← HN.out]; exact hlt)⟩
          have HBY := Aside.mk (mix_bytes (k := k) (by rw [HGP.out]; exact HA.out.hold) (by rw [HGP.out]; exact HA.out.ok) HT.out (by rw [← HN.out]; omega))
          go_wp2_with fail
          refine (pair_mend E _ d (A.set f (mixL f gp l' k)) exS k _ HX3.out (fun h hh c hc => HBY.out h hh _ c hc) (fun w h => (HQ.out.1 _ w h.right).1) HS.out).mono ?_
          rintro e w9 ⟨rfl, h9⟩
          obtain ⟨wr, hms⟩ := HMS.out
          rw [hms] at h9 ⊢
          have H9 := Aside.mk h9
          clear h9 hms HMS HBY HS
          go_wp2
          go_roundw
          case rel => exact ⟨k + 1, by go_num, by omega, H9⟩
          case measure => simp [intOf]; omega
        · obtain rfl : k = N := by omega
          have H8 : Aside (Sat E wr (HP.disk d A * (HP.disk c A * q))) := ⟨by
            have h := HS.out
            rw [HN.out, mixL_all HT.out.len, HGP.out, set_same HA.out.hold HF.out HA.out.some_] at h
            exact h⟩
          clear HS
          have hsl : Sat E (wr.alloc (.cells #[.string ⟨#[120, 46, 97]⟩, .string ⟨#[120, 46, 98]⟩] 9)) (HP.pt wr.heap.size (.cells #[.string ⟨#[120, 46, 97]⟩, .string ⟨#[120, 46, 98]⟩] 9) * (HP.disk d A * (HP.disk c A * q))) := H8.out.alloc _
          have H10 := Aside.mk hsl
          obtain ⟨bl, hbl⟩ : ∃ bl, bl = wr.heap.size := ⟨_, rfl⟩
          rw [← hbl] at H10
          clear hsl H8
          go_wp2
          rw [← hbl]
          clear hbl
          have HAT : Aside (∀ t ∈ halvesL exS, (A.at t).length = k) := ⟨fun t ht => by rw [HA.out.hold.at_f ht, imgsF_length, ← HGP.out, HN.out]⟩
          have HRB : Aside A.RByt := ⟨HA.out.hold.rbyt HA.out.ok⟩
          have HDM : Aside (A.damaged = []) := ⟨hold_sound HA.out.hold⟩
          go_loopw [89] (fun v89 wr => ∃ h : Nat, v89 = .int .i64 h ∧ h ≤ 2 ∧ Aside (Sat E wr (HP.pt bl (.cells #[.string ⟨#[120, 46, 97]⟩, .string ⟨#[120, 46, 98]⟩] 9) * (HP.disk d A * (HP.disk c A * q))))) (fun x _ => 2 - (intOf x).toNat)
          case atStart => exact ⟨0, rfl, by omega, H10⟩
          case round =>
            clear H10
            obtain ⟨h, rfl, hh, HS⟩ := hrel
            by_cases hlt : h < 2
            · have hlt2 : (h : Int) < 2 := by omega
              obtain ⟨t, htm, hts, hcell⟩ : ∃ t : ByteArray, t ∈ halvesL exS ∧ t.size ≤ maxLen ∧ (#[Value.string ⟨#[120, 46, 97]⟩, Value.string ⟨#[120, 46, 98]⟩] : Array Value)[h]? = some (.string t) := by
                rcases Nat.lt_or_ge h 1 with h0 | h0
                · obtain rfl : h = 0 := by omega
                  exact ⟨⟨#[120, 46, 97]⟩, (show exS ++ dotA ∈ halvesL exS from List.mem_cons_self ..), (by show (3 : Nat) ≤ maxLen; unfold maxLen; omega), rfl⟩
                · obtain rfl : h = 1 := by omega
                  exact ⟨⟨#[120, 46, 98]⟩, (show exS ++ dotB ∈ halvesL exS from List.mem_cons_of_mem _ (List.mem_cons_self ..)), (by show (3 : Nat) ≤ maxLen; unfold maxLen; omega), rfl⟩
              have kc : wr.cell? ⟨bl, h, none⟩ = some (.string t) := by rw [HS.out.cell]; exact hcell
              have HTT := Aside.mk (And.intro (HAT.out t htm) hts)
              have HS2 := Aside.mk (HS.out.s3)
              clear hcell htm hts HS
              obtain ⟨wo, hwo⟩ : ∃ wo : World, wo = wr := ⟨_, rfl⟩
              subst hwo
              go_wp2_with fail
              refine (disk_extents E _ c A t _ HTT.out.2 HS2.out).mono ?_
              rintro e w12 ⟨rfl, rfl⟩
              rw [HTT.out.1]
              clear kc
              go_wp2
              go_loopw [96] (fun v96 wi => ∃ j : Nat, v96 = .int .i64 j ∧ j ≤ k ∧ Aside (Sat E wi (HP.disk c A * (HP.pt bl (.cells #[.string ⟨#[120, 46, 97]⟩, .string ⟨#[120, 46, 98]⟩] 9) * (HP.disk d A * q))))) (fun x _ => k - (intOf x).toNat)
              case atStart => exact ⟨0, rfl, Nat.zero_le _, HS2⟩
              case round =>
                clear HS2
                obtain ⟨j, rfl, hj, HI⟩ := hrel
                by_cases hjl : j < k
                · have hjl2 : (j : Int) < (k : Int) := by omega
                  obtain ⟨cl, hcl⟩ : ∃ cl, A.cel t (j : Int) = some cl := ⟨_, by rw [cel_at_nat]; exact List.getElem?_eq_getElem (by rw [HTT.out.1]; exact hjl)⟩
                  have HBY := Aside.mk (HRB.out t _ cl hcl)
                  have HCL := Aside.mk hcl
                  have HI2 := Aside.mk HI.out.s3
                  clear hcl HI
                  go_wp2_with fail
                  refine (disk_read_ok E _ d A t j _ HTT.out.2 HI2.out).mono ?_
                  intro e w13 h13
                  unfold readEnd at h13
                  rw [HCL.out] at h13
                  obtain ⟨v1, rfl, h13⟩ := h13
                  obtain ⟨A1, c1, rfl, -, -⟩ := h13.row_slice
                  have hl128 := h13.row_cases.1
                  rw [b8s_length] at hl128
                  have HL128 := Aside.mk hl128
                  have H13 : Aside (Sat E w13 (HP.disk c A * (HP.row 5 1 (.slice A1 128 c1) 128 (b8s cl.read) * (HP.pt bl (.cells #[.string ⟨#[120, 46, 97]⟩, .string ⟨#[120, 46, 98]⟩] 9) * (HP.disk d A * q))))) := ⟨h13.perm (by ac_rfl)⟩
                  clear h13 hl128 HI2
                  go_wp2_with fail
                  refine (disk_read_ok E _ c A t j _ HTT.out.2 H13.out).mono ?_
                  intro e w14 h14
                  unfold readEnd at h14
                  rw [HCL.out] at h14
                  obtain ⟨v2, rfl, h14⟩ := h14
                  obtain ⟨A2, c2, rfl, -, -⟩ := h14.row_slice
                  have H14 := Aside.mk h14
                  clear h14 H13
                  go_wp2_with fail
                  refine (bytesEq_ok A1 A2 cl.read cl.read 128 128 c1 c2 _ HL128.out HL128.out H14.out.s3.row_cells H14.out.row_cells HBY.out HBY.out).mono ?_
                  rintro e w15 ⟨rfl, rfl⟩
                  rw [decide_eq_true rfl]
                  have H15 : Aside (Sat E w15 (HP.disk c A * (HP.pt bl (.cells #[.string ⟨#[120, 46, 97]⟩, .string ⟨#[120, 46, 98]⟩] 9) * (HP.disk d A * q)))) := ⟨H14.out.right.s2.right⟩
                  clear H14 HBY HCL HL128
                  go_wp2
                  go_roundw
                  case rel => exact ⟨j + 1, by go_num, by omega, H15⟩
                  case measure => simp [intOf]; omega
                · have hjk : ¬ (j : Int) < (k : Int) := by omega
                  have H16 : Aside (Sat E wr (HP.pt bl (.cells #[.string ⟨#[120, 46, 97]⟩, .string ⟨#[120, 46, 98]⟩] 9) * (HP.disk d A * (HP.disk c A * q)))) := ⟨HI.out.perm (by ac_rfl)⟩
                  clear HI
                  go_wp2
                  go_roundw
                  case rel => exact ⟨h + 1, by go_num, by omega, H16⟩
                  case measure => simp [intOf]; omega
            · have hh2 : ¬ (h : Int) < 2 := by omega
              have H17 := Aside.mk HS.out.right
              clear HS
              go_wp2_with fail
              refine (disk_damaged E _ d A _ H17.out).mono ?_
              rintro e w16 ⟨v, rfl, h16⟩
              rw [HDM.out] at h16
              obtain ⟨Ad, cd, rfl, -, -⟩ := h16.row_slice
              have H16 := Aside.mk h16.right.right.right
              clear h16 H17
              go_wp2
              go_ret
              exact ⟨rfl, H16.out⟩
end Go.Proofs.YtanlgadijndmaaaDoor
