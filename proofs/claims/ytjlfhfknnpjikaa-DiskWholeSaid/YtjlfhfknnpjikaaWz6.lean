/- Texts of one claim, one behind the other: CmpA, DamC, DamS, WhP, LsP, LayKe, LaySd, LaySr, List, SortS, LaySp, Dam. -/
import Derived.Test.YtjlfhfknnpjikaaWz5
import Derived.Laws.Cover1
import Derived.Sort.Grow
import Derived.Sort.Statements
import Derived.Shelf.SlIter.Nil
import Derived.Test.YtjlfhfknnpjikaaProg
import Derived.Shelf.SortM.Plain
import Derived.Shelf.SortM.SortNone
import Derived.Shelf.SlSortCmp.NoneTotal
/- cmp.Compare of texts and of whole numbers, cmp.Or; the order of spots. -/
namespace Go.Proofs.Ytjlfhfknnpjikaa
open Go.RowKit HP
set_option linter.unusedSimpArgs false
set_option linter.unusedVariables false

def cmpS (a b : ByteArray) : Int := if ltN a b = true then -1 else if ltN b a = true then 1 else 0
def cmpI (a b : Int) : Int := if a < b then -1 else if b < a then 1 else 0
def orL (l : List Int) : Int := (l.find? (fun x => decide (x ≠ 0))).getD 0
set_option maxHeartbeats 1000000 in
theorem isNaN_str (a : ByteArray) (w : World) : Calls Try.prog 64 #[.string a] w fun e w' => e = .returned (.bool false) ∧ w' = w := by
  go_enter Try.func64, Try.ntmps64
  go_wp2
  go_ret
  exact ⟨rfl, rfl⟩
set_option maxHeartbeats 1000000 in
theorem isNaN_int (a : Int) (w : World) : Calls Try.prog 65 #[.int .i64 a] w fun e w' => e = .returned (.bool false) ∧ w' = w := by
  go_enter Try.func65, Try.ntmps65
  go_wp2
  go_ret
  exact ⟨rfl, rfl⟩
theorem gtr_less (a b : ByteArray) : (!(Op.bytesLess a.toList b.toList || a.toList == b.toList)) = Op.bytesLess b.toList a.toList := by
  by_cases h : a.toList = b.toList
  · rw [h, bytesLess_irrefl]; simp
  · cases h1 : Op.bytesLess a.toList b.toList with
    | true =>
      cases h2 : Op.bytesLess b.toList a.toList with
      | false => rfl
      | true =>
        have := bytesLess_trans h1 h2
        rw [bytesLess_irrefl] at this
        cases this
    | false => rw [bytesLess_total h1 h]; simp [h]
set_option maxHeartbeats 1000000 in
theorem compare_str (a b : ByteArray) (w : World) : Calls Try.prog 43 #[.string a, .string b] w fun e w' => e = .returned (.int .i64 (cmpS a b)) ∧ w' = w := by
  have hg := gtr_less a b
  go_enter Try.func43, Try.ntmps43
  go_wp2_with fail
  refine (isNaN_str a _).mono ?_
  rintro e w1 ⟨rfl, rfl⟩
  go_wp2_with fail
  refine (isNaN_str b _).mono ?_
  rintro e w1 ⟨rfl, rfl⟩
  go_wp2
  all_goals (go_ret; refine ⟨?_, rfl⟩; unfold cmpS ltN; rw [← hg]; simp_all)
set_option maxHeartbeats 1000000 in
theorem compare_int (a b : Int) (w : World) : Calls Try.prog 44 #[.int .i64 a, .int .i64 b] w fun e w' => e = .returned (.int .i64 (cmpI a b)) ∧ w' = w := by
  go_enter Try.func44, Try.ntmps44
  go_wp2_with fail
  refine (isNaN_int a _).mono ?_
  rintro e w1 ⟨rfl, rfl⟩
  go_wp2_with fail
  refine (isNaN_int b _).mono ?_
  rintro e w1 ⟨rfl, rfl⟩
  go_wp2
  all_goals (go_ret; refine ⟨?_, rfl⟩; unfold cmpI; first | (rw [if_pos (by omega)]; rfl) | (rw [if_neg (by omega), if_pos (by omega)]; rfl) | (rw [if_neg (by omega), if_neg (by omega)]; rfl))
set_option maxHeartbeats 1000000 in
theorem cmp_or2 (x y : Int) (A : Addr) (c : Nat) (w : World) (h : Cells w (some A) [.int .i64 x, .int .i64 y]) : Calls Try.prog 42 #[.slice (some A) 2 c] w fun e w' => e = .returned (.int .i64 (if x = 0 then y else x)) ∧ w' = w := by
  obtain ⟨g, o, rfl⟩ := slice_addr h rfl (k := 0) (by simp)
  have g0 : w.cell? ⟨g, o, none⟩ = some (.int .i64 x) := by
    obtain ⟨a, ha, hc⟩ := h.at_ 0 (by simp)
    cases ha
    exact hc
  have g1 : w.cell? ⟨g, o + 1, none⟩ = some (.int .i64 y) := by
    obtain ⟨a, ha, hc⟩ := h.at_ 1 (by simp)
    cases ha
    exact hc
  clear h
  go_enter Try.func42, Try.ntmps42
  go_wp2
  go_loopw [8] (fun v8 wr => ∃ k : Nat, k ≤ 2 ∧ v8 = .int .i64 k ∧ wr = w ∧ (0 < k → x = 0) ∧ (1 < k → y = 0)) (fun i _ => 2 - (intOf i).toNat)
  case atStart => exact ⟨0, by omega, rfl, rfl, by omega, by omega⟩
  case round =>
    obtain ⟨k, hk, rfl, rfl, hkx, hky⟩ := hrel
    have hc : k = 0 ∨ k = 1 ∨ k = 2 := by omega
    rcases hc with h0 | h0 | h0 <;> subst h0
    · clear hkx hky
      by_cases hx : x = 0
      · subst hx
        go_wp2
        go_roundw
        case rel => exact ⟨1, by omega, by simp, by simp, by simp, by simp⟩
        case measure => simp [intOf]
      · have hxb : (x == 0) = false := by rw [beq_eq_false_iff_ne]; exact hx
        go_wp2
        all_goals (go_ret; exact ⟨rfl, rfl⟩)
    · have hx := hkx (by omega)
      subst hx
      clear hkx hky
      by_cases hy : y = 0
      · subst hy
        go_wp2
        go_roundw
        case rel => exact ⟨2, by omega, by simp, by simp, by simp, by simp⟩
        case measure => simp [intOf]
      · have hyb : (y == 0) = false := by rw [beq_eq_false_iff_ne]; exact hy
        go_wp2
        all_goals (go_ret; exact ⟨rfl, rfl⟩)
    · have hx := hkx (by omega)
      have hy := hky (by omega)
      subst hx
      subst hy
      go_wp2
      go_ret
      exact ⟨rfl, rfl⟩
end Go.Proofs.Ytjlfhfknnpjikaa
/- The order that (*Disk).Damaged sorts spots by. -/
namespace Go.Proofs.Ytjlfhfknnpjikaa
open Go.RowKit Go.Sort HP
set_option linter.unusedSimpArgs false
set_option linter.unusedVariables false

def encSpot (x : ByteArray × Int) : List Value := [.string x.1, .int .i64 x.2]
def cmpSpot (x y : ByteArray × Int) : Int := if cmpS x.1 y.1 = 0 then cmpI x.2 y.2 else cmpS x.1 y.1
set_option maxHeartbeats 2000000 in
set_option maxRecDepth 100000 in
theorem damaged_cmp (s t : ByteArray) (i j : Int) (W : World) : Calls Try.prog 41 #[.agg #[.string s, .int .i64 i], .agg #[.string t, .int .i64 j]] W fun e w' => e = .returned (.int .i64 (if cmpS s t = 0 then cmpI i j else cmpS s t)) ∧ ∃ q os', w' = grow (W.drewN q) os' := by
  have a0 := fun k => Sat.cell (Sat.s2 ((((Sat.nothing (w := W)).alloc (.cells #[.string s, .int .i64 i] 37)).alloc (.cells #[.string t, .int .i64 j] 37)).drew)) k
  have a1 := fun k => Sat.cell ((((Sat.nothing (w := W)).alloc (.cells #[.string s, .int .i64 i] 37)).alloc (.cells #[.string t, .int .i64 j] 37)).drew) k
  rw [show (W.alloc (.cells #[.string s, .int .i64 i] 37)).heap.size = W.heap.size + 1 by simp] at a1
  have g0 := a0 0
  have g1 := a0 1
  have g2 := a1 0
  have g3 := a1 1
  simp only [List.getElem?_toArray, List.getElem?_cons_zero, List.getElem?_cons_succ] at g0 g1 g2 g3
  clear a0 a1
  have hcs := compare_str s t
  have hci := compare_int i j
  generalize cmpS s t = x at *
  generalize cmpI i j = y at *
  obtain ⟨z, hz⟩ : ∃ z, z = if x = 0 then y else x := ⟨_, rfl⟩
  rw [← hz]
  have HZ := Aside.mk hz
  clear hz
  go_enter Try.func41, Try.ntmps41
  go_wp2
  refine region_R [4, 9, 10, 11] [4, 9] (fun w => w = (((W.alloc (.cells #[.string s, .int .i64 i] 37)).alloc (.cells #[.string t, .int .i64 j] 37)).drew)) #[false, false, false, false, false, false, false, false, false, false, false, false, false] (by kernel_rfl) rfl rfl ?_
  refine wpR_rd 0 #[true, false, false, false, false, false, false, false, false, false, false, false, false] rfl onlyN_noPanic (by kernel_rfl) (fun K hK => ?_); (go_simp; try go_bits); refine hK _ ?_; clear hK K
  refine wpR_rd 1 #[true, true, false, false, false, false, false, false, false, false, false, false, false] rfl onlyN_noPanic (by kernel_rfl) (fun K hK => ?_); (go_simp; try go_bits); refine hK _ ?_; clear hK K
  refine wpR_rd 2 #[true, true, true, false, false, false, false, false, false, false, false, false, false] rfl onlyN_noPanic (by kernel_rfl) (fun K hK => ?_); (go_simp; try go_bits); refine hK _ ?_; clear hK K
  refine wpR_rd 3 #[true, true, true, true, false, false, false, false, false, false, false, false, false] rfl onlyN_noPanic (by kernel_rfl) (fun K hK => ?_); (go_simp; try go_bits); refine hK _ ?_; clear hK K
  refine wpR_pu 5 #[true, true, true, true, false, true, false, false, false, false, false, false, false] rfl onlyN_noPanic (by kernel_rfl) (fun K hK => ?_); (go_simp; try go_bits); refine hK _ ?_; clear hK K
  refine wpR_held (i := 6) (v := .int .i64 i) #[true, true, true, true, false, true, true, false, false, false, false, false, false] rfl onlyN_noPanic (by kernel_rfl) rfl (.inl ⟨rfl, fun w' hT => ?_⟩) ?_
  · subst hT; go_simp
  simp only [Act.put, List.setIfInBounds_toArray, List.set_cons_zero, List.set_cons_succ]
  refine wpR_pu 7 #[true, true, true, true, false, true, true, true, false, false, false, false, false] rfl onlyN_noPanic (by kernel_rfl) (fun K hK => ?_); (go_simp; try go_bits); refine hK _ ?_; clear hK K
  refine wpR_held (i := 8) (v := .int .i64 j) #[true, true, true, true, false, true, true, true, true, false, false, false, false] rfl onlyN_noPanic (by kernel_rfl) rfl (.inl ⟨rfl, fun w' hT => ?_⟩) ?_
  · subst hT; go_simp
  simp only [Act.put, List.setIfInBounds_toArray, List.set_cons_zero, List.set_cons_succ]
  refine wpR_keep #[true, true, true, true, true, true, true, true, true, false, false, false, false] (i := 4) rfl (by kernel_rfl) (fun K hK => ?_)
  go_simp; refine (hcs _).mono ?_; rintro e w5 ⟨rfl, hw5⟩; subst w5; refine hK _ _ rfl ?_; clear hK K
  refine wpR_keep #[true, true, true, true, true, true, true, true, true, true, false, false, false] (i := 9) rfl (by kernel_rfl) (fun K hK => ?_)
  go_simp; refine (hci _).mono ?_; rintro e w5 ⟨rfl, hw5⟩; subst w5; refine hK _ _ rfl ?_; clear hK K
  obtain ⟨W2, hW2⟩ : ∃ W2, W2 = (((W.alloc (.cells #[.string s, .int .i64 i] 37)).alloc (.cells #[.string t, .int .i64 j] 37)).drew) := ⟨_, rfl⟩
  rw [← hW2]
  have HW2 := Aside.mk hW2
  clear g0 g1 g2 g3 hW2
  refine wpR_eff #[true, true, true, true, true, true, true, true, true, true, true, false, false] (i := 10) rfl (by kernel_rfl) (fun K hK => ?_)
  go_simp; refine hK _ _ ?_; clear hK K
  have hc := Cells.fresh W2 [.int .i64 (x), .int .i64 (y)] 3 (0, 0)
  refine wpR_eff #[true, true, true, true, true, true, true, true, true, true, true, true, false] (i := 11) rfl (by kernel_rfl) (fun K hK => ?_)
  go_simp; refine (cmp_or2 (x) (y) _ _ _ hc).mono ?_; rintro e w5 ⟨rfl, hw5⟩; subst w5; rw [← HZ.out]; refine hK _ _ ?_; clear hK K
  refine wpR_rd 12 #[true, true, true, true, true, true, true, true, true, true, true, true, true] rfl onlyN_noPanic (by kernel_rfl) (fun K hK => ?_); (go_simp; try go_bits); refine hK _ ?_; clear hK K
  refine wpR_done (by kernel_rfl) ?_ _
  simp only [OnlyN]
  clear hc
  go_wp2
  go_ret
  refine ⟨rfl, 1, #[.cells #[.string s, .int .i64 i] 37, .cells #[.string t, .int .i64 j] 37, .cells #[.int .i64 x, .int .i64 y] 3], ?_⟩
  rw [HW2.out]
  simp only [alloc_eq_grow, drew_grow, grow_grow]
  rfl
end Go.Proofs.Ytjlfhfknnpjikaa
/- What a disk tells as damaged: plain; the order of spots. -/
namespace Go.Proofs.Ytjlfhfknnpjikaa
open Go.RowKit Go.Sort HP
set_option linter.unusedSimpArgs false
set_option linter.unusedVariables false

/-- 'less', as a sort by 'cmp' has it. -/
def ltC {α : Type} (cf : α → α → Int) (x y : α) : Bool := decide (cf x y < 0)
theorem ltN_asym {a b : ByteArray} (h : ltN a b = true) : ltN b a = false := by
  cases h2 : ltN b a with
  | false => rfl
  | true =>
    have := ltN_trans h h2
    rw [ltN_irrefl] at this
    cases this
theorem cmpS_zero {a b : ByteArray} : cmpS a b = 0 ↔ a = b := by
  unfold cmpS
  constructor
  · intro h
    split at h
    · omega
    · rename_i h1
      split at h
      · omega
      · rename_i h2
        by_cases e : a = b
        · exact e
        · exact absurd (ltN_total (by simpa using h1) e) h2
  · rintro rfl
    rw [ltN_irrefl]
    rfl
theorem ltSpot_iff (x y : ByteArray × Int) : ltC cmpSpot x y = true ↔ ltN x.1 y.1 = true ∨ x.1 = y.1 ∧ x.2 < y.2 := by
  unfold ltC cmpSpot
  rw [decide_eq_true_eq]
  by_cases e : x.1 = y.1
  · rw [if_pos (cmpS_zero.2 e), e, ltN_irrefl]
    unfold cmpI
    constructor
    · intro h
      refine .inr ⟨rfl, ?_⟩
      split at h
      · assumption
      · split at h <;> omega
    · rintro (h | ⟨-, h⟩)
      · cases h
      · rw [if_pos h]; omega
  · rw [if_neg (fun h => e (cmpS_zero.1 h))]
    unfold cmpS
    constructor
    · intro h
      left
      split at h
      · assumption
      · split at h <;> omega
    · rintro (h | ⟨h, -⟩)
      · rw [if_pos h]; omega
      · exact absurd h e
theorem ltSpot_irrefl (x : ByteArray × Int) : ltC cmpSpot x x = false := by
  rw [Bool.eq_false_iff]
  intro h
  rcases (ltSpot_iff x x).1 h with h | h
  · rw [ltN_irrefl] at h; cases h
  · omega
theorem ltSpot_trans {x y z : ByteArray × Int} (h1 : ltC cmpSpot x y = true) (h2 : ltC cmpSpot y z = true) : ltC cmpSpot x z = true := by
  rw [ltSpot_iff] at *
  rcases h1 with h1 | ⟨e1, h1⟩ <;> rcases h2 with h2 | ⟨e2, h2⟩
  · exact .inl (ltN_trans h1 h2)
  · exact .inl (by rw [← e2]; exact h1)
  · exact .inl (by rw [e1]; exact h2)
  · exact .inr ⟨e1.trans e2, by omega⟩
theorem ltSpot_total {x y : ByteArray × Int} (h1 : ltC cmpSpot x y = false) (h2 : ltC cmpSpot y x = false) : x = y := by
  have n1 : ¬ (ltN x.1 y.1 = true ∨ x.1 = y.1 ∧ x.2 < y.2) := fun h => by have := (ltSpot_iff x y).2 h; rw [h1] at this; cases this
  have n2 : ¬ (ltN y.1 x.1 = true ∨ y.1 = x.1 ∧ y.2 < x.2) := fun h => by have := (ltSpot_iff y x).2 h; rw [h2] at this; cases this
  have e : x.1 = y.1 := by
    by_cases e : x.1 = y.1
    · exact e
    · cases h : ltN x.1 y.1 with
      | true => exact (n1 (.inl h)).elim
      | false => exact (n2 (.inl (ltN_total h e))).elim
  have e2 : x.2 = y.2 := by
    rcases Int.lt_trichotomy x.2 y.2 with h | h | h
    · exact (n1 (.inr ⟨e, h⟩)).elim
    · exact h
    · exact (n2 (.inr ⟨e.symm, h⟩)).elim
  exact Prod.ext e e2
theorem ltSpot_ntrans {x y z : ByteArray × Int} (h1 : ltC cmpSpot x y = false) (h2 : ltC cmpSpot y z = false) : ltC cmpSpot x z = false := by
  cases h : ltC cmpSpot x z with
  | false => rfl
  | true =>
    cases h3 : ltC cmpSpot y x with
    | true =>
      have := ltSpot_trans h3 h
      rw [h2] at this; cases this
    | false =>
      obtain rfl := ltSpot_total h1 h3
      rw [h2] at h; cases h
theorem swo_spot : SWO (ltC cmpSpot) := ⟨ltSpot_irrefl, fun _ _ _ h1 h2 => ltSpot_trans h1 h2, fun _ _ _ h1 h2 => ltSpot_ntrans h1 h2⟩

def Cel.bad (c : Cel) : Bool := decide (c.durable ≠ c.synced) && decide (c.durable ≠ c.written)
def spotsN (s : ByteArray) (l : List Cel) : Nat → List (ByteArray × Int)
  | 0 => []
  | k + 1 => spotsN s l k ++ if (l[k]?).any Cel.bad = true then [(s, (k : Int))] else []
def spotsF (x : ByteArray × List Cel) : List (ByteArray × Int) := spotsN x.1 x.2 x.2.length
def Dk.damaged (A : Dk) : List (ByteArray × Int) := A.files.flatMap spotsF
theorem spotsN_mem {s : ByteArray} {l : List Cel} : ∀ {k : Nat} {x : ByteArray × Int}, x ∈ spotsN s l k → x.1 = s ∧ ∃ i : Nat, i < k ∧ x.2 = i ∧ (l[i]?).any Cel.bad = true
  | 0, x, h => by cases h
  | k + 1, x, h => by
    rcases List.mem_append.1 h with h | h
    · obtain ⟨h1, i, h2, h3⟩ := spotsN_mem h
      exact ⟨h1, i, by omega, h3⟩
    · split at h
      · rename_i hb
        obtain rfl := List.mem_singleton.1 h
        exact ⟨rfl, k, by omega, rfl, hb⟩
      · cases h
theorem spotsN_length (s : ByteArray) (l : List Cel) : ∀ k, (spotsN s l k).length ≤ k
  | 0 => Nat.le_refl _
  | k + 1 => by
    have := spotsN_length s l k
    rw [spotsN, List.length_append]
    split
    · simp; omega
    · simp; omega
theorem spotsN_sorted (s : ByteArray) (l : List Cel) : ∀ k, (spotsN s l k).Pairwise fun x y => ltC cmpSpot x y = true
  | 0 => List.Pairwise.nil
  | k + 1 => by
    rw [spotsN, List.pairwise_append]
    refine ⟨spotsN_sorted s l k, by split <;> simp, fun x hx y hy => ?_⟩
    split at hy
    · obtain rfl := List.mem_singleton.1 hy
      obtain ⟨h1, i, h2, h3, -⟩ := spotsN_mem hx
      exact (ltSpot_iff _ _).2 (.inr ⟨h1, by show x.2 < (k : Int); omega⟩)
    · cases hy
theorem damaged_sorted {A : Dk} (hs : Sorted A.files) : A.damaged.Pairwise fun x y => ltC cmpSpot x y = true := by
  unfold Dk.damaged
  rw [List.pairwise_flatMap]
  refine ⟨fun x _ => spotsN_sorted _ _ _, hs.imp fun {x y} h a ha b hb => ?_⟩
  obtain ⟨h1, -⟩ := spotsN_mem ha
  obtain ⟨h2, -⟩ := spotsN_mem hb
  exact (ltSpot_iff _ _).2 (.inl (by rw [h1, h2]; exact h))
theorem sorted_damaged {A : Dk} (hs : Sorted A.files) {l : List (ByteArray × Int)} (h : l.Perm A.damaged) : (l.mergeSort fun x y => !(ltC cmpSpot) y x) = A.damaged := by
  refine List.Perm.eq_of_pairwise (le := fun x y => (!(ltC cmpSpot) y x) = true) (fun a b _ _ h1 h2 => ?_) ?_ ?_ ((List.mergeSort_perm _ _).trans h)
  · simp only [Bool.not_eq_true'] at h1 h2
    exact ltSpot_total h2 h1
  · refine List.pairwise_mergeSort (fun a b c h1 h2 => ?_) (fun a b => ?_) l
    · simp only [Bool.not_eq_true'] at h1 h2 ⊢
      exact ltSpot_ntrans h2 h1
    · cases h1 : ltC cmpSpot b a with
      | false => rfl
      | true =>
        cases h2 : ltC cmpSpot a b with
        | false => rfl
        | true =>
          have := ltSpot_trans h1 h2
          rw [ltSpot_irrefl] at this; cases this
  · refine (damaged_sorted hs).imp fun {x y} h => ?_
    cases h2 : ltC cmpSpot y x with
    | false => rfl
    | true =>
      have := ltSpot_trans h h2
      rw [ltSpot_irrefl] at this; cases this

end Go.Proofs.Ytjlfhfknnpjikaa
/- DiskWhole, plain: what is written, synced, removed and crashed with whole extents is not damaged. -/
namespace Go.Proofs.Ytjlfhfknnpjikaa
open Go.RowKit HP
set_option linter.unusedSimpArgs false
set_option linter.unusedVariables false

theorem putF_mem {α : Type} {s : ByteArray} {v : α} : ∀ {l : List (ByteArray × α)} {x : ByteArray × α}, x ∈ putF l s v → x = (s, v) ∨ x ∈ l
  | [], x, h => .inl (by simpa [putF] using h)
  | (t, u) :: l, x, h => by
    unfold putF at h
    split at h
    · rcases List.mem_cons.1 h with h | h
      · exact .inl h
      · exact .inr (List.mem_cons_of_mem _ h)
    · split at h
      · rcases List.mem_cons.1 h with h | h
        · exact .inl h
        · exact .inr h
      · rcases List.mem_cons.1 h with h | h
        · exact .inr (by rw [h]; exact List.mem_cons_self ..)
        · exact (putF_mem h).imp id (List.mem_cons_of_mem _)
/-- No extent's durable bytes are other ones than those that were synced. -/
def Dk.Whole (A : Dk) : Prop := ∀ x ∈ A.files, ∀ c ∈ x.2, c.durable = c.synced
theorem Dk.Whole.at {A : Dk} (h : A.Whole) (s : ByteArray) : ∀ c ∈ A.at s, c.durable = c.synced := fun c hc => by
  unfold Dk.at at hc
  cases hl : lk A.files s with
  | none => rw [hl] at hc; cases hc
  | some l => rw [hl] at hc; exact h _ (lk_mem hl) c hc
theorem Dk.Whole.set {A : Dk} (h : A.Whole) {s : ByteArray} {l : List Cel} (hl : ∀ c ∈ l, c.durable = c.synced) : (A.set s l).Whole := fun x hx c hc => by
  rcases putF_mem hx with rfl | hx
  · exact hl c hc
  · exact h x hx c hc
theorem Dk.Whole.burnt {A : Dk} (h : A.Whole) : A.burnt.Whole := h
theorem Dk.Whole.write {A : Dk} (h : A.Whole) (s : ByteArray) (i : Int) (b : List Int) : (A.write s i b).2.Whole := by
  unfold Dk.write
  split
  · exact h
  · split
    · exact h.burnt
    · split
      · exact h.burnt
      · split
        · refine h.burnt.set fun c hc => ?_
          rcases List.mem_append.1 hc with hc | hc
          · exact h.at s c hc
          · rw [List.mem_singleton.1 hc]; rfl
        · refine h.burnt.set fun c hc => ?_
          obtain ⟨j, hj⟩ := List.getElem?_of_mem hc
          rw [List.getElem?_modify] at hj
          cases hg : (A.at s)[j]? with
          | none => rw [hg] at hj; cases hj
          | some c0 =>
            rw [hg] at hj
            have := h.at s c0 (List.mem_of_getElem? hg)
            simp only [Option.map_eq_map, Option.map_some, Option.some.injEq] at hj
            split at hj <;> (subst hj; exact this)
theorem Dk.Whole.sync {A : Dk} (h : A.Whole) (s : ByteArray) : (A.sync s).2.Whole := by
  unfold Dk.sync
  cases hl : lk A.files s with
  | none => exact h
  | some l =>
    dsimp only
    split
    · exact h.burnt
    · refine h.burnt.set fun c hc => ?_
      obtain ⟨c0, hc0, rfl⟩ := List.mem_map.1 hc
      unfold Cel.syncd
      split
      · rfl
      · exact h _ (lk_mem hl) c0 hc0
theorem Dk.Whole.remove {A : Dk} (h : A.Whole) (s : ByteArray) : (A.remove s).2.Whole := by
  unfold Dk.remove
  cases hl : lk A.files s with
  | none => exact h
  | some l =>
    dsimp only
    split
    · exact h.burnt
    · exact fun x hx c hc => h x (List.mem_filter.1 hx).1 c hc
theorem spotsN_nil {s : ByteArray} {l : List Cel} (h : ∀ c ∈ l, c.bad = false) : ∀ k, spotsN s l k = []
  | 0 => rfl
  | k + 1 => by
    rw [spotsN, spotsN_nil h k]
    cases hk : l[k]? with
    | none => rfl
    | some c => simp [h c (List.mem_of_getElem? hk)]
theorem damaged_nil {A : Dk} (h : ∀ x ∈ A.files, ∀ c ∈ x.2, c.bad = false) : A.damaged = [] := by
  unfold Dk.damaged
  rw [List.flatMap_eq_nil_iff]
  exact fun x hx => spotsN_nil (h x hx) _
theorem Dk.Whole.damaged {A : Dk} (h : A.Whole) : A.damaged = [] := damaged_nil fun x hx c hc => by
  simp [Cel.bad, h x hx c hc]
theorem keepOf_whole {K : List Kep} (hK : ∀ k ∈ K, k.bytes = 128) (s : ByteArray) (i : Int) : keepOf K s i = 0 ∨ keepOf K s i = 128 := by
  unfold keepOf
  cases hf : K.find? (fun k => decide (k.name = s) && decide (k.index = i)) with
  | none => exact .inl rfl
  | some k => exact .inr (by dsimp only; rw [hK k (List.mem_of_find?_eq_some hf)]; rfl)
theorem Dk.Whole.crash {A : Dk} (h : A.Whole) (hf : A.Fine) {K : List Kep} (hK : ∀ k ∈ K, k.bytes = 128) : (A.crash K).damaged = [] := damaged_nil fun x hx c hc => by
  obtain ⟨y, hy, rfl⟩ := List.mem_map.1 hx
  unfold crashL at hc
  obtain ⟨j, hj⟩ := List.getElem?_of_mem hc
  rw [List.getElem?_mapIdx] at hj
  cases hg : y.2[j]? with
  | none => rw [hg] at hj; cases hj
  | some c0 =>
    rw [hg] at hj
    simp only [Option.map_some, Option.some.injEq] at hj
    subst hj
    have hm := List.mem_of_getElem? hg
    have e := h y hy c0 hm
    obtain ⟨-, h2, h3, h4⟩ := hf.cels y hy c0 hm
    unfold Cel.crashd
    split
    · rcases keepOf_whole hK y.1 j with hk | hk
      · rw [hk]; simp [Cel.bad, e]
      · rw [hk]
        have e1 : c0.written.take (128 : Int).toNat ++ c0.durable.drop (128 : Int).toNat = c0.written := by
          rw [show (128 : Int).toNat = 128 from rfl, List.take_of_length_le (by omega), List.drop_eq_nil_of_le (by omega), List.append_nil]
        rw [e1]; simp [Cel.bad]
    · simp [Cel.bad, e]
end Go.Proofs.Ytjlfhfknnpjikaa
/- A disk's names: the map as the library's contracts of iterators want it; the names, sorted. -/
namespace Go.Proofs.Ytjlfhfknnpjikaa
open Go.RowKit Go.Maps Go.Sort Go.Shelf HP
set_option linter.unusedSimpArgs false
set_option linter.unusedVariables false

/-- A new block of a world that has grown. -/
theorem Sat.fresh {E : Env} {w w' : World} {p : HP} {g : Nat} {o : Obj} (h : Sat E w p) (hb : Below w.heap.size w w') (hg : w.heap.size ≤ g) (ho : w'.heap[g]? = some o) : Sat E w' (HP.pt g o * p) := by
  obtain ⟨e, k, hk, hp⟩ := h.below hb
  obtain ⟨e1, k, hk1, hp⟩ := h
  have hn : ∀ b, w.heap.size ≤ b → k b = none := fun b hb => by
    cases hks : k b with
    | none => rfl
    | some u => have := (Array.getElem?_eq_some_iff.1 (hk1 _ _ hks)).1; omega
  refine ⟨e, fun b => if b = g then some o else k b, fun b u hbu => ?_, fun b => if b = g then some o else none, k, fun b => ?_, fun b => ?_, fun b => rfl, hp⟩
  · by_cases hbs : b = g
    · subst hbs; simp at hbu; subst hbu; exact ho
    · simp [hbs] at hbu
      have h1 := hk1 b u hbu
      rw [hb.block b (Array.getElem?_eq_some_iff.1 h1).1]; exact h1
  · by_cases hbs : b = g
    · subst hbs; exact .inr (hn _ hg)
    · simp [hbs]
  · by_cases hbs : b = g
    · subst hbs; simp
    · simp [hbs]
/-- What a contract of the library hands back: a row of one's own. -/
theorem Sat.fresh_row {E : Env} {w w' : World} {p : HP} {e : TypeId} {size n : Nat} {v : Value} {xs : List Value} {base : Nat} (h : Sat E w p) (hb : Below w.heap.size w w') (hbase : w.heap.size ≤ base) (hr : w'.ownsRow base e size v n xs) : Sat E w' (HP.row e size v n xs * p) := by
  obtain ⟨hl, h1 | ⟨g, cap, cur, rfl, hg, hh, hnc, hcm, hcs, ht⟩⟩ := hr
  · obtain ⟨rfl, rfl⟩ := h1
    rw [Nat.zero_mul] at hl
    obtain rfl := List.eq_nil_of_length_eq_zero hl
    exact (h.below hb).row_nil e size none
  · have h2 := (h.fresh hb (Nat.le_trans hbase hg) hh).row_mk (off := 0) (size := size) (n := n) (cs := xs) hnc hcm (by rw [hcs]; simp) (by simpa using ht)
    rw [Nat.zero_mul] at h2
    exact h2

abbrev RN : Value → Option (DataW Unit × List MemPlace) := fun _ => some (.nil, [])
theorem names_le {A : Dk} (h : A.Fine) {s : ByteArray} {l : List Cel} (hm : (s, l) ∈ A.files) : s.size ≤ maxLen := by
  have := (h.named _ hm).1
  simp [namedB] at this
  unfold maxLen
  omega
theorem len_sizeF : ∀ {l : List (ByteArray × List Cel)}, (∀ x ∈ l, x.2 ≠ []) → (l.length : Int) ≤ sizeF l
  | [], _ => by simp [sizeF]
  | x :: l, h => by
    have := len_sizeF (l := l) fun y hy => h y (List.mem_cons_of_mem _ hy)
    have h1 : 1 ≤ x.2.length := by
      have := h x (List.mem_cons_self ..)
      cases hx : x.2 with
      | nil => exact absurd hx this
      | cons => simp
    unfold sizeF at this ⊢
    rw [List.map_cons, List.sum_cons, List.length_cons]
    push_cast at this ⊢
    omega
theorem files_le {A : Dk} (h : A.Fine) : A.files.length ≤ 100000 := by
  have := len_sizeF (l := A.files) fun x hx => (h.named x hx).2
  have := h.fits
  have := h.room
  omega
set_option maxRecDepth 100000 in
theorem own_map {E : Env} {w : World} {q : HP} {d m : Nat} {A : Dk} {room fuse : Int} {es : Array MapEntry} {clock : Nat} {fs : List Fil} (hv : View A es clock fs) (h : Sat E w (HP.dk d room fuse m es clock fs * q)) :
    ∃ D : DataW Unit, w.ownsMap Try.prog 9 RN m es.size D ∧ (strKeys D).Perm (A.files.map fun x => x.1.data.toList) ∧ Maps.size D = A.files.length := by
  have hb : w.heap[m]? = some (.map es clock) := by
    unfold HP.dk at h
    exact Sat.get (h.perm (by ac_rfl : _ = HP.pt m (.map es clock) * (HP.dsk d room fuse m * HP.all (fs.map HP.fil) * q)))
  obtain ⟨hk, hes, hn, hbn, hbd⟩ := hv.map
  have hpf := files_perm hv
  have hlen : es.size = fs.length := by
    have := congrArg List.length hes
    simpa using this
  have hlf : fs.length = A.files.length := by simpa using hpf.length_eq
  have hky : ∀ x ∈ es.toList, ∃ f ∈ fs, x.key = .string f.name := fun x hx => by
    have : (x.key, x.val) ∈ es.toList.map fun x => (x.key, x.val) := List.mem_map.2 ⟨x, hx, rfl⟩
    rw [hes] at this
    obtain ⟨f, hf, he⟩ := List.mem_map.1 this
    exact ⟨f, hf, (Prod.mk.inj he).1.symm⟩
  have hnm : ∀ f ∈ fs, f.name.size ≤ maxLen := fun f hf => by
    have : (f.name, f.cs) ∈ A.files := hpf.mem_iff.1 (List.mem_map.2 ⟨f, hf, rfl⟩)
    exact names_le hv.fine this
  have hkeys : es.toList.map (·.key) = fs.map fun f => Value.string f.name := by
    have := congrArg (List.map Prod.fst) hes
    rw [List.map_map, List.map_map] at this
    exact this
  have hrd : ∀ x ∈ es.toList, ∀ f ∈ fs, x.key = .string f.name → WideElems.rd Try.prog 9 RN x = some (.string f.name.data.toList, .nil) := fun x hx f hf he => by
    unfold WideElems.rd
    rw [he, WideMaps.keyOf_string_mk Try.underlying9 (hnm f hf)]
    rfl
  have hF : WideElems.Fit Try.prog 9 RN es clock := by
    refine ⟨by rw [hlen, hlf]; have := files_le hv.fine; unfold maxLen; omega, (MapKept.stamped_iff es clock).2 ⟨hbn, hbd, ?_⟩, fun x hx => ?_⟩
    · have h1 : (es.toList.map (·.key)).Nodup := by
        rw [hkeys]
        unfold List.Nodup at hn ⊢
        rw [List.pairwise_map] at hn ⊢
        exact hn.imp fun {a b} h1 h2 => h1 (Value.string.inj h2)
      exact List.pairwise_map.1 h1
    · obtain ⟨f, hf, he⟩ := hky x hx
      exact ⟨_, hrd x hx f hf he⟩
  refine ⟨_, ⟨es, clock, hb, hF, Nat.le_refl _, rfl⟩, ?_, ?_⟩
  · have hp := WideShapes.sorted_perm (es.toList.map (WideElems.rg Try.prog 9 RN))
    have h1 : (es.toList.map (WideElems.rg Try.prog 9 RN)).map (fun p => Go.strOf p.1) = fs.map fun f => f.name.data.toList := by
      rw [List.map_map]
      have : ∀ (l : List MapEntry), (∀ x ∈ l, x ∈ es.toList) → ∀ (gs : List Fil), (∀ f ∈ gs, f ∈ fs) → l.map (·.key) = gs.map (fun f => Value.string f.name) → l.map ((fun p => Go.strOf p.1) ∘ WideElems.rg Try.prog 9 RN) = gs.map fun f => f.name.data.toList := by
        intro l
        induction l with
        | nil => intro _ gs _ h; cases gs with
          | nil => rfl
          | cons => simp at h
        | cons x l ih =>
          intro hl gs hg h
          cases gs with
          | nil => simp at h
          | cons f gs =>
            simp only [List.map_cons, List.cons.injEq] at h
            rw [List.map_cons, List.map_cons, ih (fun y hy => hl y (List.mem_cons_of_mem _ hy)) gs (fun y hy => hg y (List.mem_cons_of_mem _ hy)) h.2]
            congr 1
            have := hrd x (hl x (List.mem_cons_self ..)) f (hg f (List.mem_cons_self ..)) h.1
            show Go.strOf (WideElems.rg Try.prog 9 RN x).1 = _
            rw [WideElems.rg_of this]
            rfl
      exact this _ (fun _ h => h) fs (fun _ h => h) hkeys
    show ((List.foldr DataW.insert [] (es.toList.map (WideElems.rg Try.prog 9 RN))).map fun p => Go.strOf p.1).Perm _
    have hp2 := hp.map (fun p : Lit × DataW Unit => Go.strOf p.1)
    rw [h1] at hp2
    refine List.Perm.trans hp2 ?_
    have := hpf.map fun x => x.1.data.toList
    rw [List.map_map] at this
    exact this
  · rw [Maps.size_eq, (WideShapes.sorted_perm _).length_eq, List.length_map, Array.length_toList, hlen, hlf]
theorem names_sorted {A : Dk} (h : A.Fine) {ss : List (List UInt8)} (hp : ss.Perm (A.files.map fun x => x.1.data.toList)) : ss.mergeSort (fun x y => decide (x ≤ y)) = A.files.map fun x => x.1.data.toList := by
  have e := mergeSort_of_perm hp
  show ss.mergeSort leB = _
  rw [e]
  refine List.mergeSort_of_pairwise ?_
  rw [List.pairwise_map]
  refine h.sorted.imp fun {x y} hxy => ?_
  unfold ltN at hxy
  have key : ∀ (x y : List UInt8), Op.bytesLess x y = decide (x < y) := by
    intro x
    induction x with
    | nil => intro y; cases y <;> simp [Op.bytesLess]
    | cons a x ih =>
      intro y
      cases y with
      | nil => simp [Op.bytesLess]
      | cons b y =>
        simp only [Op.bytesLess, ih y, List.cons_lt_cons_iff]
        by_cases h : a < b <;> by_cases h' : a = b <;> simp [h, h']
  rw [key, decide_eq_true_eq, ByteArray.toList_eq, ByteArray.toList_eq] at hxy
  exact decide_eq_true (List.le_of_lt hxy)
end Go.Proofs.Ytjlfhfknnpjikaa
/- A library function laid at this program (printed by the kit's own tool). -/
namespace Go.Proofs.Ytjlfhfknnpjikaa
open Go.Shelf
set_option linter.unusedSimpArgs false
set_option linter.unusedVariables false

def layKe_ren : Go.Shelf.Ren := ⟨fun | 7 => 57 | 10 => 70 | n => n, fun | 23 => 67 | 26 => 9 | 3 => 74 | 28 => 101 | 0 => 0 | 27 => 100 | 33 => 75 | 4 => 4 | n => n, fun | n => n⟩
theorem layKe : Go.Proofs.SlLaysZ.n7 Try.prog layKe_ren := {
  mixed := by kernel_rfl
  f7 := ⟨Try.f57.name, by decide, Try.func57.trans (congrArg some (by kernel_rfl))⟩
  f10 := ⟨Try.f70.name, by decide, Try.func70.trans (congrArg some (by kernel_rfl))⟩
  t0 := Try.underlying0
  a0 := Try.isAgg0
  z0 := Try.sizeOf0
  v0 := Try.zeroValue0
  t4 := Try.underlying4
  a4 := Try.isAgg4
  z4 := Try.sizeOf4
  v4 := Try.zeroValue4
  t23 := Try.underlying67
  a23 := Try.isAgg67
  z23 := Try.sizeOf67
  v23 := Try.zeroValue67
  t26 := Try.underlying9
  a26 := Try.isAgg9
  z26 := Try.sizeOf9
  v26 := Try.zeroValue9
  t27 := Try.underlying100
  a27 := Try.isAgg100
  z27 := Try.sizeOf100
  v27 := Try.zeroValue100
  t28 := Try.underlying101
  a28 := Try.isAgg101
  z28 := Try.sizeOf101
  v28 := Try.zeroValue101
  t33 := Try.underlying75
  a33 := Try.isAgg75
  z33 := Try.sizeOf75
  v33 := Try.zeroValue75 }
end Go.Proofs.Ytjlfhfknnpjikaa
/- A library function laid at this program (printed by the kit's own tool). -/
namespace Go.Proofs.Ytjlfhfknnpjikaa
open Go.Shelf
set_option linter.unusedSimpArgs false
set_option linter.unusedVariables false

def laySd_ren : Go.Shelf.Ren := ⟨fun | 6 => 56 | 8 => 68 | 9 => 69 | 11 => 85 | 13 => 63 | 12 => 86 | 23 => 83 | 24 => 84 | 14 => 94 | 15 => 95 | 16 => 96 | 17 => 97 | 18 => 98 | 19 => 99 | 20 => 100 | 21 => 101 | 22 => 102 | 25 => 104 | 26 => 90 | 27 => 91 | 28 => 105 | 29 => 106 | 30 => 64 | 31 => 107 | n => n, fun | 26 => 9 | 28 => 101 | 24 => 56 | 0 => 0 | 3 => 3 | 37 => 27 | 48 => 131 | 50 => 133 | 4 => 4 | 40 => 124 | 39 => 123 | 45 => 128 | 5 => 5 | 9 => 9 | 51 => 140 | 55 => 144 | 57 => 152 | 58 => 153 | 33 => 75 | n => n, fun | n => n⟩
theorem laySd : Go.Proofs.SlLaysZ.n6 Try.prog laySd_ren := {
  mixed := by kernel_rfl
  f6 := ⟨Try.f56.name, by decide, Try.func56.trans (congrArg some (by kernel_rfl))⟩
  f8 := ⟨Try.f68.name, by decide, Try.func68.trans (congrArg some (by kernel_rfl))⟩
  f11 := ⟨Try.f85.name, by decide, Try.func85.trans (congrArg some (by kernel_rfl))⟩
  t0 := Try.underlying0
  a0 := Try.isAgg0
  z0 := Try.sizeOf0
  v0 := Try.zeroValue0
  t24 := Try.underlying56
  a24 := Try.isAgg56
  z24 := Try.sizeOf56
  v24 := Try.zeroValue56
  t26 := Try.underlying9
  a26 := Try.isAgg9
  z26 := Try.sizeOf9
  v26 := Try.zeroValue9
  t28 := Try.underlying101
  a28 := Try.isAgg101
  z28 := Try.sizeOf101
  v28 := Try.zeroValue101
  i26 := by kernel_rfl }
end Go.Proofs.Ytjlfhfknnpjikaa
/- A library function laid at this program (printed by the kit's own tool). -/
namespace Go.Proofs.Ytjlfhfknnpjikaa
open Go.Shelf
set_option linter.unusedSimpArgs false
set_option linter.unusedVariables false

def laySr_ren : Go.Shelf.Ren := ⟨fun | 6 => 69 | 8 => 63 | 9 => 86 | 19 => 83 | 20 => 84 | 21 => 94 | 22 => 95 | 23 => 96 | 24 => 97 | 25 => 98 | 26 => 99 | 27 => 100 | 28 => 101 | 29 => 102 | 36 => 104 | 31 => 90 | 32 => 91 | 37 => 105 | 38 => 106 | 39 => 64 | 41 => 107 | n => n, fun | 27 => 56 | 29 => 9 | 3 => 3 | 32 => 27 | 26 => 56 | 0 => 0 | 44 => 131 | 46 => 133 | 4 => 4 | 36 => 124 | 35 => 123 | 41 => 128 | 5 => 5 | 9 => 9 | 53 => 140 | 57 => 144 | 63 => 152 | 64 => 153 | n => n, fun | n => n⟩
theorem laySr : Go.Proofs.SlLaysM.n6 Try.prog laySr_ren := {
  mixed := by kernel_rfl
  f6 := ⟨Try.f69.name, by decide, Try.func69.trans (congrArg some (by kernel_rfl))⟩
  f8 := Try.func63.trans (congrArg some (by kernel_rfl))
  f9 := ⟨Try.f86.name, by decide, Try.func86.trans (congrArg some (by kernel_rfl))⟩
  f19 := Try.func83.trans (congrArg some (by kernel_rfl))
  f20 := Try.func84.trans (congrArg some (by kernel_rfl))
  f21 := ⟨Try.f94.name, by decide, Try.func94.trans (congrArg some (by kernel_rfl))⟩
  f22 := ⟨Try.f95.name, by decide, Try.func95.trans (congrArg some (by kernel_rfl))⟩
  f23 := ⟨Try.f96.name, by decide, Try.func96.trans (congrArg some (by kernel_rfl))⟩
  f24 := ⟨Try.f97.name, by decide, Try.func97.trans (congrArg some (by kernel_rfl))⟩
  f25 := ⟨Try.f98.name, by decide, Try.func98.trans (congrArg some (by kernel_rfl))⟩
  f26 := ⟨Try.f99.name, by decide, Try.func99.trans (congrArg some (by kernel_rfl))⟩
  f27 := ⟨Try.f100.name, by decide, Try.func100.trans (congrArg some (by kernel_rfl))⟩
  f28 := ⟨Try.f101.name, by decide, Try.func101.trans (congrArg some (by kernel_rfl))⟩
  f29 := ⟨Try.f102.name, by decide, Try.func102.trans (congrArg some (by kernel_rfl))⟩
  f31 := Try.func90.trans (congrArg some (by kernel_rfl))
  f32 := Try.func91.trans (congrArg some (by kernel_rfl))
  f36 := ⟨Try.f104.name, by decide, Try.func104.trans (congrArg some (by kernel_rfl))⟩
  f37 := ⟨Try.f105.name, by decide, Try.func105.trans (congrArg some (by kernel_rfl))⟩
  f38 := ⟨Try.f106.name, by decide, Try.func106.trans (congrArg some (by kernel_rfl))⟩
  f39 := ⟨Try.f64.name, by decide, Try.func64.trans (congrArg some (by kernel_rfl))⟩
  f41 := ⟨Try.f107.name, by decide, Try.func107.trans (congrArg some (by kernel_rfl))⟩
  t0 := Try.underlying0
  a0 := Try.isAgg0
  z0 := Try.sizeOf0
  v0 := Try.zeroValue0
  t3 := Try.underlying3
  a3 := Try.isAgg3
  z3 := Try.sizeOf3
  v3 := Try.zeroValue3
  t4 := Try.underlying4
  a4 := Try.isAgg4
  z4 := Try.sizeOf4
  v4 := Try.zeroValue4
  t5 := Try.underlying5
  a5 := Try.isAgg5
  z5 := Try.sizeOf5
  v5 := Try.zeroValue5
  t9 := Try.underlying9
  a9 := Try.isAgg9
  z9 := Try.sizeOf9
  v9 := Try.zeroValue9
  t26 := Try.underlying56
  a26 := Try.isAgg56
  z26 := Try.sizeOf56
  v26 := Try.zeroValue56
  t27 := Try.underlying56
  a27 := Try.isAgg56
  z27 := Try.sizeOf56
  v27 := Try.zeroValue56
  t29 := Try.underlying9
  a29 := Try.isAgg9
  z29 := Try.sizeOf9
  v29 := Try.zeroValue9
  t32 := Try.underlying27
  a32 := Try.isAgg27
  z32 := Try.sizeOf27
  v32 := Try.zeroValue27
  t35 := Try.underlying123
  a35 := Try.isAgg123
  z35 := Try.sizeOf123
  v35 := Try.zeroValue123
  t36 := Try.underlying124
  a36 := Try.isAgg124
  z36 := Try.sizeOf124
  v36 := Try.zeroValue124
  t41 := Try.underlying128
  a41 := Try.isAgg128
  z41 := Try.sizeOf128
  v41 := Try.zeroValue128
  t44 := Try.underlying131
  a44 := Try.isAgg131
  z44 := Try.sizeOf131
  v44 := Try.zeroValue131
  t46 := Try.underlying133
  a46 := Try.isAgg133
  z46 := Try.sizeOf133
  v46 := Try.zeroValue133
  t53 := Try.underlying140
  a53 := Try.isAgg140
  z53 := Try.sizeOf140
  v53 := Try.zeroValue140
  t57 := Try.underlying144
  a57 := Try.isAgg144
  z57 := Try.sizeOf144
  v57 := Try.zeroValue144
  t63 := Try.underlying152
  a63 := Try.isAgg152
  z63 := Try.sizeOf152
  v63 := Try.zeroValue152
  t64 := Try.underlying153
  a64 := Try.isAgg153
  z64 := Try.sizeOf153
  v64 := Try.zeroValue153 }
end Go.Proofs.Ytjlfhfknnpjikaa
/- (*disk.Disk).List: the names, sorted. -/
namespace Go.Proofs.Ytjlfhfknnpjikaa
open Go.RowKit Go.Maps Go.Sort Go.Shelf HP
set_option linter.unusedSimpArgs false
set_option linter.unusedVariables false

def namesV (A : Dk) : List Value := A.files.map fun x => Value.string x.1
theorem lsSorts (m : Nat) : AnyZ.SortsIn Try.prog laySd_ren Fence.wide m :=
  ⟨fun blk off cap ss W hH hblk hsz => callsIn_wide.2 (AnyM.slices_Sort_string laySr blk off cap ss W hH hblk hsz),
   fun p cap W => callsIn_wide.2 (AnyM.slices_Sort_string_none laySr p cap W)⟩
set_option maxHeartbeats 2000000 in
set_option maxRecDepth 100000 in
theorem disk_list (E : Env) (q : HP) (d : Nat) (A : Dk) (w : World) (hw : Sat E w (HP.disk d A * q)) :
    Calls Try.prog 29 #[.pointer (some ⟨d, 0, none⟩)] w fun e w' => ∃ v, e = .returned v ∧ Sat E w' (HP.row 9 1 v A.files.length (namesV A) * (HP.disk d A * q)) := by
  obtain ⟨m, es, clock, fs, hv, hd⟩ := hw.disk_open
  have hd0 := hd
  clear hw
  unfold HP.dk HP.dsk at hd0
  have c1 := (hd0.perm (HP.mul_assoc _ _ _)).cell 1
  simp only [List.getElem?_toArray, List.getElem?_cons_zero, List.getElem?_cons_succ] at c1
  have HD := Aside.mk hd
  have HV := Aside.mk hv
  clear hd0 hd hv
  go_enter Try.func29, Try.ntmps29
  go_wp2_with fail
  refine (disk_none E _ d _ _ _ _ (by have h := HD.out; unfold HP.dk at h; exact h.perm (HP.mul_assoc _ _ _))).mono ?_
  rintro e w' ⟨rfl, hw'⟩; subst w'
  obtain ⟨D0, hown, hss, hsz⟩ := own_map HV.out HD.out
  have hle : Maps.size D0 ≤ 100000 := by rw [hsz]; exact files_le HV.out.fine
  have hbl := hown.lt
  have hseq : SeqGives Fence.wide 2 Try.prog 70 #[.pointer (some ⟨w.heap.size, 0, none⟩)] encStr (fun ss => ss.Perm (strKeys D0)) (Maps.size D0) (w.alloc (.cells #[.map (some m)] 67)) :=
    AnyZ.keys_gives (ρ := layKe_ren) { layKe with } Fence.wide _ trivial rfl (by omega) w.heap.size m es.size D0 _ (by simp) (by simp) (by
      obtain ⟨es, clock, hb, Ft, hs, hD⟩ := hown
      exact ⟨es, clock, (RowKit.Below.heap_alloc _ _ m hbl).trans hb, Ft, hs, hD⟩)
  have cK : ∀ mb W, Calls Try.prog 57 #[.map mb] W fun e w' => e = .returned (.func (.func 70) #[] #[.pointer (some ⟨W.heap.size, 0, none⟩)]) ∧ w' = W.alloc (.cells #[.map mb] 67) := fun mb W => (callsIn_wide (n := 5)).1 (AnyZ.keys_in layKe Fence.wide 5 trivial rfl mb W)
  have cS0 := AnyZ.sorted_in laySd Fence.wide 5 trivial trivial trivial trivial rfl (by omega) (lsSorts _) (enters_of Try.func69 (by kernel_rfl) rfl) 70 #[.pointer (some ⟨w.heap.size, 0, none⟩)] trivial (enters_of Try.func70 (by kernel_rfl) rfl) _ _ (by unfold maxLen; omega) (by omega) _ hseq
  have cS : Calls Try.prog 56 #[.func (.func 70) #[] #[.pointer (some ⟨w.heap.size, 0, none⟩)]] (w.alloc (.cells #[.map (some m)] 67)) _ := (callsIn_wide (n := 5)).1 cS0
  have CS := Aside.mk cS
  have CK := Aside.mk (cK (some m) w)
  have HSS := Aside.mk hss
  clear cS0 cS cK hseq hown hss hsz hle hbl
  go_wp2_with fail
  refine CK.out.mono ?_
  rintro e w1 ⟨rfl, rfl⟩
  go_wp2_with fail
  refine CS.out.mono ?_
  rintro e w2 ⟨v, ss, rfl, hS, hrow, -, hbel⟩
  go_wp2
  go_ret
  refine ⟨v, rfl, ?_⟩
  have hp := hS.trans HSS.out
  have h3 : Sat E w2 (HP.row 9 1 v ss.length ((ss.mergeSort fun x y => decide (x ≤ y)).map encStr) * (HP.dk d A.room A.fuse m es clock fs * q)) := (HD.out.alloc (.cells #[.map (some m)] 67)).right.fresh_row hbel (Nat.le_refl _) hrow
  rw [names_sorted HV.out.fine hp, show ss.length = A.files.length by have := hp.length_eq; simpa using this] at h3
  have e1 : (A.files.map fun x => x.1.data.toList).map encStr = namesV A := by
    rw [List.map_map]; rfl
  rw [e1] at h3
  exact Sat.s2 (Sat.disk_close HV.out h3.s2)
end Go.Proofs.Ytjlfhfknnpjikaa
/- The library's sort, of a slice of one's own. -/
namespace Go.Proofs.Ytjlfhfknnpjikaa
open Go.RowKit Go.Sort Go.Shelf HP
set_option linter.unusedSimpArgs false
set_option linter.unusedVariables false

theorem Sat.grownS {E : Env} {q : HP} : ∀ (l : List Obj) {w : World}, Sat E w q → Sat E (Go.Sort.grow w l.toArray) q
  | [], w, h => by
    have : Go.Sort.grow w ([] : List Obj).toArray = w := by simp [Go.Sort.grow]
    rw [this]; exact h
  | o :: l, w, h => by
    have h1 : Sat E (w.alloc o) q := (h.alloc o).right
    have h2 := Sat.grownS l h1
    rw [Go.Sort.alloc_eq_grow, Go.Sort.grow_grow] at h2
    have e : #[o] ++ l.toArray = (o :: l).toArray := by simp
    rw [e] at h2; exact h2
section
variable {α : Type} [Inhabited α]
theorem flatK_list (enc : α → List Value) (k : Nat) (hk : ∀ x, (enc x).length = k) (l : List α) : (flatK enc k l.toArray).toList = l.flatMap enc := by
  have hl : (l.flatMap enc).length = l.length * k := by
    induction l with
    | nil => simp
    | cons x l ih => rw [List.flatMap_cons, List.length_append, ih, hk, List.length_cons, Nat.add_mul, Nat.one_mul, Nat.add_comm]
  apply List.ext_getElem?
  intro t
  by_cases ht : t < l.length * k
  · have k0 : 0 < k := by
      rcases Nat.eq_zero_or_pos k with h | h
      · subst h; simp at ht
      · exact h
    have hd : t / k < l.length := Nat.div_lt_of_lt_mul (by rw [Nat.mul_comm]; exact ht)
    have hm : t % k < k := Nat.mod_lt _ k0
    have e1 : (flatK enc k l.toArray).toList[t]? = some ((enc (l[t / k]))[t % k]'(by rw [hk]; exact hm)) := by
      rw [Array.getElem?_toList, Array.getElem?_eq_getElem (by simpa using ht)]
      have := get_flatK enc k l.toArray t (by simpa using ht)
      rw [getElem!_pos _ t (by simpa using ht)] at this
      rw [this]
      congr 1
      rw [getElem!_pos l.toArray (t / k) (by simpa using hd)]
      rw [getElem!_pos _ (t % k) (by rw [hk]; exact hm)]
      simp
    have e2 : (l.flatMap enc)[t]? = (enc (l[t / k]))[t % k]? := by
      have ht' : t = t / k * k + t % k := by rw [Nat.mul_comm]; exact (Nat.div_add_mod t k).symm
      have key : ∀ (l : List α) (i r : Nat) (x : α), l[i]? = some x → r < k → (l.flatMap enc)[i * k + r]? = (enc x)[r]? := by
        intro l
        induction l with
        | nil => intro i r x h; simp at h
        | cons y l ih =>
          intro i r x h hr
          rw [List.flatMap_cons]
          cases i with
          | zero =>
            simp only [List.getElem?_cons_zero, Option.some.injEq] at h
            subst h
            rw [Nat.zero_mul, Nat.zero_add, List.getElem?_append_left (by rw [hk]; exact hr)]
          | succ i =>
            simp only [List.getElem?_cons_succ] at h
            rw [List.getElem?_append_right (by rw [hk, Nat.add_mul]; omega), hk, ← ih i r x h hr]
            congr 1
            rw [Nat.add_mul, Nat.one_mul]
            omega
      have := key l (t / k) (t % k) (l[t / k]) (List.getElem?_eq_getElem hd) hm
      rwa [← ht'] at this
    rw [e1, e2, List.getElem?_eq_getElem]
  · rw [List.getElem?_eq_none (l := (flatK enc k l.toArray).toList) (by simp; omega), List.getElem?_eq_none (by rw [hl]; omega)]
theorem put_take (F : Array Value) (o : Nat) (c : Array Value) (h : o + F.size ≤ c.size) : ((putCells id o F c).toList.drop o).take F.size = F.toList := by
  apply List.ext_getElem?
  intro j
  rw [List.getElem?_take]
  split
  · rename_i hj
    rw [List.getElem?_drop, Array.getElem?_toList]
    unfold putCells
    rw [Array.getElem?_mapIdx, Array.getElem?_eq_getElem (by omega), Array.getElem?_toList, Array.getElem?_eq_getElem hj]
    simp only [Option.map_some]
    rw [if_pos (by omega), Nat.add_sub_cancel_left]
    simp [hj]
  · rw [List.getElem?_eq_none (by simp; omega)]
theorem put_size (F : Array Value) (o : Nat) (c : Array Value) : (putCells id o F c).size = c.size := by simp [putCells]
variable {E : Env} {q : HP} {w : World} {e : TypeId} {k n cap g o : Nat}
/-- The world that a sort leaves, of a row that lies at a place. -/
theorem sat_sorted {enc : α → List Value} (hk : ∀ x, (enc x).length = k) {cur : Array Value} {l' : List α} (hw : Sat E w (HP.pt g (.cells cur e) * q)) (hl : l'.length = n) (hs : o + n * k ≤ cur.size) (m : Nat) (os : Array Obj) :
    Sat E (sortWorldK enc k w g o m l'.toArray os) (HP.pt g (.cells (putCells id o (flatK enc k l'.toArray) cur) e) * q) := by
  have h1 : Sat E (Go.Sort.ahead w m) (HP.pt g (.cells cur e) * q) := hw.drewN (n := m)
  have hg := h1.get
  have h2 : Sat E (putRowK enc k (Go.Sort.ahead w m) g o l'.toArray) (HP.pt g (.cells (putCells id o (flatK enc k l'.toArray) cur) e) * q) := by
    refine h1.turn (w' := putRowK enc k (Go.Sort.ahead w m) g o l'.toArray) ⟨rfl, rfl, rfl, ?_⟩ ?_ fun b hb _ => ?_
    · unfold putRowK
      rw [size_putRow]
      exact Nat.le_refl _
    · unfold putRowK putRow mapBlock
      simp only [Array.getElem?_modify, if_true, hg, Option.map_some, onCells]
    · unfold putRowK putRow mapBlock
      simp only [Array.getElem?_modify]
      rw [if_neg (Ne.symm hb)]
  have := Sat.grownS os.toList h2
  simpa [sortWorldK] using this
variable {P : Program} {ρ : Ren}
/-- slices.SortFunc of a slice of one's own, by an order that parts whatever two that are not one. -/
theorem sort_row (L : SlLaysF0.n6 P ρ) (aE : ∀ w, (isAgg (ρ.t 24)).run P w = .ok true w) (zE : ∀ w, (Go.sizeOf (ρ.t 24)).run P w = .ok k w) (enc : α → List Value) (hk : ∀ x, (enc x).length = k) (h1 : ∀ x, ∀ v ∈ enc x, v.oneCell' = true) (cf : α → α → Int) (hO : SWO (ltOf cf)) (hT : ∀ x y, (ltOf cf) x y = false → (ltOf cf) y x = false → x = y) (f : Nat) (cb : Array Value)
    (eg : ∀ args w, (callFunc f args).run P w = .ok (.enter f args) w) (hcmp : ∀ x y W, Calls P f (#[.agg (enc x).toArray, .agg (enc y).toArray] ++ cb) W fun e w' => e = .returned (.int .i64 (cf x y)) ∧ ∃ q os', w' = grow (W.drewN q) os')
    {v : Value} {l : List α} (hl : l.length = n) (hn : n ≤ maxLen / 4) (hw : Sat E w (HP.row e k v n (l.flatMap enc) * q)) :
    Calls P (ρ.f 6) #[v, .func (.func f) #[] cb] w fun r w' => r = .returned (.tuple #[]) ∧ Sat E w' (HP.row e k v n ((l.mergeSort fun x y => !(ltOf cf) y x).flatMap enc) * q) := by
  have hln : (l.mergeSort fun x y => !(ltOf cf) y x).length = n := by rw [List.length_mergeSort, hl]
  by_cases h0 : n = 0
  · have hnil : l = [] := List.eq_nil_of_length_eq_zero (by omega)
    subst hnil
    subst h0
    obtain ⟨A, c, rfl, -, -⟩ := hw.row_slice
    refine (AnyF.slices_SortFunc_none L A c _ w).mono ?_
    rintro r w' ⟨rfl, rfl⟩
    exact ⟨rfl, by simpa using hw⟩
  · rcases hw.row_cases.2 with ⟨A, -, hz, -⟩ | ⟨g, off, cap, cur, rfl, hnc, hcm, hsz, htk, hp⟩
    · exact absurd hz h0
    · have hfl := flatK_list enc k hk l
      have hsz1 : (flatK enc k l.toArray).size = n * k := by simp [hl]
      have hH : HoldsK enc k w g (off * k) l.toArray := by
        intro j hj
        rw [hsz1] at hj
        have hjc : off * k + j < cur.size := by
          have : (off + cap) * k = off * k + cap * k := Nat.add_mul _ _ _
          have := Nat.mul_le_mul_right k hnc
          omega
        refine ⟨?_, hp.thaw _⟩
        rw [hp.cell, Array.getElem?_eq_getElem hjc]
        have e1 := congrArg (fun l => l[j]?) (htk.trans hfl.symm)
        simp only [List.getElem?_take, if_pos hj, List.getElem?_drop, Array.getElem?_toList] at e1
        rw [Array.getElem?_eq_getElem hjc, Array.getElem?_eq_getElem (by rw [hsz1]; exact hj)] at e1
        rw [e1]
        simp [hj, hl]
      have hsl : l.toArray.size = n := by simpa using hl
      have hc := AnyQ.slices_SortFunc_total L k aE zE enc hk h1 cf hO f cb g (off * k) cap l.toArray w eg (fun m os dk hs x y => hcmp x y _) hH hp.lt (by rw [hsl]; unfold maxLen at hn; omega) hT
      rw [hsl] at hc
      refine hc.mono ?_
      rintro r w' ⟨rfl, m, os, rfl⟩
      refine ⟨rfl, ?_⟩
      simp only at hln ⊢
      have hsk : off * k + n * k ≤ cur.size := by
        have : (off + cap) * k = off * k + cap * k := Nat.add_mul _ _ _
        have := Nat.mul_le_mul_right k hnc
        omega
      have h3 := sat_sorted hk (l' := l.mergeSort fun x y => !(ltOf cf) y x) hp hln hsk m os
      refine h3.row_mk (n := n) (cap := cap) (off := off) (size := k) hnc hcm (by rw [put_size]; exact hsz) ?_
      have hs2 : (flatK enc k (l.mergeSort fun x y => !(ltOf cf) y x).toArray).size = n * k := by rw [size_flatK]; simp [hl]
      have := put_take (flatK enc k (l.mergeSort fun x y => !(ltOf cf) y x).toArray) (off * k) cur (by rw [hs2]; exact hsk)
      rw [hs2, flatK_list enc k hk] at this
      exact this
end
end Go.Proofs.Ytjlfhfknnpjikaa
/- A library function laid at this program (printed by the kit's own tool). -/
namespace Go.Proofs.Ytjlfhfknnpjikaa
open Go.Shelf
set_option linter.unusedSimpArgs false
set_option linter.unusedVariables false

def laysSpot_ren : Go.Shelf.Ren := ⟨fun | 6 => 40 | 15 => 63 | 14 => 62 | 28 => 83 | 29 => 84 | 20 => 75 | 21 => 76 | 22 => 77 | 23 => 78 | 24 => 79 | 25 => 80 | 26 => 81 | 27 => 82 | 46 => 89 | 47 => 90 | 48 => 91 | 49 => 92 | 50 => 93 | 57 => 103 | n => n, fun | 22 => 33 | 24 => 37 | 25 => 88 | 3 => 3 | 39 => 27 | 0 => 0 | 53 => 131 | 55 => 133 | 4 => 4 | 46 => 124 | 45 => 123 | 50 => 128 | 5 => 5 | 9 => 9 | 66 => 140 | 70 => 144 | 76 => 152 | 77 => 153 | n => n, fun | n => n⟩
theorem laysSpot : Go.Proofs.SlLaysF0.n6 Try.prog laysSpot_ren := {
  mixed := by kernel_rfl
  f6 := ⟨Try.f40.name, by decide, Try.func40.trans (congrArg some (by kernel_rfl))⟩
  f14 := ⟨Try.f62.name, by decide, Try.func62.trans (congrArg some (by kernel_rfl))⟩
  f15 := Try.func63.trans (congrArg some (by kernel_rfl))
  f20 := ⟨Try.f75.name, by decide, Try.func75.trans (congrArg some (by kernel_rfl))⟩
  f21 := ⟨Try.f76.name, by decide, Try.func76.trans (congrArg some (by kernel_rfl))⟩
  f22 := ⟨Try.f77.name, by decide, Try.func77.trans (congrArg some (by kernel_rfl))⟩
  f23 := ⟨Try.f78.name, by decide, Try.func78.trans (congrArg some (by kernel_rfl))⟩
  f24 := ⟨Try.f79.name, by decide, Try.func79.trans (congrArg some (by kernel_rfl))⟩
  f25 := ⟨Try.f80.name, by decide, Try.func80.trans (congrArg some (by kernel_rfl))⟩
  f26 := ⟨Try.f81.name, by decide, Try.func81.trans (congrArg some (by kernel_rfl))⟩
  f27 := ⟨Try.f82.name, by decide, Try.func82.trans (congrArg some (by kernel_rfl))⟩
  f28 := Try.func83.trans (congrArg some (by kernel_rfl))
  f29 := Try.func84.trans (congrArg some (by kernel_rfl))
  f46 := ⟨Try.f89.name, by decide, Try.func89.trans (congrArg some (by kernel_rfl))⟩
  f47 := Try.func90.trans (congrArg some (by kernel_rfl))
  f48 := Try.func91.trans (congrArg some (by kernel_rfl))
  f49 := ⟨Try.f92.name, by decide, Try.func92.trans (congrArg some (by kernel_rfl))⟩
  f50 := ⟨Try.f93.name, by decide, Try.func93.trans (congrArg some (by kernel_rfl))⟩
  f57 := ⟨Try.f103.name, by decide, Try.func103.trans (congrArg some (by kernel_rfl))⟩
  t0 := Try.underlying0
  a0 := Try.isAgg0
  z0 := Try.sizeOf0
  v0 := Try.zeroValue0
  t3 := Try.underlying3
  a3 := Try.isAgg3
  z3 := Try.sizeOf3
  v3 := Try.zeroValue3
  t4 := Try.underlying4
  a4 := Try.isAgg4
  z4 := Try.sizeOf4
  v4 := Try.zeroValue4
  t5 := Try.underlying5
  a5 := Try.isAgg5
  z5 := Try.sizeOf5
  v5 := Try.zeroValue5
  t9 := Try.underlying9
  a9 := Try.isAgg9
  z9 := Try.sizeOf9
  v9 := Try.zeroValue9
  t22 := Try.underlying33
  a22 := Try.isAgg33
  z22 := Try.sizeOf33
  v22 := Try.zeroValue33
  t25 := Try.underlying88
  a25 := Try.isAgg88
  z25 := Try.sizeOf88
  v25 := Try.zeroValue88
  t39 := Try.underlying27
  a39 := Try.isAgg27
  z39 := Try.sizeOf27
  v39 := Try.zeroValue27
  t45 := Try.underlying123
  a45 := Try.isAgg123
  z45 := Try.sizeOf123
  v45 := Try.zeroValue123
  t46 := Try.underlying124
  a46 := Try.isAgg124
  z46 := Try.sizeOf124
  v46 := Try.zeroValue124
  t50 := Try.underlying128
  a50 := Try.isAgg128
  z50 := Try.sizeOf128
  v50 := Try.zeroValue128
  t53 := Try.underlying131
  a53 := Try.isAgg131
  z53 := Try.sizeOf131
  v53 := Try.zeroValue131
  t55 := Try.underlying133
  a55 := Try.isAgg133
  z55 := Try.sizeOf133
  v55 := Try.zeroValue133
  t66 := Try.underlying140
  a66 := Try.isAgg140
  z66 := Try.sizeOf140
  v66 := Try.zeroValue140
  t70 := Try.underlying144
  a70 := Try.isAgg144
  z70 := Try.sizeOf144
  v70 := Try.zeroValue144
  t76 := Try.underlying152
  a76 := Try.isAgg152
  z76 := Try.sizeOf152
  v76 := Try.zeroValue152
  t77 := Try.underlying153
  a77 := Try.isAgg153
  z77 := Try.sizeOf153
  v77 := Try.zeroValue153 }
end Go.Proofs.Ytjlfhfknnpjikaa
/- (*Disk).Damaged: the walk. -/
namespace Go.Proofs.Ytjlfhfknnpjikaa
open Go.RowKit HP
set_option linter.unusedSimpArgs false
set_option linter.unusedVariables false

theorem slSp : SlTy Try.prog 33 37 (.agg #[.string ⟨#[]⟩, .int .i64 0]) 2 24 := ⟨Try.underlying33, by kernel_rfl, rfl, by decide⟩
theorem encSpot_one (x : ByteArray × Int) : ∀ v ∈ encSpot x, v.oneCell' = true := by
  intro v hv
  simp [encSpot] at hv
  rcases hv with rfl | rfl <;> rfl
theorem sort_spots (E : Env) (q : HP) (v : Value) (l : List (ByteArray × Int)) (n : Nat) (w : World) (hl : l.length = n) (hn : n ≤ maxLen / 4) (hw : Sat E w (HP.row 37 2 v n (l.flatMap encSpot) * q)) :
    Calls Try.prog 40 #[v, .func (.func 41) #[] #[]] w fun r w' => r = .returned (.tuple #[]) ∧ Sat E w' (HP.row 37 2 v n ((l.mergeSort fun x y => !(ltC cmpSpot) y x).flatMap encSpot) * q) :=
  sort_row (k := 2) laysSpot (by intro w; kernel_rfl) (by intro w; kernel_rfl) encSpot (fun _ => rfl) encSpot_one cmpSpot swo_spot (fun _ _ h1 h2 => ltSpot_total h1 h2) 41 #[] (enters_of Try.func41 (by kernel_rfl) rfl)
    (fun x y W => damaged_cmp x.1 y.1 x.2 y.2 W) hl hn hw
theorem spots_length : ∀ l : List (ByteArray × List Cel), (l.flatMap spotsF).length ≤ sizeF l
  | [] => Nat.le_refl _
  | x :: l => by
    have h1 := spots_length l
    have h2 := spotsN_length x.1 x.2 x.2.length
    rw [List.flatMap_cons, List.length_append]
    unfold sizeF at *
    rw [List.map_cons, List.sum_cons]
    unfold spotsF at *
    omega
def leftS (es : Array MapEntry) (seen : Array Nat) (fs : List Fil) : List (ByteArray × Int) := (leftZ es seen fs).flatMap fun x => spotsF (x.2.name, x.2.cs)
theorem leftS_start {A : Dk} {es : Array MapEntry} {clock : Nat} {fs : List Fil} (hv : View A es clock fs) : (leftS es #[] fs).Perm A.damaged := by
  have hlen : es.toList.length = fs.length := by simpa using congrArg List.length hv.map.2.1
  have e : leftS es #[] fs = (fs.map fun f => (f.name, f.cs)).flatMap spotsF := by
    unfold leftS
    conv => rhs; rw [← leftZ_start hlen]
    rw [List.map_map, List.flatMap_map]
    rfl
  rw [e]
  exact (files_perm hv).flatMap_right _
theorem leftS_step {es : Array MapEntry} {seen : Array Nat} {fs : List Fil} {j : Nat} {e : MapEntry} {f : Fil} (hn : (es.toList.map (·.born)).Nodup) (hl : es.toList.length = fs.length) (hj : es.toList[j]? = some e) (hf : fs[j]? = some f) (he : e ∈ leftL es seen) :
    (leftS es seen fs).Perm (spotsF (f.name, f.cs) ++ leftS es (seen.push e.born) fs) := by
  have he2 : seen.contains e.born = false := by
    have := (List.mem_filter.1 he).2
    simpa using this
  have := (leftZ_step hn hl hj hf he2).flatMap_right (fun x => spotsF (x.2.name, x.2.cs))
  rwa [List.flatMap_cons] at this
set_option maxHeartbeats 4000000 in
set_option maxRecDepth 100000 in
theorem disk_damaged (E : Env) (q : HP) (d : Nat) (A : Dk) (w : World) (hw : Sat E w (HP.disk d A * q)) :
    Calls Try.prog 15 #[.pointer (some ⟨d, 0, none⟩)] w fun e w' => ∃ v, e = .returned v ∧ Sat E w' (HP.row 37 2 v A.damaged.length (A.damaged.flatMap encSpot) * (HP.disk d A * q)) := by
  obtain ⟨m, es, clock, fs, hv, hd⟩ := hw.disk_open
  clear hw
  go_enter Try.func15, Try.ntmps15
  go_wp2_with fail
  refine (disk_none E _ d _ _ m w (dk_parts hd)).mono ?_
  rintro e w1 ⟨rfl, rfl⟩
  have c1 := (dk_parts hd).cell 1
  simp only [List.getElem?_toArray, List.getElem?_cons_zero, List.getElem?_cons_succ] at c1
  have hrg := run_range_map (P := Try.prog) (t := 67) Try.underlying67 (dk_parts hd).s2.get
  have HS0 := Aside.mk ((hd.alloc (.mapIter (some m) clock #[] clock)).row_nil 37 2 none)
  have HM := Aside.mk hv.map
  have hlen : es.toList.length = fs.length := by simpa using congrArg List.length hv.map.2.1
  have HV := Aside.mk (And.intro hv hlen)
  have hdl : A.damaged.length ≤ 100000 := by
    have h1 := spots_length A.files
    have h2 := hv.fine.fits
    have h3 := hv.fine.room
    unfold Dk.damaged
    omega
  have HL := Aside.mk (And.intro (leftS_start hv) (damaged_sorted hv.fine.sorted))
  clear hv hlen hd
  go_wp2
  obtain ⟨g, hg⟩ : ∃ g, g = w1.heap.size := ⟨_, rfl⟩
  obtain ⟨w0, hw0⟩ : ∃ w0, w0 = w1.alloc (.mapIter (some m) clock #[] clock) := ⟨_, rfl⟩
  rw [← hg, ← hw0] at HS0
  rw [← hg, ← hw0]
  clear hrg c1 hg hw0
  go_loopw [3] (fun v3 wr => ∃ (seen : Array Nat) (c0 : Nat) (out : List (ByteArray × Int)), clock ≤ c0 ∧ Aside ((out ++ leftS es seen fs).Perm A.damaged) ∧ Aside (Sat E wr (HP.pt g (.mapIter (some m) clock seen c0) * (HP.row 37 2 v3 out.length (out.flatMap encSpot) * (HP.dk d A.room A.fuse m es clock fs * q)))))
    (fun _ wr => match wr.heap[g]? with | some (.mapIter _ _ seen _) => (leftL es seen).length | _ => 0)
  case atStart => exact ⟨#[], clock, [], Nat.le_refl _, ⟨HL.out.1⟩, ⟨HS0.out.perm (by show HP.row _ _ _ 0 [] * _ = HP.pt _ _ * (HP.row _ _ _ 0 [] * _); ac_rfl)⟩⟩
  case round =>
    clear HS0
    obtain ⟨seen, c0, out, hc0, HO, HS⟩ := hrel
    have hol : out.length ≤ 100000 := by
      have := HO.out.length_eq
      rw [List.length_append] at this
      omega
    rcases next_file HM.out hc0 (HS.out.perm (by ac_rfl : _ = HP.pt g (.mapIter (some m) clock seen c0) * (HP.dk d A.room A.fuse m es clock fs * (HP.row 37 2 u3 out.length (out.flatMap encSpot) * q)))) 0 with ⟨hend, hnext⟩ | ⟨j, f, e, w2, hj, hje, hel, hnext, hent, h2⟩
    · have hz : leftS es seen fs = [] := by unfold leftS; rw [leftZ_end hend]; rfl
      have hp := HO.out
      rw [hz, List.append_nil] at hp
      have HP0 := Aside.mk hp
      clear hz hp HO hend
      go_wp2_with fail
      refine (sort_spots E _ u3 out out.length _ rfl (by unfold maxLen; omega) HS.out.right).mono ?_
      rintro e w2 ⟨rfl, h2⟩
      rw [sorted_damaged HV.out.1.fine.sorted HP0.out, HP0.out.length_eq] at h2
      have H2 := Aside.mk (And.intro rfl (Sat.disk_close (q := HP.row 37 2 u3 A.damaged.length (A.damaged.flatMap encSpot) * q) HV.out.1 h2.s2) : u3 = u3 ∧ _)
      clear h2 HP0 HS hol
      go_wp2
      go_ret
      exact ⟨_, rfl, H2.out.2.s2⟩
    · obtain ⟨R0, h3, hback⟩ := dk_fileQ (h2.perm (by ac_rfl : _ = HP.dk d A.room A.fuse m es clock fs * (HP.pt g (.mapIter (some m) clock (seen.push e.born) clock) * (HP.row 37 2 u3 out.length (out.flatMap encSpot) * q)))) hj
      obtain ⟨B, cc, hvB, -, -⟩ := h3.row_slice
      have hfm := HV.out.1.mem (List.mem_of_getElem? hj)
      have hfs : f.cels.length ≤ 100000 := by
        have h7 := at_small HV.out.1.fine f.name
        rw [Dk.at, lk_of_mem HV.out.1.fine.sorted hfm] at h7
        simpa [Fil.cs] using h7
      have HFine : Aside (∀ x ∈ f.cels, x.2.Fine) := ⟨fun x hx => HV.out.1.cel_fine (List.mem_of_getElem? hj) hx⟩
      have hset : fs.set j ⟨f.name, f.val, f.cels⟩ = fs := by
        obtain ⟨h1, h2⟩ := List.getElem?_eq_some_iff.1 hj
        rw [show (⟨f.name, f.val, f.cels⟩ : Fil) = fs[j] from h2.symm]
        exact List.set_getElem_self h1
      have hst := leftS_step HM.out.2.2.2.2 HV.out.2 hje hj hel
      have HC := Aside.mk (And.intro hback (And.intro hset (And.intro hst hel)))
      have hce : f.cs.length = f.cels.length := by unfold Fil.cs; rw [List.length_map]
      rw [hvB] at hnext hent h3
      have H3 := Aside.mk h3
      have HG1 := Aside.mk HS.out.get
      clear HS h2 hback h3 hj hje hel hfm hset hst
      obtain ⟨n, hnn⟩ : ∃ n, n = f.cels.length := ⟨_, rfl⟩
      rw [← hnn] at H3 hfs hnext hent hce
      have HN := Aside.mk (And.intro hnn hce)
      clear hnn hce
      go_wp2
      obtain ⟨wo, rfl⟩ : ∃ wo : World, wo = wr := ⟨_, rfl⟩
      go_loopw [3, 22] (fun v3 v22 wi => ∃ k : Nat, v22 = .int .i64 k ∧ k ≤ n ∧ Aside (Sat E wi (HP.row 37 2 v3 (out ++ spotsN f.name f.cs k).length ((out ++ spotsN f.name f.cs k).flatMap encSpot) * (HP.row 76 1 (.slice B n cc) n (celPtrs f.cels) * (HP.cels f.cels * (R0 * (HP.pt g (.mapIter (some m) clock (seen.push e.born) clock) * q))))))) (fun _ x _ => n - (intOf x).toNat)
      case atStart => exact ⟨0, rfl, Nat.zero_le _, ⟨by rw [show spotsN f.name f.cs 0 = [] from rfl, List.append_nil]; exact H3.out.perm (by ac_rfl)⟩⟩
      case round =>
        clear H3 hnext hent
        obtain ⟨k, rfl, hk, HR⟩ := hrel
        by_cases hlt : k < n
        · have hkf : k < f.cels.length := by have := HN.out.1; omega
          have hrow := HR.out.right
          obtain ⟨pa, hpa, hcx⟩ := hrow.row_cells.at_ k (by simp [celPtrs, hkf])
          obtain ⟨pg, po, rfl⟩ : ∃ g o, pa = ⟨g, o, none⟩ := slice_addr hrow.row_cells hpa (k := k) (by simp [celPtrs, hkf])
          subst hpa
          rw [addr_add] at hcx
          simp only [celPtrs, List.getElem_map] at hcx
          obtain ⟨Rk, h5, hRk, hbackk⟩ := cels_take (hrow.s2) (List.getElem?_eq_getElem hkf)
          have hxf : (f.cels[k]).2.Fine := HFine.out _ (List.getElem_mem hkf)
          have hcs : f.cs[k]? = some (f.cels[k]).2 := by unfold Fil.cs; rw [List.getElem?_map, List.getElem?_eq_getElem hkf]; rfl
          have HSN : Aside (spotsN f.name f.cs (k + 1) = spotsN f.name f.cs k ++ if (f.cels[k]).2.bad = true then [(f.name, (k : Int))] else []) := ⟨by rw [spotsN, hcs]; rfl⟩
          have hsl := spotsN_length f.name f.cs k
          generalize f.cels[k] = x at *
          obtain ⟨bk, c⟩ := x
          dsimp only at *
          have hk0 : (0 : Int) ≤ (k : Int) := by omega
          have hk1 : (k : Int) < (n : Int) := by omega
          have ld1 := run_loadAgg agImg (by rw [b8s_length]; exact hxf.2.1) (cel_durable h5.drew hxf)
          have ld2 := run_loadAgg agImg (by rw [b8s_length]; exact hxf.2.2.1) (cel_synced h5.drew hxf)
          have ld4 := run_loadAgg agImg (by rw [b8s_length]; exact hxf.2.2.2) (cel_written h5.drew hxf)
          have ne1 := run_neq_u8s (P := Try.prog) (w := wr.drew) Try.underlying78 Try.underlying5 (by kernel_rfl) (by kernel_rfl) c.durable c.synced hxf.2.1 hxf.2.2.1
          have ne2 := run_neq_u8s (P := Try.prog) (w := wr.drew) Try.underlying78 Try.underlying5 (by kernel_rfl) (by kernel_rfl) c.durable c.written hxf.2.1 hxf.2.2.2
          clear hRk hrow
          by_cases e1 : c.durable = c.synced
          · have hbad : c.bad = false := by unfold Cel.bad; simp [e1]
            rw [hbad] at HSN
            simp only [Bool.false_eq_true, if_false, List.append_nil] at HSN
            have HR2 : Aside (Sat E wr.drew (HP.row 37 2 u3 (out ++ spotsN f.name f.cs (k + 1)).length ((out ++ spotsN f.name f.cs (k + 1)).flatMap encSpot) * (HP.row 76 1 (.slice (some ⟨pg, po, none⟩) n cc) n (celPtrs f.cels) * (HP.cels f.cels * (R0 * (HP.pt g (.mapIter (some m) clock (seen.push e.born) clock) * q)))))) := ⟨by rw [HSN.out]; exact HR.out.drew⟩
            rw [decide_eq_true e1] at ne1
            generalize (b8s c.durable).toArray = D1 at *
            generalize (b8s c.synced).toArray = D2 at *
            clear ld4 ne2 h5 hbackk HR HSN hxf hcs
            go_wp2
            refine region_R [] [] (fun _ => True) #[false, false, false, false, false, false, false, false, false, false, false, false, false, false, false, false, false, false, false, false] (by kernel_rfl) rfl rfl ?_
            refine wpR_rd 0 #[true, false, false, false, false, false, false, false, false, false, false, false, false, false, false, false, false, false, false, false] rfl onlyN_noPanic (by kernel_rfl) (fun K hK => ?_); (go_simp; try go_bits); refine hK _ ?_; clear hK K
            refine wpR_rd 1 #[true, true, false, false, false, false, false, false, false, false, false, false, false, false, false, false, false, false, false, false] rfl onlyN_noPanic (by kernel_rfl) (fun K hK => ?_); (go_simp; try go_bits); refine hK _ ?_; clear hK K
            refine wpR_rd 2 #[true, true, true, false, false, false, false, false, false, false, false, false, false, false, false, false, false, false, false, false] rfl onlyN_noPanic (by kernel_rfl) (fun K hK => ?_); (go_simp; try go_bits); refine hK _ ?_; clear hK K
            refine wpR_read (i := 3) #[true, true, true, true, false, false, false, false, false, false, false, false, false, false, false, false, false, false, false, false] rfl onlyN_noPanic (by kernel_rfl) (.inl ⟨rfl, exec_load rfl rfl ld1⟩) ?_
            simp only [Act.put, List.setIfInBounds_toArray, List.set_cons_zero, List.set_cons_succ]
            refine wpR_rd 4 #[true, true, true, true, true, false, false, false, false, false, false, false, false, false, false, false, false, false, false, false] rfl onlyN_noPanic (by kernel_rfl) (fun K hK => ?_); (go_simp; try go_bits); refine hK _ ?_; clear hK K
            refine wpR_rd 5 #[true, true, true, true, true, true, false, false, false, false, false, false, false, false, false, false, false, false, false, false] rfl onlyN_noPanic (by kernel_rfl) (fun K hK => ?_); (go_simp; try go_bits); refine hK _ ?_; clear hK K
            refine wpR_rd 6 #[true, true, true, true, true, true, true, false, false, false, false, false, false, false, false, false, false, false, false, false] rfl onlyN_noPanic (by kernel_rfl) (fun K hK => ?_); (go_simp; try go_bits); refine hK _ ?_; clear hK K
            refine wpR_read (i := 7) #[true, true, true, true, true, true, true, true, false, false, false, false, false, false, false, false, false, false, false, false] rfl onlyN_noPanic (by kernel_rfl) (.inl ⟨rfl, exec_load rfl rfl ld2⟩) ?_
            simp only [Act.put, List.setIfInBounds_toArray, List.set_cons_zero, List.set_cons_succ]
            refine wpR_read (i := 8) #[true, true, true, true, true, true, true, true, true, false, false, false, false, false, false, false, false, false, false, false] rfl onlyN_noPanic (by kernel_rfl) (.inl ⟨rfl, exec_binop rfl rfl rfl (run_eqGuard_agg _ .neq 78 _ _ _ _ (by kernel_rfl)) ne1⟩) ?_
            simp only [Act.put, List.setIfInBounds_toArray, List.set_cons_zero, List.set_cons_succ]
            refine wpR_rd 9 #[true, true, true, true, true, true, true, true, true, true, false, false, false, false, false, false, false, false, false, false] rfl onlyN_noPanic (by kernel_rfl) (fun K hK => ?_); (go_simp; try go_bits); refine hK _ ?_; clear hK K
            refine wpR_rd 10 #[true, true, true, true, true, true, true, true, true, true, true, false, false, false, false, false, false, false, false, false] rfl onlyN_noPanic (by kernel_rfl) (fun K hK => ?_); (go_simp; try go_bits); refine hK _ ?_; clear hK K
            refine wpR_rd 11 #[true, true, true, true, true, true, true, true, true, true, true, true, false, false, false, false, false, false, false, false] rfl onlyN_noPanic (by kernel_rfl) (fun K hK => ?_); (go_simp; try go_bits); refine hK _ ?_; clear hK K
            refine wpR_rd 12 #[true, true, true, true, true, true, true, true, true, true, true, true, true, false, false, false, false, false, false, false] rfl onlyN_noPanic (by kernel_rfl) (fun K hK => ?_); (go_simp; try go_bits); refine hK _ ?_; clear hK K
            refine wpR_rd 13 #[true, true, true, true, true, true, true, true, true, true, true, true, true, true, false, false, false, false, false, false] rfl onlyN_noPanic (by kernel_rfl) (fun K hK => ?_); (go_simp; try go_bits); refine hK _ ?_; clear hK K
            refine wpR_rd 14 #[true, true, true, true, true, true, true, true, true, true, true, true, true, true, true, false, false, false, false, false] rfl onlyN_noPanic (by kernel_rfl) (fun K hK => ?_); (go_simp; try go_bits); refine hK _ ?_; clear hK K
            refine wpR_rd 15 #[true, true, true, true, true, true, true, true, true, true, true, true, true, true, true, true, false, false, false, false] rfl onlyN_noPanic (by kernel_rfl) (fun K hK => ?_); (go_simp; try go_bits); refine hK _ ?_; clear hK K
            refine wpR_rd 16 #[true, true, true, true, true, true, true, true, true, true, true, true, true, true, true, true, true, false, false, false] rfl onlyN_noPanic (by kernel_rfl) (fun K hK => ?_); (go_simp; try go_bits); refine hK _ ?_; clear hK K
            refine wpR_rd 17 #[true, true, true, true, true, true, true, true, true, true, true, true, true, true, true, true, true, true, false, false] rfl onlyN_noPanic (by kernel_rfl) (fun K hK => ?_); (go_simp; try go_bits); refine hK _ ?_; clear hK K
            refine wpR_rd 18 #[true, true, true, true, true, true, true, true, true, true, true, true, true, true, true, true, true, true, true, false] rfl onlyN_noPanic (by kernel_rfl) (fun K hK => ?_); (go_simp; try go_bits); refine hK _ ?_; clear hK K
            refine wpR_rd 19 #[true, true, true, true, true, true, true, true, true, true, true, true, true, true, true, true, true, true, true, true] rfl onlyN_noPanic (by kernel_rfl) (fun K hK => ?_); (go_simp; try go_bits); refine hK _ ?_; clear hK K
            refine wpR_done (by kernel_rfl) ?_ _
            simp only [OnlyN]
            go_wp2
            go_roundw
            case rel => exact ⟨k + 1, by go_num, by omega, HR2⟩
            case measure => simp [intOf]; omega
          · rw [decide_eq_false e1] at ne1
            by_cases e2 : c.durable = c.written
            · have hbad : c.bad = false := by unfold Cel.bad; simp [e2]
              rw [hbad] at HSN
              simp only [Bool.false_eq_true, if_false, List.append_nil] at HSN
              have HR2 : Aside (Sat E wr.drew (HP.row 37 2 u3 (out ++ spotsN f.name f.cs (k + 1)).length ((out ++ spotsN f.name f.cs (k + 1)).flatMap encSpot) * (HP.row 76 1 (.slice (some ⟨pg, po, none⟩) n cc) n (celPtrs f.cels) * (HP.cels f.cels * (R0 * (HP.pt g (.mapIter (some m) clock (seen.push e.born) clock) * q)))))) := ⟨by rw [HSN.out]; exact HR.out.drew⟩
              rw [decide_eq_true e2] at ne2
              generalize (b8s c.durable).toArray = D1 at *
              generalize (b8s c.synced).toArray = D2 at *
              generalize (b8s c.written).toArray = D3 at *
              clear h5 hbackk HR HSN hxf hcs
              go_wp2
              refine region_R [] [] (fun _ => True) #[false, false, false, false, false, false, false, false, false, false, false, false, false, false, false, false, false, false, false, false] (by kernel_rfl) rfl rfl ?_
              refine wpR_rd 0 #[true, false, false, false, false, false, false, false, false, false, false, false, false, false, false, false, false, false, false, false] rfl onlyN_noPanic (by kernel_rfl) (fun K hK => ?_); (go_simp; try go_bits); refine hK _ ?_; clear hK K
              refine wpR_rd 1 #[true, true, false, false, false, false, false, false, false, false, false, false, false, false, false, false, false, false, false, false] rfl onlyN_noPanic (by kernel_rfl) (fun K hK => ?_); (go_simp; try go_bits); refine hK _ ?_; clear hK K
              refine wpR_rd 2 #[true, true, true, false, false, false, false, false, false, false, false, false, false, false, false, false, false, false, false, false] rfl onlyN_noPanic (by kernel_rfl) (fun K hK => ?_); (go_simp; try go_bits); refine hK _ ?_; clear hK K
              refine wpR_read (i := 3) #[true, true, true, true, false, false, false, false, false, false, false, false, false, false, false, false, false, false, false, false] rfl onlyN_noPanic (by kernel_rfl) (.inl ⟨rfl, exec_load rfl rfl ld1⟩) ?_
              simp only [Act.put, List.setIfInBounds_toArray, List.set_cons_zero, List.set_cons_succ]
              refine wpR_rd 4 #[true, true, true, true, true, false, false, false, false, false, false, false, false, false, false, false, false, false, false, false] rfl onlyN_noPanic (by kernel_rfl) (fun K hK => ?_); (go_simp; try go_bits); refine hK _ ?_; clear hK K
              refine wpR_rd 5 #[true, true, true, true, true, true, false, false, false, false, false, false, false, false, false, false, false, false, false, false] rfl onlyN_noPanic (by kernel_rfl) (fun K hK => ?_); (go_simp; try go_bits); refine hK _ ?_; clear hK K
              refine wpR_rd 6 #[true, true, true, true, true, true, true, false, false, false, false, false, false, false, false, false, false, false, false, false] rfl onlyN_noPanic (by kernel_rfl) (fun K hK => ?_); (go_simp; try go_bits); refine hK _ ?_; clear hK K
              refine wpR_read (i := 7) #[true, true, true, true, true, true, true, true, false, false, false, false, false, false, false, false, false, false, false, false] rfl onlyN_noPanic (by kernel_rfl) (.inl ⟨rfl, exec_load rfl rfl ld2⟩) ?_
              simp only [Act.put, List.setIfInBounds_toArray, List.set_cons_zero, List.set_cons_succ]
              refine wpR_read (i := 8) #[true, true, true, true, true, true, true, true, true, false, false, false, false, false, false, false, false, false, false, false] rfl onlyN_noPanic (by kernel_rfl) (.inl ⟨rfl, exec_binop rfl rfl rfl (run_eqGuard_agg _ .neq 78 _ _ _ _ (by kernel_rfl)) ne1⟩) ?_
              simp only [Act.put, List.setIfInBounds_toArray, List.set_cons_zero, List.set_cons_succ]
              refine wpR_rd 9 #[true, true, true, true, true, true, true, true, true, true, false, false, false, false, false, false, false, false, false, false] rfl onlyN_noPanic (by kernel_rfl) (fun K hK => ?_); (go_simp; try go_bits); refine hK _ ?_; clear hK K
              refine wpR_rd 10 #[true, true, true, true, true, true, true, true, true, true, true, false, false, false, false, false, false, false, false, false] rfl onlyN_noPanic (by kernel_rfl) (fun K hK => ?_); (go_simp; try go_bits); refine hK _ ?_; clear hK K
              refine wpR_rd 11 #[true, true, true, true, true, true, true, true, true, true, true, true, false, false, false, false, false, false, false, false] rfl onlyN_noPanic (by kernel_rfl) (fun K hK => ?_); (go_simp; try go_bits); refine hK _ ?_; clear hK K
              refine wpR_rd 12 #[true, true, true, true, true, true, true, true, true, true, true, true, true, false, false, false, false, false, false, false] rfl onlyN_noPanic (by kernel_rfl) (fun K hK => ?_); (go_simp; try go_bits); refine hK _ ?_; clear hK K
              refine wpR_read (i := 13) #[true, true, true, true, true, true, true, true, true, true, true, true, true, true, false, false, false, false, false, false] rfl onlyN_noPanic (by kernel_rfl) (.inl ⟨rfl, exec_load rfl rfl ld1⟩) ?_
              simp only [Act.put, List.setIfInBounds_toArray, List.set_cons_zero, List.set_cons_succ]
              refine wpR_rd 14 #[true, true, true, true, true, true, true, true, true, true, true, true, true, true, true, false, false, false, false, false] rfl onlyN_noPanic (by kernel_rfl) (fun K hK => ?_); (go_simp; try go_bits); refine hK _ ?_; clear hK K
              refine wpR_rd 15 #[true, true, true, true, true, true, true, true, true, true, true, true, true, true, true, true, false, false, false, false] rfl onlyN_noPanic (by kernel_rfl) (fun K hK => ?_); (go_simp; try go_bits); refine hK _ ?_; clear hK K
              refine wpR_rd 16 #[true, true, true, true, true, true, true, true, true, true, true, true, true, true, true, true, true, false, false, false] rfl onlyN_noPanic (by kernel_rfl) (fun K hK => ?_); (go_simp; try go_bits); refine hK _ ?_; clear hK K
              refine wpR_read (i := 17) #[true, true, true, true, true, true, true, true, true, true, true, true, true, true, true, true, true, true, false, false] rfl onlyN_noPanic (by kernel_rfl) (.inl ⟨rfl, exec_load rfl rfl ld4⟩) ?_
              simp only [Act.put, List.setIfInBounds_toArray, List.set_cons_zero, List.set_cons_succ]
              refine wpR_read (i := 18) #[true, true, true, true, true, true, true, true, true, true, true, true, true, true, true, true, true, true, true, false] rfl onlyN_noPanic (by kernel_rfl) (.inl ⟨rfl, exec_binop rfl rfl rfl (run_eqGuard_agg _ .neq 78 _ _ _ _ (by kernel_rfl)) ne2⟩) ?_
              simp only [Act.put, List.setIfInBounds_toArray, List.set_cons_zero, List.set_cons_succ]
              refine wpR_rd 19 #[true, true, true, true, true, true, true, true, true, true, true, true, true, true, true, true, true, true, true, true] rfl onlyN_noPanic (by kernel_rfl) (fun K hK => ?_); (go_simp; try go_bits); refine hK _ ?_; clear hK K
              refine wpR_done (by kernel_rfl) ?_ _
              simp only [OnlyN]
              go_wp2
              go_roundw
              case rel => exact ⟨k + 1, by go_num, by omega, HR2⟩
              case measure => simp [intOf]; omega
            · have hbad : c.bad = true := by unfold Cel.bad; simp [e1, e2]
              rw [hbad] at HSN
              simp only [if_true] at HSN
              rw [decide_eq_false e2] at ne2
              have HR2 := Aside.mk HR.out.drew
              obtain ⟨ln, hln⟩ : ∃ ln, ln = (out ++ spotsN f.name f.cs k).length := ⟨_, rfl⟩
              have hln2 : ln ≤ 200000 := by rw [hln, List.length_append]; omega
              rw [← hln] at HR2
              have HLN := Aside.mk hln
              generalize (b8s c.durable).toArray = D1 at *
              generalize (b8s c.synced).toArray = D2 at *
              generalize (b8s c.written).toArray = D3 at *
              obtain ⟨A3, c3, rfl, -, -⟩ := HR2.out.row_slice
              clear h5 hbackk HR hxf hcs hln
              go_wp2
              refine region_R [] [] (fun _ => True) #[false, false, false, false, false, false, false, false, false, false, false, false, false, false, false, false, false, false, false, false] (by kernel_rfl) rfl rfl ?_
              refine wpR_rd 0 #[true, false, false, false, false, false, false, false, false, false, false, false, false, false, false, false, false, false, false, false] rfl onlyN_noPanic (by kernel_rfl) (fun K hK => ?_); (go_simp; try go_bits); refine hK _ ?_; clear hK K
              refine wpR_rd 1 #[true, true, false, false, false, false, false, false, false, false, false, false, false, false, false, false, false, false, false, false] rfl onlyN_noPanic (by kernel_rfl) (fun K hK => ?_); (go_simp; try go_bits); refine hK _ ?_; clear hK K
              refine wpR_rd 2 #[true, true, true, false, false, false, false, false, false, false, false, false, false, false, false, false, false, false, false, false] rfl onlyN_noPanic (by kernel_rfl) (fun K hK => ?_); (go_simp; try go_bits); refine hK _ ?_; clear hK K
              refine wpR_read (i := 3) #[true, true, true, true, false, false, false, false, false, false, false, false, false, false, false, false, false, false, false, false] rfl onlyN_noPanic (by kernel_rfl) (.inl ⟨rfl, exec_load rfl rfl ld1⟩) ?_
              simp only [Act.put, List.setIfInBounds_toArray, List.set_cons_zero, List.set_cons_succ]
              refine wpR_rd 4 #[true, true, true, true, true, false, false, false, false, false, false, false, false, false, false, false, false, false, false, false] rfl onlyN_noPanic (by kernel_rfl) (fun K hK => ?_); (go_simp; try go_bits); refine hK _ ?_; clear hK K
              refine wpR_rd 5 #[true, true, true, true, true, true, false, false, false, false, false, false, false, false, false, false, false, false, false, false] rfl onlyN_noPanic (by kernel_rfl) (fun K hK => ?_); (go_simp; try go_bits); refine hK _ ?_; clear hK K
              refine wpR_rd 6 #[true, true, true, true, true, true, true, false, false, false, false, false, false, false, false, false, false, false, false, false] rfl onlyN_noPanic (by kernel_rfl) (fun K hK => ?_); (go_simp; try go_bits); refine hK _ ?_; clear hK K
              refine wpR_read (i := 7) #[true, true, true, true, true, true, true, true, false, false, false, false, false, false, false, false, false, false, false, false] rfl onlyN_noPanic (by kernel_rfl) (.inl ⟨rfl, exec_load rfl rfl ld2⟩) ?_
              simp only [Act.put, List.setIfInBounds_toArray, List.set_cons_zero, List.set_cons_succ]
              refine wpR_read (i := 8) #[true, true, true, true, true, true, true, true, true, false, false, false, false, false, false, false, false, false, false, false] rfl onlyN_noPanic (by kernel_rfl) (.inl ⟨rfl, exec_binop rfl rfl rfl (run_eqGuard_agg _ .neq 78 _ _ _ _ (by kernel_rfl)) ne1⟩) ?_
              simp only [Act.put, List.setIfInBounds_toArray, List.set_cons_zero, List.set_cons_succ]
              refine wpR_rd 9 #[true, true, true, true, true, true, true, true, true, true, false, false, false, false, false, false, false, false, false, false] rfl onlyN_noPanic (by kernel_rfl) (fun K hK => ?_); (go_simp; try go_bits); refine hK _ ?_; clear hK K
              refine wpR_rd 10 #[true, true, true, true, true, true, true, true, true, true, true, false, false, false, false, false, false, false, false, false] rfl onlyN_noPanic (by kernel_rfl) (fun K hK => ?_); (go_simp; try go_bits); refine hK _ ?_; clear hK K
              refine wpR_rd 11 #[true, true, true, true, true, true, true, true, true, true, true, true, false, false, false, false, false, false, false, false] rfl onlyN_noPanic (by kernel_rfl) (fun K hK => ?_); (go_simp; try go_bits); refine hK _ ?_; clear hK K
              refine wpR_rd 12 #[true, true, true, true, true, true, true, true, true, true, true, true, true, false, false, false, false, false, false, false] rfl onlyN_noPanic (by kernel_rfl) (fun K hK => ?_); (go_simp; try go_bits); refine hK _ ?_; clear hK K
              refine wpR_read (i := 13) #[true, true, true, true, true, true, true, true, true, true, true, true, true, true, false, false, false, false, false, false] rfl onlyN_noPanic (by kernel_rfl) (.inl ⟨rfl, exec_load rfl rfl ld1⟩) ?_
              simp only [Act.put, List.setIfInBounds_toArray, List.set_cons_zero, List.set_cons_succ]
              refine wpR_rd 14 #[true, true, true, true, true, true, true, true, true, true, true, true, true, true, true, false, false, false, false, false] rfl onlyN_noPanic (by kernel_rfl) (fun K hK => ?_); (go_simp; try go_bits); refine hK _ ?_; clear hK K
              refine wpR_rd 15 #[true, true, true, true, true, true, true, true, true, true, true, true, true, true, true, true, false, false, false, false] rfl onlyN_noPanic (by kernel_rfl) (fun K hK => ?_); (go_simp; try go_bits); refine hK _ ?_; clear hK K
              refine wpR_rd 16 #[true, true, true, true, true, true, true, true, true, true, true, true, true, true, true, true, true, false, false, false] rfl onlyN_noPanic (by kernel_rfl) (fun K hK => ?_); (go_simp; try go_bits); refine hK _ ?_; clear hK K
              refine wpR_read (i := 17) #[true, true, true, true, true, true, true, true, true, true, true, true, true, true, true, true, true, true, false, false] rfl onlyN_noPanic (by kernel_rfl) (.inl ⟨rfl, exec_load rfl rfl ld4⟩) ?_
              simp only [Act.put, List.setIfInBounds_toArray, List.set_cons_zero, List.set_cons_succ]
              refine wpR_read (i := 18) #[true, true, true, true, true, true, true, true, true, true, true, true, true, true, true, true, true, true, true, false] rfl onlyN_noPanic (by kernel_rfl) (.inl ⟨rfl, exec_binop rfl rfl rfl (run_eqGuard_agg _ .neq 78 _ _ _ _ (by kernel_rfl)) ne2⟩) ?_
              simp only [Act.put, List.setIfInBounds_toArray, List.set_cons_zero, List.set_cons_succ]
              refine wpR_rd 19 #[true, true, true, true, true, true, true, true, true, true, true, true, true, true, true, true, true, true, true, true] rfl onlyN_noPanic (by kernel_rfl) (fun K hK => ?_); (go_simp; try go_bits); refine hK _ ?_; clear hK K
              refine wpR_done (by kernel_rfl) ?_ _
              simp only [OnlyN]
              go_wp2_with (at_builtin; refine wpList_append_new slSp rfl rfl (by rfl) (by rfl) HR2.out (by rfl) (by rfl) (by unfold maxLen; omega) (by omega) (fun v5 w5 hw5 => ?_); obtain ⟨A5, c5, rfl, -, -⟩ := hw5.row_slice; have HW5 := Aside.mk hw5; clear hw5)
              refine ⟨⟨k + 1, by push_cast; rfl, by omega, ⟨by rw [HSN.out, ← List.append_assoc, List.flatMap_append, List.length_append, ← HLN.out]; exact HW5.out⟩⟩, ?_⟩
              simp only [intOf]
              omega
        · have hkn : k = n := by omega
          subst hkn
          have HT : Aside (Sat E wr (HP.pt g (.mapIter (some m) clock (seen.push e.born) clock) * (HP.row 37 2 u3 (out ++ spotsF (f.name, f.cs)).length ((out ++ spotsF (f.name, f.cs)).flatMap encSpot) * (HP.dk d A.room A.fuse m es clock fs * q)))) := ⟨by
            obtain ⟨hback, hset, -, -⟩ := HC.out
            have e1 : spotsF (f.name, f.cs) = spotsN f.name f.cs k := by unfold spotsF; rw [HN.out.2]
            rw [e1]
            have h8 := hback _ wr f.cels rfl (by rw [hvB, ← HN.out.1]; exact HR.out.perm (by ac_rfl : _ = HP.row 76 1 (.slice B k cc) k (celPtrs f.cels) * (HP.cels f.cels * (R0 * (HP.pt g (.mapIter (some m) clock (seen.push e.born) clock) * (HP.row 37 2 u3 (out ++ spotsN f.name f.cs k).length ((out ++ spotsN f.name f.cs k).flatMap encSpot) * q))))))
            rw [hset] at h8
            exact h8.perm (by ac_rfl)⟩
          have HO2 : Aside (((out ++ spotsF (f.name, f.cs)) ++ leftS es (seen.push e.born) fs).Perm A.damaged) := ⟨by
            rw [List.append_assoc]
            exact ((HC.out.2.2.1.symm).append_left out).trans HO.out⟩
          have HLS : Aside ((leftL es (seen.push e.born)).length < (leftL es seen).length) := ⟨left_less HM.out.2.2.2.2 HC.out.2.2.2⟩
          clear HR HC HFine HN HO
          go_wp2
          go_roundw
          case rel => exact ⟨seen.push e.born, clock, out ++ spotsF (f.name, f.cs), Nat.le_refl _, HO2, HT⟩
          case measure =>
            have h8 := HT.out.get
            rw [h8, HG1.out]
            exact HLS.out
end Go.Proofs.Ytjlfhfknnpjikaa
