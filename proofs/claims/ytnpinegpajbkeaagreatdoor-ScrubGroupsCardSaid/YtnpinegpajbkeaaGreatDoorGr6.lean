/- Texts of one claim, one behind the other: CmpA, DamC, DamS, ScrP, Itoa, Digits, Nms, ScrG, ScrH, ScGrP. -/
import Derived.Test.YtnpinegpajbkeaaGreatDoorGr5
import Derived.Laws.Cover1
import Derived.Sort.Grow
import Derived.Sort.Statements
import Derived.Test.YtnpinegpajbkeaaGreatDoorProg
import Derived.Shelf.Strconv.Itoa3
set_option linter.unusedSimpArgs false
set_option linter.unusedVariables false
namespace Go.Proofs.YtnpinegpajbkeaaGreatDoor
open Go.RowKit HP
def cmpS (a b : ByteArray) : Int := if ltN a b = true then -1 else if ltN b a = true then 1 else 0
def cmpI (a b : Int) : Int := if a < b then -1 else if b < a then 1 else 0
def orL (l : List Int) : Int := (l.find? (fun x => decide (x ≠ 0))).getD 0
set_option maxHeartbeats 1000000 in
theorem isNaN_str (a : ByteArray) (w : World) : Calls Tryz.prog 155 #[.string a] w fun e w' => e = .returned (.bool false) ∧ w' = w := by
  go_enter Tryz.func155, Tryz.ntmps155
  go_wp2
  go_ret
  exact ⟨rfl, rfl⟩
set_option maxHeartbeats 1000000 in
theorem isNaN_int (a : Int) (w : World) : Calls Tryz.prog 156 #[.int .i64 a] w fun e w' => e = .returned (.bool false) ∧ w' = w := by
  go_enter Tryz.func156, Tryz.ntmps156
  go_wp2
  go_ret
  exact ⟨rfl, rfl⟩
theorem gtr_less (a b : ByteArray) : (!(Op.bytesLess a.toList b.toList || a.toList == b.toList)) = Op.bytesLess b.toList a.toList := by
  by_cases h : a.toList = b.toList
  · rw [h, bytesLess_irrefl]; simp
  · cases h1 : Op.bytesLess a.toList b.toList with
    | true =>
      cases h2 : Op.bytesLess b.toList a.toList with
      | false => rfl
      | true =>
        have := bytesLess_trans h1 h2
        rw [bytesLess_irrefl] at this
        cases this
    | false => rw [bytesLess_total h1 h]; simp [h]
set_option maxHeartbeats 1000000 in
theorem compare_str (a b : ByteArray) (w : World) : Calls Tryz.prog 126 #[.string a, .string b] w fun e w' => e = .returned (.int .i64 (cmpS a b)) ∧ w' = w := by
  have hg := gtr_less a b
  go_enter Tryz.func126, Tryz.ntmps126
  go_wp2_with fail
  refine (isNaN_str a _).mono ?_
  rintro e w1 ⟨rfl, rfl⟩
  go_wp2_with fail
  refine (isNaN_str b _).mono ?_
  rintro e w1 ⟨rfl, rfl⟩
  go_wp2
  all_goals (go_ret; refine ⟨?_, rfl⟩; unfold cmpS ltN; rw [← hg]; simp_all)
set_option maxHeartbeats 1000000 in
theorem compare_int (a b : Int) (w : World) : Calls Tryz.prog 127 #[.int .i64 a, .int .i64 b] w fun e w' => e = .returned (.int .i64 (cmpI a b)) ∧ w' = w := by
  go_enter Tryz.func127, Tryz.ntmps127
  go_wp2_with fail
  refine (isNaN_int a _).mono ?_
  rintro e w1 ⟨rfl, rfl⟩
  go_wp2_with fail
  refine (isNaN_int b _).mono ?_
  rintro e w1 ⟨rfl, rfl⟩
  go_wp2
  all_goals (go_ret; refine ⟨?_, rfl⟩; unfold cmpI; first | (rw [if_pos (by omega)]; rfl) | (rw [if_neg (by omega), if_pos (by omega)]; rfl) | (rw [if_neg (by omega), if_neg (by omega)]; rfl))
set_option maxHeartbeats 1000000 in
theorem cmp_or2 (x y : Int) (A : Addr) (c : Nat) (w : World) (h : Cells w (some A) [.int .i64 x, .int .i64 y]) : Calls Tryz.prog 125 #[.slice (some A) 2 c] w fun e w' => e = .returned (.int .i64 (if x = 0 then y else x)) ∧ w' = w := by
  obtain ⟨g, o, rfl⟩ := slice_addr h rfl (k := 0) (by simp)
  have g0 : w.cell? ⟨g, o, none⟩ = some (.int .i64 x) := by
    obtain ⟨a, ha, hc⟩ := h.at_ 0 (by simp)
    cases ha
    exact hc
  have g1 : w.cell? ⟨g, o + 1, none⟩ = some (.int .i64 y) := by
    obtain ⟨a, ha, hc⟩ := h.at_ 1 (by simp)
    cases ha
    exact hc
  clear h
  go_enter Tryz.func125, Tryz.ntmps125
  go_wp2
  go_loopw [8] (fun v8 wr => ∃ k : Nat, k ≤ 2 ∧ v8 = .int .i64 k ∧ wr = w ∧ (0 < k → x = 0) ∧ (1 < k → y = 0)) (fun i _ => 2 - (intOf i).toNat)
  case atStart => exact ⟨0, by omega, rfl, rfl, by omega, by omega⟩
  case round =>
    obtain ⟨k, hk, rfl, rfl, hkx, hky⟩ := hrel
    have hc : k = 0 ∨ k = 1 ∨ k = 2 := by omega
    rcases hc with h0 | h0 | h0 <;> subst h0
    · clear hkx hky
      by_cases hx : x = 0
      · subst hx
        go_wp2
        go_roundw
        case rel => exact ⟨1, by omega, by simp, by simp, by simp, by simp⟩
        case measure => simp [intOf]
      · have hxb : (x == 0) = false := by rw [beq_eq_false_iff_ne]; exact hx
        go_wp2
        all_goals (go_ret; exact ⟨rfl, rfl⟩)
    · have hx := hkx (by omega)
      subst hx
      clear hkx hky
      by_cases hy : y = 0
      · subst hy
        go_wp2
        go_roundw
        case rel => exact ⟨2, by omega, by simp, by simp, by simp, by simp⟩
        case measure => simp [intOf]
      · have hyb : (y == 0) = false := by rw [beq_eq_false_iff_ne]; exact hy
        go_wp2
        all_goals (go_ret; exact ⟨rfl, rfl⟩)
    · have hx := hkx (by omega)
      have hy := hky (by omega)
      subst hx
      subst hy
      go_wp2
      go_ret
      exact ⟨rfl, rfl⟩
end Go.Proofs.YtnpinegpajbkeaaGreatDoor
namespace Go.Proofs.YtnpinegpajbkeaaGreatDoor
open Go.RowKit Go.Sort HP
def encSpot (x : ByteArray × Int) : List Value := [.string x.1, .int .i64 x.2]
def cmpSpot (x y : ByteArray × Int) : Int := if cmpS x.1 y.1 = 0 then cmpI x.2 y.2 else cmpS x.1 y.1
set_option maxHeartbeats 2000000 in
set_option maxRecDepth 100000 in
theorem damaged_cmp (s t : ByteArray) (i j : Int) (W : World) : Calls Tryz.prog 124 #[.agg #[.string s, .int .i64 i], .agg #[.string t, .int .i64 j]] W fun e w' => e = .returned (.int .i64 (if cmpS s t = 0 then cmpI i j else cmpS s t)) ∧ ∃ q os', w' = grow (W.drewN q) os' := by
  have a0 := fun k => Sat.cell (Sat.s2 ((((Sat.nothing (w := W)).alloc (.cells #[.string s, .int .i64 i] 68)).alloc (.cells #[.string t, .int .i64 j] 68)).drew)) k
  have a1 := fun k => Sat.cell ((((Sat.nothing (w := W)).alloc (.cells #[.string s, .int .i64 i] 68)).alloc (.cells #[.string t, .int .i64 j] 68)).drew) k
  rw [show (W.alloc (.cells #[.string s, .int .i64 i] 68)).heap.size = W.heap.size + 1 by simp] at a1
  have g0 := a0 0
  have g1 := a0 1
  have g2 := a1 0
  have g3 := a1 1
  simp only [List.getElem?_toArray, List.getElem?_cons_zero, List.getElem?_cons_succ] at g0 g1 g2 g3
  clear a0 a1
  have hcs := compare_str s t
  have hci := compare_int i j
  generalize cmpS s t = x at *
  generalize cmpI i j = y at *
  obtain ⟨z, hz⟩ : ∃ z, z = if x = 0 then y else x := ⟨_, rfl⟩
  rw [← hz]
  have HZ := Aside.mk hz
  clear hz
  go_enter Tryz.func124, Tryz.ntmps124
  go_wp2
  refine region_R [4, 9, 10, 11] [4, 9] (fun w => w = (((W.alloc (.cells #[.string s, .int .i64 i] 68)).alloc (.cells #[.string t, .int .i64 j] 68)).drew)) #[false, false, false, false, false, false, false, false, false, false, false, false, false] (by kernel_rfl) rfl rfl ?_
  refine wpR_rd 0 #[true, false, false, false, false, false, false, false, false, false, false, false, false] rfl onlyN_noPanic (by kernel_rfl) (fun K hK => ?_); (go_simp; try go_bits); refine hK _ ?_; clear hK K
  refine wpR_rd 1 #[true, true, false, false, false, false, false, false, false, false, false, false, false] rfl onlyN_noPanic (by kernel_rfl) (fun K hK => ?_); (go_simp; try go_bits); refine hK _ ?_; clear hK K
  refine wpR_rd 2 #[true, true, true, false, false, false, false, false, false, false, false, false, false] rfl onlyN_noPanic (by kernel_rfl) (fun K hK => ?_); (go_simp; try go_bits); refine hK _ ?_; clear hK K
  refine wpR_rd 3 #[true, true, true, true, false, false, false, false, false, false, false, false, false] rfl onlyN_noPanic (by kernel_rfl) (fun K hK => ?_); (go_simp; try go_bits); refine hK _ ?_; clear hK K
  refine wpR_pu 5 #[true, true, true, true, false, true, false, false, false, false, false, false, false] rfl onlyN_noPanic (by kernel_rfl) (fun K hK => ?_); (go_simp; try go_bits); refine hK _ ?_; clear hK K
  refine wpR_held (i := 6) (v := .int .i64 i) #[true, true, true, true, false, true, true, false, false, false, false, false, false] rfl onlyN_noPanic (by kernel_rfl) rfl (.inl ⟨rfl, fun w' hT => ?_⟩) ?_
  · subst hT; go_simp
  simp only [Act.put, List.setIfInBounds_toArray, List.set_cons_zero, List.set_cons_succ]
  refine wpR_pu 7 #[true, true, true, true, false, true, true, true, false, false, false, false, false] rfl onlyN_noPanic (by kernel_rfl) (fun K hK => ?_); (go_simp; try go_bits); refine hK _ ?_; clear hK K
  refine wpR_held (i := 8) (v := .int .i64 j) #[true, true, true, true, false, true, true, true, true, false, false, false, false] rfl onlyN_noPanic (by kernel_rfl) rfl (.inl ⟨rfl, fun w' hT => ?_⟩) ?_
  · subst hT; go_simp
  simp only [Act.put, List.setIfInBounds_toArray, List.set_cons_zero, List.set_cons_succ]
  refine wpR_keep #[true, true, true, true, true, true, true, true, true, false, false, false, false] (i := 4) rfl (by kernel_rfl) (fun K hK => ?_)
  go_simp; refine (hcs _).mono ?_; rintro e w5 ⟨rfl, hw5⟩; subst w5; refine hK _ _ rfl ?_; clear hK K
  refine wpR_keep #[true, true, true, true, true, true, true, true, true, true, false, false, false] (i := 9) rfl (by kernel_rfl) (fun K hK => ?_)
  go_simp; refine (hci _).mono ?_; rintro e w5 ⟨rfl, hw5⟩; subst w5; refine hK _ _ rfl ?_; clear hK K
  obtain ⟨W2, hW2⟩ : ∃ W2, W2 = (((W.alloc (.cells #[.string s, .int .i64 i] 68)).alloc (.cells #[.string t, .int .i64 j] 68)).drew) := ⟨_, rfl⟩
  rw [← hW2]
  have HW2 := Aside.mk hW2
  clear g0 g1 g2 g3 hW2
  refine wpR_eff #[true, true, true, true, true, true, true, true, true, true, true, false, false] (i := 10) rfl (by kernel_rfl) (fun K hK => ?_)
  go_simp; refine hK _ _ ?_; clear hK K
  have hc := Cells.fresh W2 [.int .i64 (x), .int .i64 (y)] 3 (0, 0)
  refine wpR_eff #[true, true, true, true, true, true, true, true, true, true, true, true, false] (i := 11) rfl (by kernel_rfl) (fun K hK => ?_)
  go_simp; refine (cmp_or2 (x) (y) _ _ _ hc).mono ?_; rintro e w5 ⟨rfl, hw5⟩; subst w5; rw [← HZ.out]; refine hK _ _ ?_; clear hK K
  refine wpR_rd 12 #[true, true, true, true, true, true, true, true, true, true, true, true, true] rfl onlyN_noPanic (by kernel_rfl) (fun K hK => ?_); (go_simp; try go_bits); refine hK _ ?_; clear hK K
  refine wpR_done (by kernel_rfl) ?_ _
  simp only [OnlyN]
  clear hc
  go_wp2
  go_ret
  refine ⟨rfl, 1, #[.cells #[.string s, .int .i64 i] 68, .cells #[.string t, .int .i64 j] 68, .cells #[.int .i64 x, .int .i64 y] 3], ?_⟩
  rw [HW2.out]
  simp only [alloc_eq_grow, drew_grow, grow_grow]
  rfl
def ltC {α : Type} (cf : α → α → Int) (x y : α) : Bool := decide (cf x y < 0)
theorem cmpS_zero {a b : ByteArray} : cmpS a b = 0 ↔ a = b := by
  unfold cmpS
  constructor
  · intro h
    split at h
    · omega
    · rename_i h1
      split at h
      · omega
      · rename_i h2
        by_cases e : a = b
        · exact e
        · exact absurd (ltN_total (by simpa using h1) e) h2
  · rintro rfl
    rw [ltN_irrefl]
    rfl
theorem ltSpot_iff (x y : ByteArray × Int) : ltC cmpSpot x y = true ↔ ltN x.1 y.1 = true ∨ x.1 = y.1 ∧ x.2 < y.2 := by
  unfold ltC cmpSpot
  rw [decide_eq_true_eq]
  by_cases e : x.1 = y.1
  · rw [if_pos (cmpS_zero.2 e), e, ltN_irrefl]
    unfold cmpI
    constructor
    · intro h
      refine .inr ⟨rfl, ?_⟩
      split at h
      · assumption
      · split at h <;> omega
    · rintro (h | ⟨-, h⟩)
      · cases h
      · rw [if_pos h]; omega
  · rw [if_neg (fun h => e (cmpS_zero.1 h))]
    unfold cmpS
    constructor
    · intro h
      left
      split at h
      · assumption
      · split at h <;> omega
    · rintro (h | ⟨h, -⟩)
      · rw [if_pos h]; omega
      · exact absurd h e
theorem ltSpot_irrefl (x : ByteArray × Int) : ltC cmpSpot x x = false := by
  rw [Bool.eq_false_iff]
  intro h
  rcases (ltSpot_iff x x).1 h with h | h
  · rw [ltN_irrefl] at h; cases h
  · omega
theorem ltSpot_trans {x y z : ByteArray × Int} (h1 : ltC cmpSpot x y = true) (h2 : ltC cmpSpot y z = true) : ltC cmpSpot x z = true := by
  rw [ltSpot_iff] at *
  rcases h1 with h1 | ⟨e1, h1⟩ <;> rcases h2 with h2 | ⟨e2, h2⟩
  · exact .inl (ltN_trans h1 h2)
  · exact .inl (by rw [← e2]; exact h1)
  · exact .inl (by rw [e1]; exact h2)
  · exact .inr ⟨e1.trans e2, by omega⟩
theorem ltSpot_total {x y : ByteArray × Int} (h1 : ltC cmpSpot x y = false) (h2 : ltC cmpSpot y x = false) : x = y := by
  have n1 : ¬ (ltN x.1 y.1 = true ∨ x.1 = y.1 ∧ x.2 < y.2) := fun h => by have := (ltSpot_iff x y).2 h; rw [h1] at this; cases this
  have n2 : ¬ (ltN y.1 x.1 = true ∨ y.1 = x.1 ∧ y.2 < x.2) := fun h => by have := (ltSpot_iff y x).2 h; rw [h2] at this; cases this
  have e : x.1 = y.1 := by
    by_cases e : x.1 = y.1
    · exact e
    · cases h : ltN x.1 y.1 with
      | true => exact (n1 (.inl h)).elim
      | false => exact (n2 (.inl (ltN_total h e))).elim
  have e2 : x.2 = y.2 := by
    rcases Int.lt_trichotomy x.2 y.2 with h | h | h
    · exact (n1 (.inr ⟨e, h⟩)).elim
    · exact h
    · exact (n2 (.inr ⟨e.symm, h⟩)).elim
  exact Prod.ext e e2
theorem ltSpot_ntrans {x y z : ByteArray × Int} (h1 : ltC cmpSpot x y = false) (h2 : ltC cmpSpot y z = false) : ltC cmpSpot x z = false := by
  cases h : ltC cmpSpot x z with
  | false => rfl
  | true =>
    cases h3 : ltC cmpSpot y x with
    | true =>
      have := ltSpot_trans h3 h
      rw [h2] at this; cases this
    | false =>
      obtain rfl := ltSpot_total h1 h3
      rw [h2] at h; cases h
theorem swo_spot : SWO (ltC cmpSpot) := ⟨ltSpot_irrefl, fun _ _ _ h1 h2 => ltSpot_trans h1 h2, fun _ _ _ h1 h2 => ltSpot_ntrans h1 h2⟩
def Cel.bad (c : Cel) : Bool := decide (c.durable ≠ c.synced) && decide (c.durable ≠ c.written)
def spotsN (s : ByteArray) (l : List Cel) : Nat → List (ByteArray × Int)
  | 0 => []
  | k + 1 => spotsN s l k ++ if (l[k]?).any Cel.bad = true then [(s, (k : Int))] else []
def spotsF (x : ByteArray × List Cel) : List (ByteArray × Int) := spotsN x.1 x.2 x.2.length
def Dk.damaged (A : Dk) : List (ByteArray × Int) := A.files.flatMap spotsF
theorem spotsN_mem {s : ByteArray} {l : List Cel} : ∀ {k : Nat} {x : ByteArray × Int}, x ∈ spotsN s l k → x.1 = s ∧ ∃ i : Nat, i < k ∧ x.2 = i ∧ (l[i]?).any Cel.bad = true
  | 0, x, h => by cases h
  | k + 1, x, h => by
    rcases List.mem_append.1 h with h | h
    · obtain ⟨h1, i, h2, h3⟩ := spotsN_mem h
      exact ⟨h1, i, by omega, h3⟩
    · split at h
      · rename_i hb
        obtain rfl := List.mem_singleton.1 h
        exact ⟨rfl, k, by omega, rfl, hb⟩
      · cases h
theorem spotsN_length (s : ByteArray) (l : List Cel) : ∀ k, (spotsN s l k).length ≤ k
  | 0 => Nat.le_refl _
  | k + 1 => by
    have := spotsN_length s l k
    rw [spotsN, List.length_append]
    split
    · simp; omega
    · simp; omega
theorem spotsN_sorted (s : ByteArray) (l : List Cel) : ∀ k, (spotsN s l k).Pairwise fun x y => ltC cmpSpot x y = true
  | 0 => List.Pairwise.nil
  | k + 1 => by
    rw [spotsN, List.pairwise_append]
    refine ⟨spotsN_sorted s l k, by split <;> simp, fun x hx y hy => ?_⟩
    split at hy
    · obtain rfl := List.mem_singleton.1 hy
      obtain ⟨h1, i, h2, h3, -⟩ := spotsN_mem hx
      exact (ltSpot_iff _ _).2 (.inr ⟨h1, by show x.2 < (k : Int); omega⟩)
    · cases hy
theorem damaged_sorted {A : Dk} (hs : Sorted A.files) : A.damaged.Pairwise fun x y => ltC cmpSpot x y = true := by
  unfold Dk.damaged
  rw [List.pairwise_flatMap]
  refine ⟨fun x _ => spotsN_sorted _ _ _, hs.imp fun {x y} h a ha b hb => ?_⟩
  obtain ⟨h1, -⟩ := spotsN_mem ha
  obtain ⟨h2, -⟩ := spotsN_mem hb
  exact (ltSpot_iff _ _).2 (.inl (by rw [h1, h2]; exact h))
theorem sorted_damaged {A : Dk} (hs : Sorted A.files) {l : List (ByteArray × Int)} (h : l.Perm A.damaged) : (l.mergeSort fun x y => !(ltC cmpSpot) y x) = A.damaged := by
  refine List.Perm.eq_of_pairwise (le := fun x y => (!(ltC cmpSpot) y x) = true) (fun a b _ _ h1 h2 => ?_) ?_ ?_ ((List.mergeSort_perm _ _).trans h)
  · simp only [Bool.not_eq_true'] at h1 h2
    exact ltSpot_total h2 h1
  · refine List.pairwise_mergeSort (fun a b c h1 h2 => ?_) (fun a b => ?_) l
    · simp only [Bool.not_eq_true'] at h1 h2 ⊢
      exact ltSpot_ntrans h2 h1
    · cases h1 : ltC cmpSpot b a with
      | false => rfl
      | true =>
        cases h2 : ltC cmpSpot a b with
        | false => rfl
        | true =>
          have := ltSpot_trans h1 h2
          rw [ltSpot_irrefl] at this; cases this
  · refine (damaged_sorted hs).imp fun {x y} h => ?_
    cases h2 : ltC cmpSpot y x with
    | false => rfl
    | true =>
      have := ltSpot_trans h h2
      rw [ltSpot_irrefl] at this; cases this
end Go.Proofs.YtnpinegpajbkeaaGreatDoor
namespace Go.Proofs.YtnpinegpajbkeaaGreatDoor
open Go.RowKit HP
structure Sgp where
  kind : Int
  name : ByteArray
  idx : Int
  gen : Int
deriving DecidableEq
def Sgp.vals (g : Sgp) : List Value := [.int .i64 g.kind, .string g.name, .int .i64 g.idx, .int .i64 g.gen]
def Sgp.ends (g : Sgp) : List ByteArray := if g.kind = 1 then [dotA, dotB] else if g.kind = 2 then [dot0, dot1, dot2, dotP] else []
def Sgp.spots (g : Sgp) : List (ByteArray × Int) := g.ends.map fun s => (g.name ++ s, g.idx)
def Sgp.right (A : Dk) (g : Sgp) (k : Nat) (f : ByteArray) : Bool :=
  match A.cel f g.idx with
  | none => false
  | some c => match openI c.read f g.idx with
    | none => false
    | some x => if g.kind = 2 then decide ((x.2 : Int) = g.gen) && (decide (x.1.length = 106) == decide (k = 3)) else true
def Sgp.badK (A : Dk) (g : Sgp) : Nat → Nat
  | 0 => 0
  | k + 1 => g.badK A k + (match g.ends[k]? with | none => 0 | some s => if g.right A k (g.name ++ s) = true then 0 else 1)
def Sgp.bad (A : Dk) (g : Sgp) : Nat := g.badK A g.ends.length
end Go.Proofs.YtnpinegpajbkeaaGreatDoor
namespace Go.Proofs.YtnpinegpajbkeaaGreatDoor
open Go.Shelf Go.RowKit HP
def laysItoa_ren : Go.Shelf.Ren := ⟨fun | 171 => 49 | 243 => 107 | 246 => 139 | 283 => 161 | 284 => 162 | 285 => 163 | 286 => 164 | 129 => 180 | 317 => 190 | 318 => 191 | 319 => 192 | 320 => 193 | 337 => 204 | 338 => 205 | n => n, fun | 3 => 3 | 9 => 9 | 2 => 2 | 4 => 4 | 171 => 219 | 0 => 0 | 53 => 167 | 37 => 43 | 5 => 5 | 173 => 222 | 212 => 245 | 51 => 168 | 20 => 20 | 213 => 246 | 46 => 50 | 232 => 264 | 233 => 265 | n => n, fun | 17 => 0 | 18 => 4 | 19 => 5 | n => n⟩
theorem laysItoa : Go.Proofs.LaysM.n171 Tryz.prog laysItoa_ren := {
  mixed := by kernel_rfl
  f129 := Tryz.func180.trans (congrArg some (by kernel_rfl))
  f171 := Tryz.func49.trans (congrArg some (by kernel_rfl))
  f243 := Tryz.func107.trans (congrArg some (by kernel_rfl))
  f246 := Tryz.func139.trans (congrArg some (by kernel_rfl))
  f283 := Tryz.func161.trans (congrArg some (by kernel_rfl))
  f284 := Tryz.func162.trans (congrArg some (by kernel_rfl))
  f285 := Tryz.func163.trans (congrArg some (by kernel_rfl))
  f286 := Tryz.func164.trans (congrArg some (by kernel_rfl))
  f317 := Tryz.func190.trans (congrArg some (by kernel_rfl))
  f318 := Tryz.func191.trans (congrArg some (by kernel_rfl))
  f319 := Tryz.func192.trans (congrArg some (by kernel_rfl))
  f320 := Tryz.func193.trans (congrArg some (by kernel_rfl))
  f337 := Tryz.func204.trans (congrArg some (by kernel_rfl))
  f338 := Tryz.func205.trans (congrArg some (by kernel_rfl))
  t0 := Tryz.underlying0
  a0 := Tryz.isAgg0
  z0 := Tryz.sizeOf0
  v0 := Tryz.zeroValue0
  t2 := Tryz.underlying2
  a2 := Tryz.isAgg2
  z2 := Tryz.sizeOf2
  v2 := Tryz.zeroValue2
  t3 := Tryz.underlying3
  a3 := Tryz.isAgg3
  z3 := Tryz.sizeOf3
  v3 := Tryz.zeroValue3
  t4 := Tryz.underlying4
  a4 := Tryz.isAgg4
  z4 := Tryz.sizeOf4
  v4 := Tryz.zeroValue4
  t5 := Tryz.underlying5
  a5 := Tryz.isAgg5
  z5 := Tryz.sizeOf5
  v5 := Tryz.zeroValue5
  t9 := Tryz.underlying9
  a9 := Tryz.isAgg9
  z9 := Tryz.sizeOf9
  v9 := Tryz.zeroValue9
  t20 := Tryz.underlying20
  a20 := Tryz.isAgg20
  z20 := Tryz.sizeOf20
  v20 := Tryz.zeroValue20
  t37 := Tryz.underlying43
  a37 := Tryz.isAgg43
  z37 := Tryz.sizeOf43
  v37 := Tryz.zeroValue43
  t46 := Tryz.underlying50
  a46 := Tryz.isAgg50
  z46 := Tryz.sizeOf50
  v46 := Tryz.zeroValue50
  t51 := Tryz.underlying168
  a51 := Tryz.isAgg168
  z51 := Tryz.sizeOf168
  v51 := Tryz.zeroValue168
  t53 := Tryz.underlying167
  a53 := Tryz.isAgg167
  z53 := Tryz.sizeOf167
  v53 := Tryz.zeroValue167
  t171 := Tryz.underlying219
  a171 := Tryz.isAgg219
  z171 := Tryz.sizeOf219
  v171 := Tryz.zeroValue219
  t173 := Tryz.underlying222
  a173 := Tryz.isAgg222
  z173 := Tryz.sizeOf222
  v173 := Tryz.zeroValue222
  t212 := Tryz.underlying245
  a212 := Tryz.isAgg245
  z212 := Tryz.sizeOf245
  v212 := Tryz.zeroValue245
  t213 := Tryz.underlying246
  a213 := Tryz.isAgg246
  z213 := Tryz.sizeOf246
  t232 := Tryz.underlying264
  a232 := Tryz.isAgg264
  z232 := Tryz.sizeOf264
  v232 := Tryz.zeroValue264
  t233 := Tryz.underlying265
  a233 := Tryz.isAgg265
  z233 := Tryz.sizeOf265
  v233 := Tryz.zeroValue265
  g17 := by kernel_rfl
  g18 := by kernel_rfl
  g19 := by kernel_rfl
  i0 := by kernel_rfl
  i2 := by kernel_rfl
  i3 := by kernel_rfl
  i4 := by kernel_rfl
  i5 := by kernel_rfl
  i9 := by kernel_rfl
  i20 := by kernel_rfl
  i37 := by kernel_rfl
  i46 := by kernel_rfl
  i51 := by kernel_rfl
  i53 := by kernel_rfl
  i171 := by kernel_rfl
  i173 := by kernel_rfl
  i212 := by kernel_rfl
  i232 := by kernel_rfl
  i233 := by kernel_rfl
  m17 := by kernel_rfl
  m18 := by kernel_rfl
  m19 := by kernel_rfl }
theorem Sat.grown {E : Env} {q : HP} : ∀ (l : List Obj) {w : World}, Sat E w q → Sat E (Go.Sort.grow w l.toArray) q
  | [], w, h => by
    have : Go.Sort.grow w ([] : List Obj).toArray = w := by simp [Go.Sort.grow]
    rw [this]; exact h
  | o :: l, w, h => by
    have h1 : Sat E (w.alloc o) q := (h.alloc o).right
    have h2 := Sat.grown l h1
    rw [Go.Sort.alloc_eq_grow, Go.Sort.grow_grow] at h2
    have e : #[o] ++ l.toArray = (o :: l).toArray := by simp
    rw [e] at h2; exact h2
theorem itoa_ok (E : Env) (q : HP) (n : Int) (w : World) (hn : wf64 n) (ht : ∀ w, Sat E w q → Lib.TabIs Tryz.prog w "internal/strconv.uint64pow10" .u64 Lib.pow10Tab) (hw : Sat E w q) :
    Calls Tryz.prog 49 #[.int .i64 n] w fun e w' => e = .returned (.string ⟨(Lib.itoa n).toArray⟩) ∧ Sat E w' q := by
  refine (Any.strconv_Itoa laysItoa n hn.1 hn.2 w (ht w hw)).mono ?_
  rintro e w' ⟨rfl, k, os, rfl⟩
  refine ⟨rfl, ?_⟩
  have := Sat.grown os.toList (hw.drewN (n := k))
  simpa using this
end Go.Proofs.YtnpinegpajbkeaaGreatDoor
namespace Go.Proofs.YtnpinegpajbkeaaGreatDoor
open Go.RowKit HP
def decB (m : Nat) : ByteArray := ⟨(Lib.decDigits m).toArray⟩
def digB (d : Nat) : ByteArray := ⟨#[UInt8.ofNat (48 + d)]⟩
theorem decB_small {m : Nat} (h : m < 10) : decB m = digB m := by
  unfold decB digB Lib.decDigits
  rw [dif_pos h]
theorem decB_more {m : Nat} (h : ¬ m < 10) : decB m = decB (m / 10) ++ digB (m % 10) := by
  unfold decB digB
  rw [Lib.decDigits, dif_neg h]
  apply ByteArray.ext
  simp
theorem dig_slice : ∀ d : Nat, d < 10 → ∀ w, (Instr.slice 9 (.string ⟨#[48, 49, 50, 51, 52, 53, 54, 55, 56, 57]⟩) (some (.int .i64 (d : Int))) (some (.int .i64 ((d : Int) + 1))) none).run Tryz.prog w = .ok (.string (digB d)) w
  | 0, _ => fun w => by kernel_rfl
  | 1, _ => fun w => by kernel_rfl
  | 2, _ => fun w => by kernel_rfl
  | 3, _ => fun w => by kernel_rfl
  | 4, _ => fun w => by kernel_rfl
  | 5, _ => fun w => by kernel_rfl
  | 6, _ => fun w => by kernel_rfl
  | 7, _ => fun w => by kernel_rfl
  | 8, _ => fun w => by kernel_rfl
  | 9, _ => fun w => by kernel_rfl
  | k + 10, h => by omega
theorem decB_size : ∀ (k u : Nat), u < 10 ^ (k + 1) → (decB u).size ≤ k + 1
  | 0, u, h => by rw [decB_small (by omega)]; exact Nat.le_refl _
  | k + 1, u, h => by
    by_cases h10 : u < 10
    · rw [decB_small h10]
      show 1 ≤ k + 1 + 1
      omega
    · rw [decB_more h10, ByteArray.size_append]
      have h2 : u / 10 < 10 ^ (k + 1) := by
        rw [Nat.pow_succ] at h
        omega
      have := decB_size k (u / 10) h2
      show _ + 1 ≤ k + 1 + 1
      omega
theorem app_assoc (a b c : ByteArray) : a ++ b ++ c = a ++ (b ++ c) := by
  apply ByteArray.ext
  simp [Array.append_assoc]
set_option maxHeartbeats 1000000 in
set_option maxRecDepth 100000 in
theorem digits_ok (n : Int) (w : World) (hn : wf64 n) :
    Calls Tryz.prog 108 #[.int .i64 n] w fun e w' => e = .returned (.string (decB n.toNat)) ∧ w' = w := by
  unfold wf64 at hn
  have hsz := decB_size 18 n.toNat (by omega)
  have HSZ := Aside.mk hsz
  clear hsz
  go_enter Tryz.func108, Tryz.ntmps108
  go_wp2
  go_loopw [0, 3] (fun v0 v3 wr => ∃ (m : Int) (s : ByteArray), v0 = .int .i64 m ∧ v3 = .string s ∧ m ≤ 9223372036854775807 ∧ Aside (decB m.toNat ++ s = decB n.toNat) ∧ wr = w) (fun i _ _ => (intOf i).toNat)
  case atStart => exact ⟨n, ⟨#[]⟩, rfl, rfl, hn.2, ⟨by apply ByteArray.ext; simp⟩, rfl⟩
  case round =>
    obtain ⟨m, s, rfl, rfl, hm, HS, hwr⟩ := hrel
    subst wr
    by_cases h10 : 10 ≤ m
    · obtain ⟨d, hd⟩ : ∃ d : Nat, m % 10 = (d : Int) := ⟨(m % 10).toNat, by omega⟩
      have sl := dig_slice d (by omega)
      have HS2 : Aside (decB (m / 10).toNat ++ (digB d ++ s) = decB n.toNat) := ⟨by
        rw [← HS.out, decB_more (m := m.toNat) (by omega), app_assoc, show (m / 10).toNat = m.toNat / 10 by omega, show d = m.toNat % 10 by omega]⟩
      have hmt : m.tmod 10 = (d : Int) := by rw [Int.tmod_eq_emod_of_nonneg (by omega)]; exact hd
      have hmd : m.tdiv 10 = m / 10 := Int.tdiv_eq_ediv_of_nonneg (by omega)
      have hd10 : (d : Int) < 10 := by omega
      have hss : (digB d).size + s.size ≤ 100 := by
        have e := congrArg ByteArray.size HS2.out
        simp only [ByteArray.size_append] at e
        have := HSZ.out
        omega
      obtain ⟨m2, hm2⟩ : ∃ m2, m2 = m / 10 := ⟨_, rfl⟩
      have HM : Aside (m2 ≤ 9223372036854775807 ∧ m2.toNat < m.toNat) := ⟨by omega, by omega⟩
      rw [← hm2] at HS2 hmd
      have hm3 : m / 10 = m2 := hm2.symm
      clear hm2
      go_wp2
      refine ⟨⟨m2, digB d ++ s, rfl, rfl, HM.out.1, HS2, by first | rfl | trivial⟩, ?_⟩
      simp only [intOf]
      exact HM.out.2
    · have HS2 : Aside (digB m.toNat ++ s = decB n.toNat) := ⟨by rw [← HS.out, decB_small (m := m.toNat) (by omega)]⟩
      obtain ⟨d, hd⟩ : ∃ d : Nat, d = m.toNat := ⟨_, rfl⟩
      rw [← hd] at HS2
      have hmx : max m 0 = (d : Int) := by omega
      have hmx2 : (if (0 : Int) > m then (0 : Int) else m) = (d : Int) := by split <;> omega
      have sl := dig_slice d (by omega)
      have hd10 : (d : Int) < 10 := by omega
      have hss : (digB d).size + s.size ≤ 100 := by
        have e := congrArg ByteArray.size HS2.out
        simp only [ByteArray.size_append] at e
        have := HSZ.out
        omega
      clear hd
      go_wp2
      go_ret
      rw [← HS2.out]
      exact ⟨rfl, rfl⟩
def mB : ByteArray := ⟨#[109]⟩
def tB : ByteArray := ⟨#[116]⟩
theorem itoa_nat (d : Nat) : (⟨(Lib.itoa (d : Int)).toArray⟩ : ByteArray) = decB d := by
  unfold Lib.itoa decB
  rw [if_neg (by omega), Int.toNat_natCast]
set_option maxHeartbeats 1000000 in
set_option maxRecDepth 100000 in
theorem names_ok (E : Env) (q : HP) (n : Int) (w : World) (hn : wf64 n) (ht : ∀ w, Sat E w q → Lib.TabIs Tryz.prog w "internal/strconv.uint64pow10" .u64 Lib.pow10Tab) (hw : Sat E w q) :
    Calls Tryz.prog 47 #[.int .i64 n] w fun e w' => e = .returned (.tuple #[.string (mB ++ decB n.toNat), .string (tB ++ decB n.toNat)]) ∧ Sat E w' q := by
  obtain ⟨d, hd⟩ : ∃ d : Nat, d = n.toNat := ⟨_, rfl⟩
  have hmx : max n 0 = (d : Int) := by omega
  have hmx2 : (if (0 : Int) > n then (0 : Int) else n) = (d : Int) := by split <;> omega
  unfold wf64 at hn
  have hsz := decB_size 18 d (by omega)
  have HI := Aside.mk (itoa_ok E q (d : Int) w ⟨by omega, by omega⟩ ht hw)
  rw [← hd]
  have hs1 : mB.size + (decB d).size ≤ 100 := by show 1 + (decB d).size ≤ 100; omega
  have hs2 : tB.size + (decB d).size ≤ 100 := by show 1 + (decB d).size ≤ 100; omega
  have hs3 : 1 + (decB d).size ≤ 100 := by omega
  clear ht hw hd hn hsz
  go_enter Tryz.func47, Tryz.ntmps47
  go_wp2_with fail
  refine HI.out.mono ?_
  rintro e w1 ⟨rfl, h1⟩
  rw [itoa_nat]
  have H1 := Aside.mk h1
  clear h1 HI
  go_wp2
  go_ret2
  exact ⟨rfl, H1.out⟩
set_option maxHeartbeats 1000000 in
set_option maxRecDepth 100000 in
theorem refnames_ok (n : Int) (w : World) (hn : wf64 n) :
    Calls Tryz.prog 52 #[.int .i64 n] w fun e w' => e = .returned (.tuple #[.string (mB ++ decB n.toNat), .string (tB ++ decB n.toNat)]) ∧ w' = w := by
  have HI := Aside.mk (digits_ok n w hn)
  unfold wf64 at hn
  obtain ⟨d, hd⟩ : ∃ d : Nat, d = n.toNat := ⟨_, rfl⟩
  have hsz := decB_size 18 d (by omega)
  rw [← hd] at HI ⊢
  have hs3 : 1 + (decB d).size ≤ 100 := by omega
  clear hd hn hsz
  go_enter Tryz.func52, Tryz.ntmps52
  go_wp2_with fail
  refine HI.out.mono ?_
  rintro e w1 ⟨rfl, hw1⟩
  subst w1
  go_wp2_with fail
  refine HI.out.mono ?_
  rintro e w1 ⟨rfl, hw1⟩
  subst w1
  go_wp2
  go_ret2
  exact ⟨rfl, rfl⟩
def wB : ByteArray := ⟨#[119]⟩
def nameW (seg : Int) : ByteArray := wB ++ decB seg.toNat
set_option maxHeartbeats 1000000 in
set_option maxRecDepth 100000 in
theorem wal_name (E : Env) (q : HP) (n : Int) (w : World) (hn : wf64 n) (ht : ∀ w, Sat E w q → Lib.TabIs Tryz.prog w "internal/strconv.uint64pow10" .u64 Lib.pow10Tab) (hw : Sat E w q) :
    Calls Tryz.prog 48 #[.int .i64 n] w fun e w' => e = .returned (.string (nameW n)) ∧ Sat E w' q := by
  obtain ⟨d, hd⟩ : ∃ d : Nat, d = n.toNat := ⟨_, rfl⟩
  have hmx : max n 0 = (d : Int) := by omega
  have hmx2 : (if (0 : Int) > n then (0 : Int) else n) = (d : Int) := by split <;> omega
  unfold wf64 at hn
  have hsz := decB_size 18 d (by omega)
  have HI := Aside.mk (itoa_ok E q (d : Int) w ⟨by omega, by omega⟩ ht hw)
  have HN : Aside (nameW n = wB ++ decB d) := ⟨by unfold nameW; rw [hd]⟩
  have hs3 : 1 + (decB d).size ≤ 100 := by omega
  clear ht hw hd hn hsz
  go_enter Tryz.func48, Tryz.ntmps48
  go_wp2_with fail
  refine HI.out.mono ?_
  rintro e w1 ⟨rfl, h1⟩
  rw [itoa_nat]
  have H1 := Aside.mk h1
  clear h1 HI
  go_wp2
  go_ret
  rw [HN.out]
  exact ⟨rfl, H1.out⟩
set_option maxHeartbeats 1000000 in
set_option maxRecDepth 100000 in
theorem ref_wname (n : Int) (w : World) (hn : wf64 n) :
    Calls Tryz.prog 54 #[.int .i64 n] w fun e w' => e = .returned (.string (nameW n)) ∧ w' = w := by
  have HI := Aside.mk (digits_ok n w hn)
  unfold wf64 at hn
  obtain ⟨d, hd⟩ : ∃ d : Nat, d = n.toNat := ⟨_, rfl⟩
  have hsz := decB_size 18 d (by omega)
  have HN : Aside (nameW n = wB ++ decB d) := ⟨by unfold nameW; rw [hd]⟩
  rw [← hd] at HI
  have hs3 : 1 + (decB d).size ≤ 100 := by omega
  clear hd hn hsz
  go_enter Tryz.func54, Tryz.ntmps54
  go_wp2_with fail
  refine HI.out.mono ?_
  rintro e w1 ⟨rfl, hw1⟩
  subst w1
  go_wp2
  go_ret
  rw [HN.out]
  exact ⟨rfl, rfl⟩
structure Ftr where
  number : Int
  gen : Int
  level : Int
  rank : Int
  mn : Int
  mx : Int
  bytes : Int
  pA : Option Addr
  pn : Nat
  pc : Nat
def Ftr.vals (f : Ftr) : List Value := [.int .i64 f.number, .int .i64 f.gen, .int .i64 f.level, .int .i64 f.rank, .int .i64 f.mn, .int .i64 f.mx, .int .i64 f.bytes, .slice f.pA f.pn f.pc]
def Ftr.ok (f : Ftr) : Bool := decide (0 ≤ f.bytes) && decide (f.bytes ≤ 2147483647) && decide (1 ≤ f.number)
def pairsG (name : ByteArray) (n : Nat) : List Sgp := (List.range n).map fun i : Nat => ⟨1, name, i, 0⟩
def stripesG (name : ByteArray) (n : Nat) (gen : Int) : List Sgp := (List.range n).map fun i : Nat => ⟨2, name, i, gen⟩
def longN (A : Dk) (name : ByteArray) : Nat := max 1 (max (A.at (name ++ dotA)).length (A.at (name ++ dotB)).length)
def fB : ByteArray := ⟨#[102]⟩
def iB : ByteArray := ⟨#[105]⟩
def cB : ByteArray := ⟨#[99]⟩
def anchorS : ByteArray := ⟨#[97, 110, 99, 104, 111, 114]⟩
def ftG (A : Dk) (f : Ftr) : List Sgp := pairsG (fB ++ decB f.number.toNat) 1 ++ (pairsG (iB ++ decB f.number.toNat) (longN A (iB ++ decB f.number.toNat)) ++ stripesG (cB ++ decB f.number.toNat) (groupsI f.bytes).toNat f.gen)
def groupsG (A : Dk) (a : Anch) (l : List Ftr) : List Sgp :=
  if canA a = true ∧ a.ext ≤ 2147483647 ∧ l.all Ftr.ok = true then
    pairsG anchorS 1 ++ (pairsG (mB ++ decB a.gen.toNat) (longN A (mB ++ decB a.gen.toNat)) ++ (pairsG (tB ++ decB a.gen.toNat) (longN A (tB ++ decB a.gen.toNat)) ++ (pairsG (nameW a.seg) a.ext.toNat ++ l.flatMap (ftG A))))
  else []
def HP.gs (bO : Nat) (gs : List Sgp) : HP := HP.ex fun v => HP.pt bO (.cells #[v] 35) * HP.row 37 4 v gs.length (gs.flatMap Sgp.vals)
theorem slGrp : SlTy Tryz.prog 35 37 (.agg #[.int .i64 0, .string ⟨#[]⟩, .int .i64 0, .int .i64 0]) 4 40 := ⟨Tryz.underlying35, by kernel_rfl, rfl, by decide⟩
theorem Sat.gs_open {E : Env} {w : World} {q : HP} {bO : Nat} {gs : List Sgp} (h : Sat E w (HP.gs bO gs * q)) : ∃ v, Sat E w (HP.row 37 4 v gs.length (gs.flatMap Sgp.vals) * (HP.pt bO (.cells #[v] 35) * q)) := by
  obtain ⟨v, h⟩ := h.ex_elim
  exact ⟨v, h.perm (by ac_rfl)⟩
theorem Sat.gs_close {E : Env} {w : World} {q : HP} {bO : Nat} {gs : List Sgp} {v : Value} {n : Nat} {cs : List Value} (hn : n = gs.length) (hc : cs = gs.flatMap Sgp.vals) (h : Sat E w (HP.row 37 4 v n cs * (HP.pt bO (.cells #[v] 35) * q))) : Sat E w (HP.gs bO gs * q) := by
  subst hn hc
  exact Sat.ex_intro (f := fun v => HP.pt bO (.cells #[v] 35) * HP.row 37 4 v gs.length (gs.flatMap Sgp.vals)) v (h.perm (by ac_rfl))
theorem pairsG_step (name : ByteArray) (k : Nat) : pairsG name (k + 1) = pairsG name k ++ [⟨1, name, k, 0⟩] := by
  unfold pairsG; rw [List.range_succ, List.map_append]; rfl
theorem stripesG_step (name : ByteArray) (k : Nat) (gen : Int) : stripesG name (k + 1) gen = stripesG name k gen ++ [⟨2, name, k, gen⟩] := by
  unfold stripesG; rw [List.range_succ, List.map_append]; rfl
theorem pairsG_length (name : ByteArray) (n : Nat) : (pairsG name n).length = n := by unfold pairsG; rw [List.length_map, List.length_range]
theorem stripesG_length (name : ByteArray) (n : Nat) (gen : Int) : (stripesG name n gen).length = n := by unfold stripesG; rw [List.length_map, List.length_range]
set_option maxHeartbeats 4000000 in
set_option maxRecDepth 100000 in
theorem groups_pairs (E : Env) (q : HP) (bO : Nat) (gs : List Sgp) (name : ByteArray) (n : Nat) (w : World) (hs : gs.length + n ≤ 4000000) (hw : Sat E w (HP.gs bO gs * q)) :
    Calls Tryz.prog 45 #[.string name, .int .i64 n, .pointer (some ⟨bO, 0, none⟩)] w fun e w' => e = .returned (.tuple #[]) ∧ Sat E w' (HP.gs bO (gs ++ pairsG name n) * q) := by
  have H0 : Aside (Sat E w (HP.gs bO (gs ++ pairsG name 0) * q)) := ⟨by rw [show pairsG name 0 = [] from rfl, List.append_nil]; exact hw⟩
  obtain ⟨z, hz⟩ : ∃ z, z = gs.length := ⟨_, rfl⟩
  rw [← hz] at hs
  have HZ := Aside.mk hz
  clear hw hz
  go_enter Tryz.func45, Tryz.ntmps45
  go_wp2
  go_loopw [7] (fun v7 wr => ∃ k : Nat, v7 = .int .i64 k ∧ k ≤ n ∧ Aside (Sat E wr (HP.gs bO (gs ++ pairsG name k) * q))) (fun x _ => n - (intOf x).toNat)
  case atStart => exact ⟨0, rfl, Nat.zero_le _, H0⟩
  case round =>
    clear H0
    obtain ⟨k, rfl, hk, HS⟩ := hrel
    by_cases hlt : k < n
    · have hlt1 : (k : Int) < (n : Int) := by omega
      obtain ⟨v, h1⟩ := HS.out.gs_open
      obtain ⟨Av, cv, rfl, -, -⟩ := h1.row_slice
      have hl : (gs ++ pairsG name k).length = z + k := by rw [List.length_append, pairsG_length, HZ.out]
      rw [hl] at h1
      obtain ⟨L, hL⟩ : ∃ L, L = (gs ++ pairsG name k).flatMap Sgp.vals := ⟨_, rfl⟩
      rw [← hL] at h1
      have HL := Aside.mk hL
      have b0 := h1.s2.cell1
      have H1 := Aside.mk h1
      obtain ⟨zk, hzk⟩ : ∃ zk, zk = z + k := ⟨_, rfl⟩
      have hzk1 : zk ≤ 3999999 := by omega
      rw [← hzk] at H1 b0
      have HK := Aside.mk hzk
      clear hL hl h1 HS hzk
      go_wp2_with (at_builtin; refine wpList_append_new slGrp rfl rfl (by rfl) (by rfl) H1.out (by rfl) (by rfl) (by unfold maxLen; omega) (by omega) (fun v5 w5 hw5 => ?_); obtain ⟨A5, c5, rfl, -, -⟩ := hw5.row_slice; have b5 := hw5.s2.cell1; have t5 := hw5.s2.thaw 0; have HW5 := Aside.mk hw5; clear hw5)
      have H6 : Aside (Sat E _ (HP.gs bO (gs ++ pairsG name (k + 1)) * q)) := ⟨Sat.gs_close (n := zk + 1) (by rw [List.length_append, pairsG_length, ← HZ.out, HK.out]; omega) (by rw [pairsG_step, ← List.append_assoc, List.flatMap_append, ← HL.out]; rfl) (HW5.out.s2.set1 (.slice A5 (zk + 1) c5)).s2⟩
      clear HW5 H1 b0 b5 t5
      go_roundw
      case rel => exact ⟨k + 1, by go_num, by omega, H6⟩
      case measure => simp [intOf]; omega
    · obtain rfl : k = n := by omega
      have hkk : ¬ (k : Int) < (k : Int) := by omega
      go_wp2
      exact ⟨rfl, .tuple #[], by first | rfl | (unfold results; rw [show Tryz.f45.results = #[] by kernel_rfl]; simp), rfl, HS.out⟩
set_option maxHeartbeats 4000000 in
set_option maxRecDepth 100000 in
theorem groups_long (E : Env) (q : HP) (d bD : Nat) (A : Dk) (name : ByteArray) (w : World) (hn : name.size + 2 ≤ maxLen) (hw : Sat E w (HP.disk d A * (HP.pt bD (.cells #[.pointer (some ⟨d, 0, none⟩)] 26) * q))) :
    Calls Tryz.prog 46 #[.string name, .pointer (some ⟨bD, 0, none⟩)] w fun e w' => e = .returned (.int .i64 (longN A name)) ∧ Sat E w' (HP.disk d A * (HP.pt bD (.cells #[.pointer (some ⟨d, 0, none⟩)] 26) * q)) := by
  have hn2 : name.size + 2 ≤ 9223372036854775807 := by unfold maxLen at hn; omega
  have hn3 : ¬ 9223372036854775807 < name.size + 2 := by omega
  have HX : Aside (∀ x : ByteArray, x.size = 2 → Calls Tryz.prog 35 #[.pointer (some ⟨d, 0, none⟩), .string (name ++ x)] w.drew fun e w' => e = .returned (.int .i64 ((A.at (name ++ x)).length : Int)) ∧ w' = w.drew) := ⟨fun x hx => disk_extents E _ d A (name ++ x) _ (by rw [ByteArray.size_append, hx]; exact hn) hw.drew⟩
  have HX1 := Aside.mk (HX.out dotA rfl)
  have HX2 := Aside.mk (HX.out dotB rfl)
  have HF := hw.disk_fine
  have ha := at_small HF (name ++ dotA)
  have hb := at_small HF (name ++ dotB)
  have HL : Aside (longN A name = max 1 (max (A.at (name ++ dotA)).length (A.at (name ++ dotB)).length)) := ⟨rfl⟩
  obtain ⟨x, hx⟩ : ∃ x, x = (A.at (name ++ dotA)).length := ⟨_, rfl⟩
  obtain ⟨y, hy⟩ : ∃ y, y = (A.at (name ++ dotB)).length := ⟨_, rfl⟩
  rw [← hx] at HX1 HL ha
  rw [← hy] at HX2 HL hb
  have b0 := hw.drew.s2.cell1
  have H0 := Aside.mk hw.drew
  obtain ⟨r, hr⟩ : ∃ r, r = longN A name := ⟨_, rfl⟩
  rw [← hr] at HL ⊢
  clear HX HF hw hx hy hr hn
  unfold dotA at HX1
  unfold dotB at HX2
  go_enter Tryz.func46, Tryz.ntmps46
  go_wp2
  refine region_R [3, 7] [3] (fun W => W = w.drew) #[false, false, false, false, false, false, false, false, false, false] (by kernel_rfl) rfl rfl ?_
  refine wpR_rd 0 #[true, false, false, false, false, false, false, false, false, false] rfl onlyN_noPanic (by kernel_rfl) (fun K hK => ?_); (go_simp; try go_bits); refine hK _ ?_; clear hK K
  refine wpR_rd 1 #[true, true, false, false, false, false, false, false, false, false] rfl onlyN_noPanic (by kernel_rfl) (fun K hK => ?_); (go_simp; try go_bits); refine hK _ ?_; clear hK K
  refine wpR_rd 2 #[true, true, true, false, false, false, false, false, false, false] rfl onlyN_noPanic (by kernel_rfl) (fun K hK => ?_); (go_simp; try go_bits); refine hK _ ?_; clear hK K
  refine wpR_held (i := 4) (v := .pointer (some ⟨d, 0, none⟩)) #[true, true, true, false, true, false, false, false, false, false] rfl onlyN_noPanic (by kernel_rfl) (by go_simp) (.inl ⟨rfl, fun w' hT => ?_⟩) ?_
  · subst hT; go_simp
  simp only [Act.put, List.setIfInBounds_toArray, List.set_cons_zero, List.set_cons_succ]
  refine wpR_pu 5 #[true, true, true, false, true, true, false, false, false, false] rfl onlyN_noPanic (by kernel_rfl) (fun K hK => ?_); (go_simp; try go_bits); refine hK _ ?_; clear hK K
  refine wpR_pu 6 #[true, true, true, false, true, true, true, false, false, false] rfl onlyN_noPanic (by kernel_rfl) (fun K hK => ?_); (go_simp; try go_bits); refine hK _ ?_; clear hK K
  refine wpR_keep #[true, true, true, true, true, true, true, false, false, false] (i := 3) rfl (by kernel_rfl) (fun K hK => ?_)
  go_simp; refine (HX1.out).mono ?_; rintro e w5 ⟨rfl, hw5⟩; subst w5; refine hK _ _ rfl ?_; clear hK K
  refine wpR_eff #[true, true, true, true, true, true, true, true, false, false] (i := 7) rfl (by kernel_rfl) (fun K hK => ?_)
  go_simp; refine (HX2.out).mono ?_; rintro e w5 ⟨rfl, hw5⟩; subst w5; refine hK _ _ ?_; clear hK K
  refine wpR_rd 8 #[true, true, true, true, true, true, true, true, true, false] rfl onlyN_noPanic (by kernel_rfl) (fun K hK => ?_); (go_simp; try go_bits); refine hK _ ?_; clear hK K
  refine wpR_rd 9 #[true, true, true, true, true, true, true, true, true, true] rfl onlyN_noPanic (by kernel_rfl) (fun K hK => ?_); (go_simp; try go_bits); refine hK _ ?_; clear hK K
  refine wpR_done (by kernel_rfl) ?_ _
  simp only [OnlyN]
  go_wp2
  all_goals
    go_ret
    refine ⟨?_, H0.out⟩
    refine congrArg (fun z : Int => Ending.returned (Value.int .i64 z)) ?_
    have hr : 1 ≤ r ∧ x ≤ r ∧ y ≤ r ∧ (r = 1 ∨ r = x ∨ r = y) := by have := HL.out; omega
    clear HX1 HX2 b0 H0 HL hn2 hn3
    by_cases h1 : (1 : Int) < (x : Int)
    · have h2 : 2 ≤ x := by omega
      simp only [h1, if_true, if_false] at * <;> omega
    · have h2 : x ≤ 1 := by omega
      simp only [h1, if_true, if_false] at * <;> omega
set_option maxHeartbeats 2000000 in
set_option maxRecDepth 100000 in
theorem groups_wrong (E : Env) (q : HP) (f : Ftr) (w : World) (hw : Sat E w q) :
    Calls Tryz.prog 41 #[.agg #[.int .i64 f.number, .int .i64 f.gen, .int .i64 f.level, .int .i64 f.rank, .int .i64 f.mn, .int .i64 f.mx, .int .i64 f.bytes, .slice f.pA f.pn f.pc]] w fun e w' => e = .returned (.bool (!f.ok)) ∧ Sat E w' q := by
  have h1 := hw.alloc (.cells #[.int .i64 f.number, .int .i64 f.gen, .int .i64 f.level, .int .i64 f.rank, .int .i64 f.mn, .int .i64 f.mx, .int .i64 f.bytes, .slice f.pA f.pn f.pc] 33)
  have k0 := h1.cell 0
  have k6 := h1.cell 6
  simp only [List.getElem?_toArray, List.getElem?_cons_zero, List.getElem?_cons_succ] at k0 k6
  have H1 := Aside.mk h1.right
  have HO : Aside (f.ok = (decide (0 ≤ f.bytes) && decide (f.bytes ≤ 2147483647) && decide (1 ≤ f.number))) := ⟨rfl⟩
  clear hw h1
  by_cases h0 : f.bytes < 0
  · have HR : Aside (f.ok = false) := ⟨by rw [HO.out, decide_eq_false (by omega)]; rfl⟩
    clear HO
    rw [HR.out]
    go_enter Tryz.func41, Tryz.ntmps41
    go_wp2
    go_ret
    exact ⟨rfl, H1.out⟩
  · by_cases h2 : 2147483647 < f.bytes
    · have HR : Aside (f.ok = false) := ⟨by rw [HO.out, decide_eq_true (show 0 ≤ f.bytes by omega), decide_eq_false (show ¬ f.bytes ≤ 2147483647 by omega)]; rfl⟩
      clear HO
      rw [HR.out]
      go_enter Tryz.func41, Tryz.ntmps41
      go_wp2
      go_ret
      exact ⟨rfl, H1.out⟩
    · by_cases h3 : f.number < 1
      · have HR : Aside (f.ok = false) := ⟨by rw [HO.out, decide_eq_true (show 0 ≤ f.bytes by omega), decide_eq_true (show f.bytes ≤ 2147483647 by omega), decide_eq_false (show ¬ 1 ≤ f.number by omega)]; rfl⟩
        clear HO
        rw [HR.out]
        go_enter Tryz.func41, Tryz.ntmps41
        go_wp2
        go_ret
        exact ⟨rfl, H1.out⟩
      · have HR : Aside (f.ok = true) := ⟨by rw [HO.out, decide_eq_true (show 0 ≤ f.bytes by omega), decide_eq_true (show f.bytes ≤ 2147483647 by omega), decide_eq_true (show 1 ≤ f.number by omega)]; rfl⟩
        clear HO
        rw [HR.out]
        go_enter Tryz.func41, Tryz.ntmps41
        go_wp2
        go_ret
        exact ⟨rfl, H1.out⟩
theorem ftr_at {w : World} {A : Option Addr} {l : List Ftr} (h : Cells w A (l.flatMap Ftr.vals)) {k : Nat} {x : Ftr} (hk : l[k]? = some x) : ∃ g o, A = some ⟨g, o, none⟩ ∧ ∀ j v, x.vals[j]? = some v → w.cell? ⟨g, o + k * 8 + j, none⟩ = some v := by
  have g0 := flat_get Ftr.vals 8 l (fun _ => rfl) k 0 x hk (by omega)
  obtain ⟨a, ha, -⟩ := h _ _ g0
  obtain ⟨g, o, rfl⟩ : ∃ g o, a = ⟨g, o, none⟩ := slice_addr h ha (List.getElem?_eq_some_iff.1 g0).1
  subst ha
  refine ⟨g, o, rfl, fun j u hj => ?_⟩
  have hj2 : j < 8 := (List.getElem?_eq_some_iff.1 hj).1
  have := h.some_ (k * 8 + j) u (by rw [flat_get Ftr.vals 8 l (fun _ => rfl) k j x hk hj2]; exact hj)
  rw [addr_add] at this
  rw [show o + k * 8 + j = o + (k * 8 + j) by omega]
  exact this
theorem okAll_take {l : List Ftr} {k : Nat} {x : Ftr} (hx : l[k]? = some x) : (l.take (k + 1)).all Ftr.ok = ((l.take k).all Ftr.ok && x.ok) := by
  rw [List.take_add_one, hx, List.all_append]
  simp
set_option maxHeartbeats 2000000 in
set_option maxRecDepth 100000 in
theorem ftr_index (E : Env) (q : HP) (A : Option Addr) (l : List Ftr) (n c : Nat) (w : World) (hln : l.length = n) (hm : n ≤ 4611686018427387904) (hq : ∀ w, Sat E w q → Cells w A (l.flatMap Ftr.vals)) (hw : Sat E w q) :
    Calls Tryz.prog 106 #[.slice A n c, .func (.func 41) #[] #[]] w fun e w' => (∃ i : Int, e = .returned (.int .i64 i) ∧ (if 0 ≤ i then l.all Ftr.ok = false else l.all Ftr.ok = true)) ∧ Sat E w' q := by
  have HL := Aside.mk (And.intro hln hq)
  have H0 := Aside.mk hw
  clear hln hq hw
  go_enter Tryz.func106, Tryz.ntmps106
  go_wp2
  go_loopw [8] (fun v8 wr => ∃ k : Nat, k ≤ n ∧ v8 = .int .i64 k ∧ Aside ((l.take k).all Ftr.ok = true) ∧ Aside (Sat E wr q)) (fun i _ => n - (intOf i).toNat)
  case atStart => exact ⟨0, by omega, rfl, ⟨rfl⟩, H0⟩
  case round =>
    clear H0
    obtain ⟨k, hk, rfl, HB, HS⟩ := hrel
    by_cases hlt : k < n
    · have hlt2 : (k : Int) < n := by omega
      have hlt0 : (0 : Int) ≤ (k : Int) := by omega
      have hkl : k < l.length := by rw [HL.out.1]; exact hlt
      obtain ⟨x, hx⟩ : ∃ x, l[k]? = some x := ⟨_, List.getElem?_eq_getElem hkl⟩
      obtain ⟨g, o, rfl, gx⟩ := ftr_at (HL.out.2 _ HS.out) hx
      have c0 : wr.cell? ⟨g, o + k * 8, none⟩ = some (.int .i64 x.number) := gx 0 _ rfl
      have c1 : wr.cell? ⟨g, o + k * 8 + 1, none⟩ = some (.int .i64 x.gen) := gx 1 _ rfl
      have c2 : wr.cell? ⟨g, o + k * 8 + 2, none⟩ = some (.int .i64 x.level) := gx 2 _ rfl
      have c3 : wr.cell? ⟨g, o + k * 8 + 3, none⟩ = some (.int .i64 x.rank) := gx 3 _ rfl
      have c4 : wr.cell? ⟨g, o + k * 8 + 4, none⟩ = some (.int .i64 x.mn) := gx 4 _ rfl
      have c5 : wr.cell? ⟨g, o + k * 8 + 5, none⟩ = some (.int .i64 x.mx) := gx 5 _ rfl
      have c6 : wr.cell? ⟨g, o + k * 8 + 6, none⟩ = some (.int .i64 x.bytes) := gx 6 _ rfl
      have c7 : wr.cell? ⟨g, o + k * 8 + 7, none⟩ = some (.slice x.pA x.pn x.pc) := gx 7 _ rfl
      have HX := Aside.mk hx
      clear hx hkl
      cases hq : x.ok with
      | false =>
        have HQ : Aside (l.all Ftr.ok = false) := ⟨by
          rw [Bool.eq_false_iff]
          intro hn
          rw [List.all_eq_true] at hn
          have := hn x (List.mem_of_getElem? HX.out)
          rw [hq] at this
          cases this⟩
        go_wp2_with fail
        refine (groups_wrong E q x _ HS.out).mono ?_
        rintro e w1 ⟨rfl, hw1⟩
        rw [hq]
        have H1 := Aside.mk hw1
        clear hw1 HS gx c0 c1 c2 c3 c4 c5 c6 c7
        go_wp2
        go_ret
        exact ⟨⟨_, rfl, by rw [if_pos (by omega)]; exact HQ.out⟩, H1.out⟩
      | true =>
        have HQ : Aside ((l.take (k + 1)).all Ftr.ok = true) := ⟨by rw [okAll_take HX.out, HB.out, hq]; rfl⟩
        go_wp2_with fail
        refine (groups_wrong E q x _ HS.out).mono ?_
        rintro e w1 ⟨rfl, hw1⟩
        rw [hq]
        have H1 := Aside.mk hw1
        clear hw1 HS gx c0 c1 c2 c3 c4 c5 c6 c7
        go_wp2
        go_roundw
        case rel => exact ⟨k + 1, by omega, by push_cast; rfl, HQ, H1⟩
        case measure => simp [intOf]; omega
    · obtain rfl : k = n := by omega
      have HQ : Aside (l.all Ftr.ok = true) := ⟨by have := HB.out; rwa [List.take_of_length_le (by rw [HL.out.1]; exact Nat.le_refl _)] at this⟩
      go_wp2
      go_ret
      exact ⟨⟨_, rfl, by rw [if_neg (by omega)]; exact HQ.out⟩, HS.out⟩
set_option maxHeartbeats 4000000 in
set_option maxRecDepth 100000 in
theorem ftr_contains (E : Env) (q : HP) (A : Option Addr) (l : List Ftr) (n c : Nat) (w : World) (hln : l.length = n) (hm : n ≤ 4611686018427387904) (hq : ∀ w, Sat E w q → Cells w A (l.flatMap Ftr.vals)) (hw : Sat E w q) :
    Calls Tryz.prog 44 #[.slice A n c, .func (.func 41) #[] #[]] w fun e w' => e = .returned (.bool (!l.all Ftr.ok)) ∧ Sat E w' q := by
  have HI := Aside.mk (ftr_index E q A l n c w hln hm hq hw)
  clear hln hq hw
  go_enter Tryz.func44, Tryz.ntmps44
  go_wp2_with fail
  refine HI.out.mono ?_
  rintro e w1 ⟨⟨i, rfl, hi⟩, hw1⟩
  have H1 := Aside.mk hw1
  clear hw1 HI
  by_cases h0 : 0 ≤ i
  · rw [if_pos h0] at hi
    have HV := Aside.mk hi
    clear hi
    go_wp2
    go_ret
    rw [HV.out]
    exact ⟨rfl, H1.out⟩
  · rw [if_neg h0] at hi
    have HV := Aside.mk hi
    clear hi
    go_wp2
    go_ret
    rw [HV.out]
    exact ⟨by show Ending.returned (Value.bool (decide (0 ≤ i))) = _; rw [decide_eq_false (by omega)]; rfl, H1.out⟩
theorem ftG_length (A : Dk) (f : Ftr) : (ftG A f).length = 1 + (longN A (iB ++ decB f.number.toNat) + (groupsI f.bytes).toNat) := by
  unfold ftG
  rw [List.length_append, List.length_append, pairsG_length, pairsG_length, stripesG_length]
theorem canA_ext {a : Anch} (h : canA a = true) : 0 ≤ a.ext := by
  unfold canA btw nOk at h
  simp only [List.all_cons, List.all_nil, Bool.and_true, Bool.and_eq_true, decide_eq_true_eq] at h
  omega
theorem flat_take {α β : Type} (f : α → List β) {l : List α} {k : Nat} {x : α} (h : l[k]? = some x) : (l.take (k + 1)).flatMap f = (l.take k).flatMap f ++ f x := by
  rw [List.take_add_one, h, Option.toList_some, List.flatMap_append]
  simp
theorem flat_take_le {α β : Type} (f : α → List β) (l : List α) (k : Nat) : ((l.take k).flatMap f).length ≤ (l.flatMap f).length := by
  conv => rhs; rw [← List.take_append_drop k l]
  rw [List.flatMap_append, List.length_append]
  omega
def headG (A : Dk) (GNN : Nat) (seg : Int) (x : Nat) : List Sgp := pairsG anchorS 1 ++ pairsG (mB ++ decB GNN) (longN A (mB ++ decB GNN)) ++ pairsG (tB ++ decB GNN) (longN A (tB ++ decB GNN)) ++ pairsG (nameW seg) x
set_option maxHeartbeats 8000000 in
set_option maxRecDepth 100000 in
theorem scrub_groups (E : Env) (q : HP) (d : Nat) (A : Dk) (a : Anch) (l : List Ftr) (V : Option Addr) (n c : Nat) (w : World) (hl : l.length = n) (hn9 : n ≤ 4000000) (hag : wf64 a.gen) (has : wf64 a.seg) (hlf : ∀ f ∈ l, wf64 f.number ∧ wf64 f.bytes) (hsm : (groupsG A a l).length ≤ 4000000)
    (hq : ∀ w, Sat E w q → Lib.TabIs Tryz.prog w "internal/strconv.uint64pow10" .u64 Lib.pow10Tab ∧ Cells w V (l.flatMap Ftr.vals)) (hw : Sat E w (HP.disk d A * q)) :
    Calls Tryz.prog 10 #[.pointer (some ⟨d, 0, none⟩), .agg #[.int .i64 a.seq, .int .i64 a.gen, .int .i64 a.lsn, .int .i64 a.seg, .int .i64 a.ext, .int .i64 a.flo, .int .i64 a.new, .int .i64 a.keep, .int .i64 a.next, .int .i64 a.cur], .slice V n c] w fun e w' => ∃ v, e = .returned v ∧ Sat E w' (HP.row 37 4 v (groupsG A a l).length ((groupsG A a l).flatMap Sgp.vals) * (HP.disk d A * q)) := by
  obtain ⟨seq, gen, lsn, seg, ext, flo, new, keep, next, cur⟩ := a
  dsimp only at *
  have HQ := Aside.mk (And.intro hq (And.intro hl (And.intro hlf (And.intro hag has))))
  have HGG : Aside (groupsG A ⟨seq, gen, lsn, seg, ext, flo, new, keep, next, cur⟩ l = if canA ⟨seq, gen, lsn, seg, ext, flo, new, keep, next, cur⟩ = true ∧ ext ≤ 2147483647 ∧ l.all Ftr.ok = true then pairsG anchorS 1 ++ (pairsG (mB ++ decB gen.toNat) (longN A (mB ++ decB gen.toNat)) ++ (pairsG (tB ++ decB gen.toNat) (longN A (tB ++ decB gen.toNat)) ++ (pairsG (nameW seg) ext.toNat ++ l.flatMap (ftG A)))) else []) := ⟨rfl⟩
  obtain ⟨gg, hgg⟩ : ∃ gg, gg = groupsG A ⟨seq, gen, lsn, seg, ext, flo, new, keep, next, cur⟩ l := ⟨_, rfl⟩
  rw [← hgg] at HGG hsm ⊢
  have HSM := Aside.mk hsm
  have h1 := hw.alloc (.cells #[.pointer (some ⟨d, 0, none⟩)] 26)
  have h2 := h1.alloc (.cells #[.int .i64 seq, .int .i64 gen, .int .i64 lsn, .int .i64 seg, .int .i64 ext, .int .i64 flo, .int .i64 new, .int .i64 keep, .int .i64 next, .int .i64 cur] 24)
  have hz : (w.alloc (.cells #[.pointer (some ⟨d, 0, none⟩)] 26)).heap.size = w.heap.size + 1 := by simp
  rw [hz] at h2
  have H2 : Aside (Sat E ((w.alloc (.cells #[.pointer (some ⟨d, 0, none⟩)] 26)).alloc (.cells #[.int .i64 seq, .int .i64 gen, .int .i64 lsn, .int .i64 seg, .int .i64 ext, .int .i64 flo, .int .i64 new, .int .i64 keep, .int .i64 next, .int .i64 cur] 24)) (HP.disk d A * (HP.pt w.heap.size (.cells #[.pointer (some ⟨d, 0, none⟩)] 26) * (HP.pt (w.heap.size + 1) (.cells #[.int .i64 seq, .int .i64 gen, .int .i64 lsn, .int .i64 seg, .int .i64 ext, .int .i64 flo, .int .i64 new, .int .i64 keep, .int .i64 next, .int .i64 cur] 24) * q)))) := ⟨h2.perm (by ac_rfl)⟩
  have b0 := H2.out.s2.cell1
  clear hw hq hl hlf hag has h1 h2 hz hgg hsm
  go_enter Tryz.func10, Tryz.ntmps10
  go_wp2_with fail
  refine (disk_asked E _ d A _ H2.out).mono ?_
  rintro e w1 ⟨rfl, hw1⟩
  have k0 := hw1.s3.cell 0
  have k1 := hw1.s3.cell 1
  have k2 := hw1.s3.cell 2
  have k3 := hw1.s3.cell 3
  have k4 := hw1.s3.cell 4
  have k5 := hw1.s3.cell 5
  have k6 := hw1.s3.cell 6
  have k7 := hw1.s3.cell 7
  have k8 := hw1.s3.cell 8
  have k9 := hw1.s3.cell 9
  simp only [List.getElem?_toArray, List.getElem?_cons_zero, List.getElem?_cons_succ] at k0 k1 k2 k3 k4 k5 k6 k7 k8 k9
  have H3 := Aside.mk hw1
  clear hw1 H2 b0
  go_wp2_with fail
  refine (can_ok E _ ⟨seq, gen, lsn, seg, ext, flo, new, keep, next, cur⟩ _ H3.out).mono ?_
  rintro e w2 ⟨rfl, h4⟩
  clear k0 k1 k2 k3 k4 k5 k6 k7 k8 k9 H3
  cases hcan : canA ⟨seq, gen, lsn, seg, ext, flo, new, keep, next, cur⟩ with
  | false =>
    have HG : Aside (gg = []) := ⟨by rw [HGG.out, if_neg (fun h => by rw [hcan] at h; cases h.1)]⟩
    have H5 : Aside (Sat E w2 (HP.disk d A * q)) := ⟨h4.drop2.drop2⟩
    clear h4 hcan
    go_wp2
    go_ret
    rw [HG.out]
    exact ⟨_, rfl, H5.out.row_nil _ _ _⟩
  | true =>
    have hx0 : 0 ≤ ext := canA_ext hcan
    obtain ⟨x, rfl⟩ : ∃ x : Nat, ext = (x : Int) := ⟨ext.toNat, by omega⟩
    have k4 := h4.s3.cell 4
    simp only [List.getElem?_toArray, List.getElem?_cons_zero, List.getElem?_cons_succ] at k4
    by_cases hxt : 2147483647 < (x : Int)
    · have HG : Aside (gg = []) := ⟨by rw [HGG.out, if_neg (fun h => by omega)]⟩
      have H5 : Aside (Sat E w2 (HP.disk d A * q)) := ⟨h4.drop2.drop2⟩
      clear h4 hcan
      go_wp2
      go_ret
      rw [HG.out]
      exact ⟨_, rfl, H5.out.row_nil _ _ _⟩
    · have H5 := Aside.mk h4
      have HC := Aside.mk hcan
      clear h4 hcan
      go_wp2_with fail
      refine (ftr_contains E _ V l n c _ HQ.out.2.1 (by omega) (fun w h => (HQ.out.1 w h.right.right.right).2) H5.out).mono ?_
      rintro e w3 ⟨rfl, h6⟩
      clear H5 k4
      cases hall : l.all Ftr.ok with
      | false =>
        have HG : Aside (gg = []) := ⟨by rw [HGG.out, if_neg (fun h => by rw [hall] at h; cases h.2.2)]⟩
        have H6 : Aside (Sat E w3 (HP.disk d A * q)) := ⟨h6.drop2.drop2⟩
        clear h6 hall
        go_wp2
        go_ret
        rw [HG.out]
        exact ⟨_, rfl, H6.out.row_nil _ _ _⟩
      | true =>
        have HG : Aside (gg = headG A gen.toNat seg x ++ l.flatMap (ftG A)) := ⟨by
          rw [HGG.out, if_pos ⟨HC.out, by omega, hall⟩]
          unfold headG
          rw [Int.toNat_natCast]
          simp only [List.append_assoc]⟩
        have HOK : Aside (∀ f ∈ l, f.ok = true) := ⟨by rwa [List.all_eq_true] at hall⟩
        have HSZ : Aside (1 + longN A (mB ++ decB gen.toNat) + longN A (tB ++ decB gen.toNat) + x + (l.flatMap (ftG A)).length ≤ 4000000) := ⟨by
          have h := HSM.out
          rw [HG.out] at h
          unfold headG at h
          simp only [List.length_append, pairsG_length] at h
          omega⟩
        have hgs : (decB gen.toNat).size ≤ 19 := by
          exact decB_size 18 gen.toNat (by have := HQ.out.2.2.2.1; unfold wf64 at this; omega)
        have hms : (mB ++ decB gen.toNat).size ≤ 20 := by rw [ByteArray.size_append]; show 1 + _ ≤ 20; omega
        have hts : (tB ++ decB gen.toNat).size ≤ 20 := by rw [ByteArray.size_append]; show 1 + _ ≤ 20; omega
        have HNS : Aside ((mB ++ decB gen.toNat).size + 2 ≤ maxLen ∧ (tB ++ decB gen.toNat).size + 2 ≤ maxLen) := ⟨by unfold maxLen; omega, by unfold maxLen; omega⟩
        obtain ⟨bD, hbD⟩ : ∃ bD, bD = w.heap.size := ⟨_, rfl⟩
        rw [← hbD] at h6 ⊢
        obtain ⟨bA, hbA⟩ : ∃ bA, bA = bD + 1 := ⟨_, rfl⟩
        rw [← hbA] at h6 ⊢
        clear hbD hbA HGG hall hgs hms hts
        have h7 := h6.alloc (.cells #[.slice none 0 0] 35)
        obtain ⟨bO, hbO⟩ : ∃ bO, bO = w3.heap.size := ⟨_, rfl⟩
        rw [← hbO] at h7
        have H7 : Aside (Sat E (w3.alloc (.cells #[.slice none 0 0] 35)) (HP.gs bO ([]) * (HP.disk d A * (HP.pt bD (.cells #[.pointer (some ⟨d, 0, none⟩)] 26) * (HP.pt bA (.cells #[.int .i64 seq, .int .i64 gen, .int .i64 lsn, .int .i64 seg, .int .i64 (x : Nat), .int .i64 flo, .int .i64 new, .int .i64 keep, .int .i64 next, .int .i64 cur] 24) * q))))) := ⟨Sat.gs_close (v := .slice none 0 0) (n := 0) (cs := []) rfl rfl (h7.row_nil 37 4 none)⟩
        have c1 := H7.out.right.right.right.cell 1
        simp only [List.getElem?_toArray, List.getElem?_cons_zero, List.getElem?_cons_succ] at c1
        clear h6 h7
        go_wp2_with fail
        rw [← hbO]
        refine (names_ok E _ gen _ HQ.out.2.2.2.1 (fun w h => (HQ.out.1 w h.right.right.right.right).1) H7.out).mono ?_
        rintro e w4 ⟨rfl, h8⟩
        have H8 := Aside.mk h8
        clear h8 H7 c1 hbO
        go_wp2_with fail
        refine (groups_pairs E _ bO [] anchorS 1 _ (by simp) H8.out).mono ?_
        rintro e w5 ⟨rfl, h9⟩
        rw [List.nil_append] at h9
        have H9 : Aside (Sat E w5 (HP.disk d A * (HP.pt bD (.cells #[.pointer (some ⟨d, 0, none⟩)] 26) * (HP.gs bO (pairsG anchorS 1) * (HP.pt bA (.cells #[.int .i64 seq, .int .i64 gen, .int .i64 lsn, .int .i64 seg, .int .i64 (x : Nat), .int .i64 flo, .int .i64 new, .int .i64 keep, .int .i64 next, .int .i64 cur] 24) * q))))) := ⟨h9.perm (by ac_rfl)⟩
        clear h9 H8
        go_wp2_with fail
        refine (groups_long E _ d bD A (mB ++ decB gen.toNat) _ HNS.out.1 H9.out).mono ?_
        rintro e w6 ⟨rfl, h10⟩
        have H10 : Aside (Sat E w6 (HP.gs bO (pairsG anchorS 1) * (HP.disk d A * (HP.pt bD (.cells #[.pointer (some ⟨d, 0, none⟩)] 26) * (HP.pt bA (.cells #[.int .i64 seq, .int .i64 gen, .int .i64 lsn, .int .i64 seg, .int .i64 (x : Nat), .int .i64 flo, .int .i64 new, .int .i64 keep, .int .i64 next, .int .i64 cur] 24) * q))))) := ⟨h10.perm (by ac_rfl)⟩
        clear h10 H9
        go_wp2_with fail
        refine (groups_pairs E _ bO (pairsG anchorS 1) (mB ++ decB gen.toNat) (longN A (mB ++ decB gen.toNat)) _ (by simp only [List.length_append, pairsG_length]; have := HSZ.out; omega) H10.out).mono ?_
        rintro e w7 ⟨rfl, h11⟩
        have H11 : Aside (Sat E w7 (HP.disk d A * (HP.pt bD (.cells #[.pointer (some ⟨d, 0, none⟩)] 26) * (HP.gs bO (pairsG anchorS 1 ++ pairsG (mB ++ decB gen.toNat) (longN A (mB ++ decB gen.toNat))) * (HP.pt bA (.cells #[.int .i64 seq, .int .i64 gen, .int .i64 lsn, .int .i64 seg, .int .i64 (x : Nat), .int .i64 flo, .int .i64 new, .int .i64 keep, .int .i64 next, .int .i64 cur] 24) * q))))) := ⟨h11.perm (by ac_rfl)⟩
        clear h11 H10
        go_wp2_with fail
        refine (groups_long E _ d bD A (tB ++ decB gen.toNat) _ HNS.out.2 H11.out).mono ?_
        rintro e w8 ⟨rfl, h12⟩
        have H12 : Aside (Sat E w8 (HP.gs bO (pairsG anchorS 1 ++ pairsG (mB ++ decB gen.toNat) (longN A (mB ++ decB gen.toNat))) * (HP.disk d A * (HP.pt bD (.cells #[.pointer (some ⟨d, 0, none⟩)] 26) * (HP.pt bA (.cells #[.int .i64 seq, .int .i64 gen, .int .i64 lsn, .int .i64 seg, .int .i64 (x : Nat), .int .i64 flo, .int .i64 new, .int .i64 keep, .int .i64 next, .int .i64 cur] 24) * q))))) := ⟨h12.perm (by ac_rfl)⟩
        clear h12 H11
        go_wp2_with fail
        refine (groups_pairs E _ bO (pairsG anchorS 1 ++ pairsG (mB ++ decB gen.toNat) (longN A (mB ++ decB gen.toNat))) (tB ++ decB gen.toNat) (longN A (tB ++ decB gen.toNat)) _ (by simp only [List.length_append, pairsG_length]; have := HSZ.out; omega) H12.out).mono ?_
        rintro e w9 ⟨rfl, h13⟩
        have H13 := Aside.mk h13.drew
        clear h13 H12
        have c3 := H13.out.right.right.right.cell 3
        simp only [List.getElem?_toArray, List.getElem?_cons_zero, List.getElem?_cons_succ] at c3
        go_wp2
        refine region_R [3, 6] [3] (fun W => Sat E W (HP.gs bO (pairsG anchorS 1 ++ pairsG (mB ++ decB gen.toNat) (longN A (mB ++ decB gen.toNat)) ++ pairsG (tB ++ decB gen.toNat) (longN A (tB ++ decB gen.toNat))) * (HP.disk d A * (HP.pt bD (.cells #[.pointer (some ⟨d, 0, none⟩)] 26) * (HP.pt bA (.cells #[.int .i64 seq, .int .i64 gen, .int .i64 lsn, .int .i64 seg, .int .i64 (x : Nat), .int .i64 flo, .int .i64 new, .int .i64 keep, .int .i64 next, .int .i64 cur] 24) * q))))) #[false, false, false, false, false, false, false] (by kernel_rfl) rfl rfl ?_
        refine wpR_pu 0 #[true, false, false, false, false, false, false] rfl onlyN_noPanic (by kernel_rfl) (fun K hK => ?_); (go_simp; try go_bits); refine hK _ ?_; clear hK K
        refine wpR_rd 1 #[true, true, false, false, false, false, false] rfl onlyN_noPanic (by kernel_rfl) (fun K hK => ?_); (go_simp; try go_bits); refine hK _ ?_; clear hK K
        refine wpR_rd 2 #[true, true, true, false, false, false, false] rfl onlyN_noPanic (by kernel_rfl) (fun K hK => ?_); (go_simp; try go_bits); refine hK _ ?_; clear hK K
        refine wpR_pu 4 #[true, true, true, false, true, false, false] rfl onlyN_noPanic (by kernel_rfl) (fun K hK => ?_); (go_simp; try go_bits); refine hK _ ?_; clear hK K
        refine wpR_held (i := 5) (v := .int .i64 (x : Nat)) #[true, true, true, false, true, true, false] rfl onlyN_noPanic (by kernel_rfl) H13.out (.inl ⟨rfl, fun w' hT => ?_⟩) ?_
        · have c4 := hT.right.right.right.cell 4
          simp only [List.getElem?_toArray, List.getElem?_cons_zero, List.getElem?_cons_succ] at c4
          go_simp
        simp only [Act.put, List.setIfInBounds_toArray, List.set_cons_zero, List.set_cons_succ]
        refine wpR_keep #[true, true, true, true, true, true, false] (i := 3) rfl (by kernel_rfl) (fun K hK => ?_)
        go_simp; refine (wal_name E _ seg _ HQ.out.2.2.2.2 (fun w h => (HQ.out.1 w h.right.right.right.right).1) H13.out).mono ?_; rintro e w10 ⟨rfl, h14⟩; have H14 := Aside.mk h14; refine hK _ _ h14 ?_; clear hK K h14 H13 c3
        refine wpR_eff #[true, true, true, true, true, true, true] (i := 6) rfl (by kernel_rfl) (fun K hK => ?_)
        go_simp; refine (groups_pairs E _ bO (pairsG anchorS 1 ++ pairsG (mB ++ decB gen.toNat) (longN A (mB ++ decB gen.toNat)) ++ pairsG (tB ++ decB gen.toNat) (longN A (tB ++ decB gen.toNat))) (nameW seg) x _ (by simp only [List.length_append, pairsG_length]; have := HSZ.out; omega) H14.out).mono ?_; rintro e w11 ⟨rfl, h15⟩; have H15 : Aside (Sat E w11 (HP.gs bO (headG A gen.toNat seg x) * (HP.disk d A * (HP.pt bD (.cells #[.pointer (some ⟨d, 0, none⟩)] 26) * (HP.pt bA (.cells #[.int .i64 seq, .int .i64 gen, .int .i64 lsn, .int .i64 seg, .int .i64 (x : Nat), .int .i64 flo, .int .i64 new, .int .i64 keep, .int .i64 next, .int .i64 cur] 24) * q))))) := ⟨h15⟩; refine hK _ _ ?_; clear hK K h15 H14
        refine wpR_done (by kernel_rfl) ?_ _
        simp only [OnlyN]
        have HHL : Aside ((headG A gen.toNat seg x).length = 1 + longN A (mB ++ decB gen.toNat) + longN A (tB ++ decB gen.toNat) + x) := ⟨by unfold headG; simp only [List.length_append, pairsG_length]⟩
        have H15b : Aside (Sat E w11 (HP.gs bO (headG A gen.toNat seg x ++ (l.take 0).flatMap (ftG A)) * (HP.disk d A * (HP.pt bD (.cells #[.pointer (some ⟨d, 0, none⟩)] 26) * (HP.pt bA (.cells #[.int .i64 seq, .int .i64 gen, .int .i64 lsn, .int .i64 seg, .int .i64 (x : Nat), .int .i64 flo, .int .i64 new, .int .i64 keep, .int .i64 next, .int .i64 cur] 24) * q))))) := ⟨by rw [List.take_zero, List.flatMap_nil, List.append_nil]; exact H15.out⟩
        clear H15
        go_wp2
        go_loopw [66] (fun v66 wr => ∃ k : Nat, v66 = .int .i64 k ∧ k ≤ n ∧ Aside (Sat E wr (HP.gs bO (headG A gen.toNat seg x ++ (l.take k).flatMap (ftG A)) * (HP.disk d A * (HP.pt bD (.cells #[.pointer (some ⟨d, 0, none⟩)] 26) * (HP.pt bA (.cells #[.int .i64 seq, .int .i64 gen, .int .i64 lsn, .int .i64 seg, .int .i64 (x : Nat), .int .i64 flo, .int .i64 new, .int .i64 keep, .int .i64 next, .int .i64 cur] 24) * q)))))) (fun i _ => n - (intOf i).toNat)
        case atStart => exact ⟨0, rfl, Nat.zero_le _, H15b⟩
        case round =>
          clear H15b
          obtain ⟨k, rfl, hk, HS⟩ := hrel
          by_cases hlt : k < n
          · have hlt1 : (k : Int) < (n : Int) := by omega
            have hlt0 : (0 : Int) ≤ (k : Int) := by omega
            obtain ⟨f, hf⟩ : ∃ f, l[k]? = some f := ⟨_, List.getElem?_eq_getElem (by rw [HQ.out.2.1]; exact hlt)⟩
            have hfm := List.mem_of_getElem? hf
            obtain ⟨g, o, hV, gx⟩ := ftr_at (HQ.out.1 _ HS.out.right.right.right.right).2 hf
            have c0 : wr.cell? ⟨g, o + k * 8, none⟩ = some (.int .i64 f.number) := gx 0 _ rfl
            have c1 : wr.cell? ⟨g, o + k * 8 + 1, none⟩ = some (.int .i64 f.gen) := gx 1 _ rfl
            have c2 : wr.cell? ⟨g, o + k * 8 + 2, none⟩ = some (.int .i64 f.level) := gx 2 _ rfl
            have c3 : wr.cell? ⟨g, o + k * 8 + 3, none⟩ = some (.int .i64 f.rank) := gx 3 _ rfl
            have c4 : wr.cell? ⟨g, o + k * 8 + 4, none⟩ = some (.int .i64 f.mn) := gx 4 _ rfl
            have c5 : wr.cell? ⟨g, o + k * 8 + 5, none⟩ = some (.int .i64 f.mx) := gx 5 _ rfl
            have c6 : wr.cell? ⟨g, o + k * 8 + 6, none⟩ = some (.int .i64 f.bytes) := gx 6 _ rfl
            have c7 : wr.cell? ⟨g, o + k * 8 + 7, none⟩ = some (.slice f.pA f.pn f.pc) := gx 7 _ rfl
            rw [hV]
            have hwf := HQ.out.2.2.1 f hfm
            have hok := HOK.out f hfm
            unfold Ftr.ok at hok
            simp only [Bool.and_eq_true, decide_eq_true_eq] at hok
            obtain ⟨dn, hdn⟩ : ∃ dn : Nat, f.number = (dn : Int) := ⟨f.number.toNat, by omega⟩
            have hdl : dn ≤ 9223372036854775807 := by have := hwf.1; unfold wf64 at this; omega
            have hds := decB_size 18 dn (by omega)
            obtain ⟨sg, hsg⟩ : ∃ sg : Nat, groupsI f.bytes = (sg : Int) := ⟨(groupsI f.bytes).toNat, by unfold groupsI; split <;> omega⟩
            have HTK := Aside.mk (flat_take (ftG A) hf)
            have HFT : Aside (ftG A f = pairsG (fB ++ decB dn) 1 ++ (pairsG (iB ++ decB dn) (longN A (iB ++ decB dn)) ++ stripesG (cB ++ decB dn) sg f.gen)) := ⟨by unfold ftG; rw [hdn, hsg, Int.toNat_natCast, Int.toNat_natCast]⟩
            have hle := flat_take_le (ftG A) l (k + 1)
            rw [HTK.out, List.length_append, HFT.out, List.length_append, List.length_append, pairsG_length, pairsG_length, stripesG_length] at hle
            have HLE : Aside ((headG A gen.toNat seg x ++ (l.take k).flatMap (ftG A)).length + (1 + (longN A (iB ++ decB dn) + sg)) ≤ 4000000) := ⟨by rw [List.length_append, HHL.out]; have := HSZ.out; omega⟩
            have HIN : Aside ((iB ++ decB dn).size + 2 ≤ maxLen) := ⟨by rw [ByteArray.size_append]; unfold maxLen; show 1 + _ + 2 ≤ _; omega⟩
            have hds1 : 1 + (decB dn).size ≤ 100 := by omega
            have HBY : Aside (wf64 f.bytes ∧ wf64 f.number) := ⟨hwf.2, hwf.1⟩
            have HSG := Aside.mk hsg
            have HDN := Aside.mk hdn
            obtain ⟨P, hP⟩ : ∃ P, P = headG A gen.toNat seg x ++ (l.take k).flatMap (ftG A) := ⟨_, rfl⟩
            have HP1 := Aside.mk hP
            rw [← hP] at HLE
            have HS2 : Aside (Sat E wr (HP.gs bO (P) * (HP.disk d A * (HP.pt bD (.cells #[.pointer (some ⟨d, 0, none⟩)] 26) * (HP.pt bA (.cells #[.int .i64 seq, .int .i64 gen, .int .i64 lsn, .int .i64 seg, .int .i64 (x : Nat), .int .i64 flo, .int .i64 new, .int .i64 keep, .int .i64 next, .int .i64 cur] 24) * q))))) := ⟨by rw [hP]; exact HS.out⟩
            have h3 := HS2.out.alloc (.cells #[.int .i64 f.number, .int .i64 f.gen, .int .i64 f.level, .int .i64 f.rank, .int .i64 f.mn, .int .i64 f.mx, .int .i64 f.bytes, .slice f.pA f.pn f.pc] 33)
            obtain ⟨bF, hbF⟩ : ∃ bF, bF = wr.heap.size := ⟨_, rfl⟩
            rw [← hbF] at h3
            have H3 : Aside (Sat E (wr.alloc (.cells #[.int .i64 f.number, .int .i64 f.gen, .int .i64 f.level, .int .i64 f.rank, .int .i64 f.mn, .int .i64 f.mx, .int .i64 f.bytes, .slice f.pA f.pn f.pc] 33)) (HP.gs bO (P) * (HP.pt bF (.cells #[.int .i64 f.number, .int .i64 f.gen, .int .i64 f.level, .int .i64 f.rank, .int .i64 f.mn, .int .i64 f.mx, .int .i64 f.bytes, .slice f.pA f.pn f.pc] 33) * (HP.disk d A * (HP.pt bD (.cells #[.pointer (some ⟨d, 0, none⟩)] 26) * (HP.pt bA (.cells #[.int .i64 seq, .int .i64 gen, .int .i64 lsn, .int .i64 seg, .int .i64 (x : Nat), .int .i64 flo, .int .i64 new, .int .i64 keep, .int .i64 next, .int .i64 cur] 24) * q)))))) := ⟨h3.s2⟩
            have e0 := H3.out.right.cell 0
            simp only [List.getElem?_toArray, List.getElem?_cons_zero, List.getElem?_cons_succ] at e0
            clear hf hfm gx hwf hok hsg hle HS HS2 h3 hP hdn hds hdl hV
            go_wp2_with fail
            rw [← hbF]
            clear hbF
            refine (itoa_ok E _ f.number _ HBY.out.2 (fun w h => (HQ.out.1 w h.right.right.right.right.right).1) H3.out).mono ?_
            rintro e w11 ⟨rfl, h4⟩
            rw [HDN.out, itoa_nat]
            have H4 := Aside.mk h4
            clear h4 H3 e0 c0 c1 c2 c3 c4 c5 c6 c7
            go_wp2_with fail
            refine (groups_pairs E _ bO P (fB ++ decB dn) 1 _ (by have := HLE.out; omega) H4.out).mono ?_
            rintro e w12 ⟨rfl, h5⟩
            have H5 : Aside (Sat E w12 (HP.disk d A * (HP.pt bD (.cells #[.pointer (some ⟨d, 0, none⟩)] 26) * (HP.gs bO (P ++ pairsG (fB ++ decB dn) 1) * (HP.pt bF (.cells #[.int .i64 f.number, .int .i64 f.gen, .int .i64 f.level, .int .i64 f.rank, .int .i64 f.mn, .int .i64 f.mx, .int .i64 f.bytes, .slice f.pA f.pn f.pc] 33) * (HP.pt bA (.cells #[.int .i64 seq, .int .i64 gen, .int .i64 lsn, .int .i64 seg, .int .i64 (x : Nat), .int .i64 flo, .int .i64 new, .int .i64 keep, .int .i64 next, .int .i64 cur] 24) * q)))))) := ⟨h5.perm (by ac_rfl)⟩
            clear h5 H4
            go_wp2_with fail
            refine (groups_long E _ d bD A (iB ++ decB dn) _ HIN.out H5.out).mono ?_
            rintro e w13 ⟨rfl, h6⟩
            have H6 : Aside (Sat E w13 (HP.gs bO (P ++ pairsG (fB ++ decB dn) 1) * (HP.pt bF (.cells #[.int .i64 f.number, .int .i64 f.gen, .int .i64 f.level, .int .i64 f.rank, .int .i64 f.mn, .int .i64 f.mx, .int .i64 f.bytes, .slice f.pA f.pn f.pc] 33) * (HP.disk d A * (HP.pt bD (.cells #[.pointer (some ⟨d, 0, none⟩)] 26) * (HP.pt bA (.cells #[.int .i64 seq, .int .i64 gen, .int .i64 lsn, .int .i64 seg, .int .i64 (x : Nat), .int .i64 flo, .int .i64 new, .int .i64 keep, .int .i64 next, .int .i64 cur] 24) * q)))))) := ⟨h6.perm (by ac_rfl)⟩
            clear h6 H5
            go_wp2_with fail
            refine (groups_pairs E _ bO (P ++ pairsG (fB ++ decB dn) 1) (iB ++ decB dn) (longN A (iB ++ decB dn)) _ (by rw [List.length_append, pairsG_length]; have := HLE.out; omega) H6.out).mono ?_
            rintro e w14 ⟨rfl, h7⟩
            obtain ⟨R, hR⟩ : ∃ R, R = P ++ pairsG (fB ++ decB dn) 1 ++ pairsG (iB ++ decB dn) (longN A (iB ++ decB dn)) := ⟨_, rfl⟩
            rw [← hR] at h7
            have HRR := Aside.mk hR
            have hRl : R.length + sg ≤ 4000000 := by rw [hR, List.length_append, List.length_append, pairsG_length, pairsG_length]; have := HLE.out; omega
            have H7 : Aside (Sat E w14 (HP.gs bO (R ++ stripesG (cB ++ decB dn) 0 f.gen) * (HP.pt bF (.cells #[.int .i64 f.number, .int .i64 f.gen, .int .i64 f.level, .int .i64 f.rank, .int .i64 f.mn, .int .i64 f.mx, .int .i64 f.bytes, .slice f.pA f.pn f.pc] 33) * (HP.disk d A * (HP.pt bD (.cells #[.pointer (some ⟨d, 0, none⟩)] 26) * (HP.pt bA (.cells #[.int .i64 seq, .int .i64 gen, .int .i64 lsn, .int .i64 seg, .int .i64 (x : Nat), .int .i64 flo, .int .i64 new, .int .i64 keep, .int .i64 next, .int .i64 cur] 24) * q)))))) := ⟨by rw [show stripesG (cB ++ decB dn) 0 f.gen = [] from rfl, List.append_nil]; exact h7⟩
            have e6 := H7.out.right.cell 6
            simp only [List.getElem?_toArray, List.getElem?_cons_zero, List.getElem?_cons_succ] at e6
            clear h7 H6 hR
            go_wp2_with fail
            refine (stripe_groups f.bytes _ HBY.out.1).mono ?_
            rintro e w15 ⟨rfl, hw15⟩
            subst w15
            rw [HSG.out]
            obtain ⟨wo, hwo⟩ : ∃ wo : World, wo = w14 := ⟨_, rfl⟩
            subst hwo
            go_wp2
            clear e6
            go_loopw [88] (fun v88 wi => ∃ i : Nat, v88 = .int .i64 i ∧ i ≤ sg ∧ Aside (Sat E wi (HP.gs bO (R ++ stripesG (cB ++ decB dn) i f.gen) * (HP.pt bF (.cells #[.int .i64 f.number, .int .i64 f.gen, .int .i64 f.level, .int .i64 f.rank, .int .i64 f.mn, .int .i64 f.mx, .int .i64 f.bytes, .slice f.pA f.pn f.pc] 33) * (HP.disk d A * (HP.pt bD (.cells #[.pointer (some ⟨d, 0, none⟩)] 26) * (HP.pt bA (.cells #[.int .i64 seq, .int .i64 gen, .int .i64 lsn, .int .i64 seg, .int .i64 (x : Nat), .int .i64 flo, .int .i64 new, .int .i64 keep, .int .i64 next, .int .i64 cur] 24) * q))))))) (fun y _ => sg - (intOf y).toNat)
            case atStart => exact ⟨0, rfl, Nat.zero_le _, H7⟩
            case round =>
              clear H7
              obtain ⟨i, rfl, hi, HI⟩ := hrel
              by_cases hil : i < sg
              · have hil1 : (i : Int) < (sg : Int) := by omega
                obtain ⟨v, h1⟩ := HI.out.gs_open
                obtain ⟨Av, cv, rfl, -, -⟩ := h1.row_slice
                have hl : (R ++ stripesG (cB ++ decB dn) i f.gen).length = R.length + i := by rw [List.length_append, stripesG_length]
                rw [hl] at h1
                obtain ⟨L, hL⟩ : ∃ L, L = (R ++ stripesG (cB ++ decB dn) i f.gen).flatMap Sgp.vals := ⟨_, rfl⟩
                rw [← hL] at h1
                have HL := Aside.mk hL
                have b0 := h1.s2.cell1
                have e1 := h1.right.right.cell 1
                simp only [List.getElem?_toArray, List.getElem?_cons_zero, List.getElem?_cons_succ] at e1
                have H1 := Aside.mk h1
                obtain ⟨zk, hzk⟩ : ∃ zk, zk = R.length + i := ⟨_, rfl⟩
                have hzk1 : zk ≤ 3999999 := by omega
                rw [← hzk] at H1 b0
                have HK := Aside.mk hzk
                clear hL hl h1 HI hzk
                go_wp2_with (at_builtin; refine wpList_append_new slGrp rfl rfl (by rfl) (by rfl) H1.out (by rfl) (by rfl) (by unfold maxLen; omega) (by omega) (fun v5 w5 hw5 => ?_); obtain ⟨A5, c5, rfl, -, -⟩ := hw5.row_slice; have b5 := hw5.s2.cell1; have t5 := hw5.s2.thaw 0; have HW5 := Aside.mk hw5; clear hw5)
                have H6 : Aside (Sat E _ (HP.gs bO (R ++ stripesG (cB ++ decB dn) (i + 1) f.gen) * (HP.pt bF (.cells #[.int .i64 f.number, .int .i64 f.gen, .int .i64 f.level, .int .i64 f.rank, .int .i64 f.mn, .int .i64 f.mx, .int .i64 f.bytes, .slice f.pA f.pn f.pc] 33) * (HP.disk d A * (HP.pt bD (.cells #[.pointer (some ⟨d, 0, none⟩)] 26) * (HP.pt bA (.cells #[.int .i64 seq, .int .i64 gen, .int .i64 lsn, .int .i64 seg, .int .i64 (x : Nat), .int .i64 flo, .int .i64 new, .int .i64 keep, .int .i64 next, .int .i64 cur] 24) * q)))))) := ⟨Sat.gs_close (n := zk + 1) (by rw [List.length_append, stripesG_length, HK.out]; omega) (by rw [stripesG_step, ← List.append_assoc, List.flatMap_append, ← HL.out]; rfl) (HW5.out.s2.set1 (.slice A5 (zk + 1) c5)).s2⟩
                clear HW5 H1 b0 b5 t5 e1
                go_roundw
                case rel => exact ⟨i + 1, by go_num, by omega, H6⟩
                case measure => simp [intOf]; omega
              · obtain rfl : i = sg := by omega
                have hii : ¬ (i : Int) < (i : Int) := by omega
                have H8 : Aside (Sat E wr (HP.gs bO (headG A gen.toNat seg x ++ (l.take (k + 1)).flatMap (ftG A)) * (HP.disk d A * (HP.pt bD (.cells #[.pointer (some ⟨d, 0, none⟩)] 26) * (HP.pt bA (.cells #[.int .i64 seq, .int .i64 gen, .int .i64 lsn, .int .i64 seg, .int .i64 (x : Nat), .int .i64 flo, .int .i64 new, .int .i64 keep, .int .i64 next, .int .i64 cur] 24) * q))))) := ⟨by
                  rw [HTK.out, HFT.out, ← List.append_assoc, ← HP1.out, ← List.append_assoc, ← List.append_assoc, ← HRR.out]
                  exact HI.out.drop2⟩
                clear HI
                go_wp2
                go_roundw
                case rel => exact ⟨k + 1, by go_num, by omega, H8⟩
                case measure => simp [intOf]; omega
          · obtain rfl : k = n := by omega
            have hkk : ¬ (k : Int) < (k : Int) := by omega
            have hs1 := HS.out
            rw [List.take_of_length_le (by rw [HQ.out.2.1]; exact Nat.le_refl _), ← HG.out] at hs1
            obtain ⟨v, h1⟩ := hs1.gs_open
            have b0 := h1.s2.cell1
            have H9 : Aside (Sat E wr (HP.row 37 4 v gg.length (gg.flatMap Sgp.vals) * (HP.disk d A * q))) := ⟨h1.perm (by ac_rfl : _ = HP.row 37 4 v gg.length (gg.flatMap Sgp.vals) * (HP.pt bO (.cells #[v] 35) * (HP.pt bD (.cells #[.pointer (some ⟨d, 0, none⟩)] 26) * (HP.pt bA (.cells #[.int .i64 seq, .int .i64 gen, .int .i64 lsn, .int .i64 seg, .int .i64 (x : Nat), .int .i64 flo, .int .i64 new, .int .i64 keep, .int .i64 next, .int .i64 cur] 24) * (HP.disk d A * q))))) |>.drop2.drop2.drop2⟩
            clear HS hs1 h1
            go_wp2
            go_ret
            exact ⟨_, rfl, H9.out⟩
end Go.Proofs.YtnpinegpajbkeaaGreatDoor
namespace Go.Proofs.YtnpinegpajbkeaaGreatDoor
open Go.ChangeShapes Go.WideShapes Go.ChangeAt Go.RowKit HP
def Ftr.fix (f : Ftr) : Ftr := if 20000 < f.bytes ∧ f.bytes ≤ 2147483647 then { f with bytes := f.bytes % 20000 } else f
def fixE (e : Int) : Int := if 300 < e ∧ e ≤ 2147483647 then e % 300 else e
def fixK (l : List Ftr) (k : Nat) : List Ftr := (l.take k).map Ftr.fix ++ l.drop k
theorem fixK_zero (l : List Ftr) : fixK l 0 = l := by unfold fixK; simp
theorem fixK_length (l : List Ftr) (k : Nat) : (fixK l k).length = l.length := by unfold fixK; rw [List.length_append, List.length_map, List.length_take, List.length_drop]; omega
theorem fixK_get {l : List Ftr} {k : Nat} {f : Ftr} (h : l[k]? = some f) : (fixK l k)[k]? = some f := by
  have hk := (List.getElem?_eq_some_iff.1 h).1
  unfold fixK
  rw [List.getElem?_append_right (by rw [List.length_map, List.length_take]; omega), List.length_map, List.length_take, List.getElem?_drop, Nat.min_eq_left (by omega)]
  rw [show k + (k - k) = k by omega]; exact h
theorem fixK_step {l : List Ftr} {k : Nat} {f : Ftr} (h : l[k]? = some f) : fixK l (k + 1) = (fixK l k).set k f.fix := by
  have hk := (List.getElem?_eq_some_iff.1 h).1
  have e : (l.take k).length = k := by rw [List.length_take]; omega
  unfold fixK
  rw [List.take_add_one, h, Option.toList_some, List.map_append, List.set_append_right _ _ (by rw [List.length_map, e]; exact Nat.le_refl _), List.length_map, e, Nat.sub_self]
  rw [List.drop_eq_getElem_cons hk, (List.getElem?_eq_some_iff.1 h).2, List.append_assoc]
  rfl
theorem fixK_same {l : List Ftr} {k : Nat} {f : Ftr} (h : l[k]? = some f) (hf : f.fix = f) : fixK l (k + 1) = fixK l k := by
  rw [fixK_step h, hf]
  refine List.ext_getElem? fun i => ?_
  rw [List.getElem?_set]
  split
  · rename_i e
    subst e
    rw [if_pos (by have := (List.getElem?_eq_some_iff.1 (fixK_get h)).1; exact this), fixK_get h]
  · rfl
theorem flat_set6 : ∀ (l : List Ftr) (k : Nat) (f : Ftr) (b : Int), l[k]? = some f → (l.flatMap Ftr.vals).set (k * 8 + 6) (.int .i64 b) = (l.set k { f with bytes := b }).flatMap Ftr.vals
  | [], k, f, b, h => by simp at h
  | x :: r, 0, f, b, h => by
    simp only [List.getElem?_cons_zero, Option.some.injEq] at h
    subst h
    rfl
  | x :: r, k + 1, f, b, h => by
    have ih := flat_set6 r k f b (by simpa using h)
    rw [List.flatMap_cons, List.set_cons_succ, List.flatMap_cons, ← ih, List.set_append_right _ _ (by show 8 ≤ _; omega)]
    show x.vals ++ (r.flatMap Ftr.vals).set ((k + 1) * 8 + 6 - 8) _ = _
    rw [show (k + 1) * 8 + 6 - 8 = k * 8 + 6 by omega]
theorem flat_len_le {A : Dk} {B : Nat} : ∀ (l : List Ftr), (∀ f ∈ l, (ftG A f).length ≤ B) → (l.flatMap (ftG A)).length ≤ l.length * B
  | [], _ => by simp
  | x :: r, h => by
    have ih := flat_len_le r fun f hf => h f (List.mem_cons_of_mem _ hf)
    have h0 := h x (List.mem_cons_self ..)
    rw [List.flatMap_cons, List.length_append, List.length_cons, Nat.succ_mul]
    omega
theorem groupsG_few {A : Dk} (hF : A.Fine) {a : Anch} {l : List Ftr} (hx : a.ext ≤ 2147483647 → a.ext ≤ 300) (hl : l.length ≤ 8) (hb : ∀ f ∈ l, f.ok = true → f.bytes ≤ 20000) : (groupsG A a l).length ≤ 4000000 := by
  have hlong : ∀ nm, longN A nm ≤ 100000 := fun nm => by
    unfold longN
    have h1 := at_small hF (nm ++ dotA)
    have h2 := at_small hF (nm ++ dotB)
    omega
  unfold groupsG
  split
  · rename_i h
    have he := hx h.2.1
    have hall := List.all_eq_true.1 h.2.2
    have hf := flat_len_le (A := A) (B := 100200) l fun f hf => by
      rw [ftG_length]
      have h1 := hlong (iB ++ decB f.number.toNat)
      have h2 := hb f hf (hall f hf)
      have h3 : (groupsI f.bytes).toNat ≤ 100 := by unfold groupsI; split <;> omega
      omega
    have h4 : l.length * 100200 ≤ 8 * 100200 := Nat.mul_le_mul_right _ hl
    simp only [List.length_append, pairsG_length]
    have h5 := hlong (mB ++ decB a.gen.toNat)
    have h6 := hlong (tB ++ decB a.gen.toNat)
    omega
  · exact Nat.zero_le _
theorem fix_ok {f : Ftr} (h : f.fix.ok = true) : f.fix.bytes ≤ 20000 := by
  unfold Ftr.fix at *
  split at h
  · rename_i h1
    rw [if_pos h1]
    show f.bytes % 20000 ≤ 20000
    omega
  · rename_i h1
    rw [if_neg h1]
    unfold Ftr.ok at h
    simp only [Bool.and_eq_true, decide_eq_true_eq] at h
    omega
theorem fix_wf {f : Ftr} (h : wf64 f.number ∧ wf64 f.bytes) : wf64 f.fix.number ∧ wf64 f.fix.bytes := by
  unfold Ftr.fix
  split
  · rename_i h1
    refine ⟨h.1, ?_⟩
    show wf64 (f.bytes % 20000)
    unfold wf64
    omega
  · exact h
structure FtrsIn (q : HP) (l : Sl Ftr) : Prop where
  le : l.l.length ≤ l.cap
  cap : l.cap ≤ maxLen
  ok : ∀ f ∈ l.l, wf64 f.number ∧ wf64 f.bytes
  cells : ∀ E w, Sat E w q → Cells w l.A (l.l.flatMap Ftr.vals)
def rdSlO : Rd (Option Addr × Nat × Nat) := ⟨fun x => [.slice x.1 x.2.1 x.2.2], fun _ _ => True, fun _ h => h⟩
theorem rdSlO_at {P : Program} {t e : TypeId} {α : Type} {r : Rd α} (hr : (rdSl r).At P t) : rdSlO.At P t := by
  intro H enc W fuel cs x h
  obtain ⟨s, hs, -⟩ := hr h
  exact ⟨(s.A, s.l.length, s.cap), hs, trivial⟩
def rdFtr : Rd Ftr := rdMap (rdPair (rdInt .i64) (rdPair (rdInt .i64) (rdPair (rdInt .i64) (rdPair (rdInt .i64) (rdPair (rdInt .i64) (rdPair (rdInt .i64) (rdPair (rdInt .i64) (rdPair rdSlO rdEnd)))))))) (fun x => (⟨x.1, x.2.1, x.2.2.1, x.2.2.2.1, x.2.2.2.2.1, x.2.2.2.2.2.1, x.2.2.2.2.2.2.1, x.2.2.2.2.2.2.2.1.1, x.2.2.2.2.2.2.2.1.2.1, x.2.2.2.2.2.2.2.1.2.2⟩ : Ftr)) (fun s => (s.number, s.gen, s.level, s.rank, s.mn, s.mx, s.bytes, (s.pA, s.pn, s.pc), ())) (fun a => rfl)
theorem rdFtr_at : rdFtr.At Tryz.prog 33 :=
  rdStruct_at Tryz.underlying33 (total := 1 + (1 + (1 + (1 + (1 + (1 + (1 + (1 + 0)))))))) (by kernel_rfl) (rdPair_fs rfl (by kernel_rfl) (rdInt_at Tryz.underlying3) (rdPair_fs rfl (by kernel_rfl) (rdInt_at Tryz.underlying3) (rdPair_fs rfl (by kernel_rfl) (rdInt_at Tryz.underlying3) (rdPair_fs rfl (by kernel_rfl) (rdInt_at Tryz.underlying3) (rdPair_fs rfl (by kernel_rfl) (rdInt_at Tryz.underlying3) (rdPair_fs rfl (by kernel_rfl) (rdInt_at Tryz.underlying3) (rdPair_fs rfl (by kernel_rfl) (rdInt_at Tryz.underlying3) (rdPair_fs rfl (by kernel_rfl) (rdSlO_at (e := 3) (rdSl_at (n := 1) Tryz.underlying31 (by kernel_rfl) (rdInt_at Tryz.underlying3))) (rdEnd_fs _))))))))) _ _ _
theorem rdFtrs_at : (rdSl rdFtr).At Tryz.prog 25 := rdSl_at (n := 8) Tryz.underlying25 (by kernel_rfl) rdFtr_at
theorem ftrs_in {W : World} {s : Sl Ftr} (h : (rdSl rdFtr).ok W s) : FtrsIn (HP.old W) s :=
  ⟨h.1, h.2.1, fun f hf => by
    obtain ⟨h1, -, -, -, -, -, h7, -⟩ := h.2.2.2 f hf
    exact ⟨wf64_of h1, wf64_of h7⟩, fun E w hw => Cells.carry (cs := s.l.flatMap Ftr.vals) h.2.2.1 (old_carry hw)⟩
end Go.Proofs.YtnpinegpajbkeaaGreatDoor
