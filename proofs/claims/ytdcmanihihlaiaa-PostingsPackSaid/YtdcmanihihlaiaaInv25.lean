/- What is packed is unpacked as it was: the plain law. -/
import Derived.Test.YtdcmanihihlaiaaUnpack25
namespace Go.Proofs.Ytdcmanihihlaiaa
open Go.RowKit HP
set_option linter.unusedSimpArgs false
set_option linter.unusedVariables false

theorem numG_short : ∀ (f m i : Nat) (acc : Int) (pre t : List Int), pre.length = i → m < 128 ^ f → 0 < f → numG (pre ++ shortN m ++ t) f i acc = some (acc + (m : Int) * 2 ^ (7 * i), i + (shortN m).length) := by
  intro f
  induction f with
  | zero => intro m i acc pre t _ _ h; omega
  | succ f ih =>
    intro m i acc pre t hi hm _
    rw [numG]
    by_cases h : m < 128
    · rw [shortN_lt h]
      have e : (pre ++ [(m : Int)] ++ t)[i]? = some (m : Int) := by rw [List.append_assoc, List.getElem?_append_right (by omega), hi]; simp
      rw [e]
      dsimp only
      rw [if_pos (by omega), show ((m : Int)) % 128 = m by omega]
      rfl
    · rw [shortN_ge h]
      have e : (pre ++ (((m % 128 + 128 : Nat) : Int) :: shortN (m / 128)) ++ t)[i]? = some ((m % 128 + 128 : Nat) : Int) := by rw [List.append_assoc, List.getElem?_append_right (by omega), hi]; simp
      rw [e]
      dsimp only
      rw [if_neg (by omega)]
      have hf : 0 < f := by
        cases f with
        | zero => rw [Nat.zero_add, Nat.pow_one] at hm; omega
        | succ f => omega
      have hm2 : m / 128 < 128 ^ f := by
        rw [Nat.pow_succ] at hm
        exact Nat.div_lt_of_lt_mul (by rw [Nat.mul_comm]; exact hm)
      have := ih (m / 128) (i + 1) (acc + ((m % 128 + 128 : Nat) : Int) % 128 * 2 ^ (7 * i)) (pre ++ [((m % 128 + 128 : Nat) : Int)]) t (by simp [hi]) hm2 hf
      rw [show pre ++ (((m % 128 + 128 : Nat) : Int) :: shortN (m / 128)) ++ t = pre ++ [((m % 128 + 128 : Nat) : Int)] ++ shortN (m / 128) ++ t by simp, this]
      have e2 : acc + ((m % 128 + 128 : Nat) : Int) % 128 * 2 ^ (7 * i) + ((m / 128 : Nat) : Int) * 2 ^ (7 * (i + 1)) = acc + (m : Int) * 2 ^ (7 * i) := by
        rw [show 7 * (i + 1) = 7 * i + 7 by omega, Int.pow_add]
        generalize (2 : Int) ^ (7 * i) = M
        have h1 : ((m % 128 + 128 : Nat) : Int) % 128 = ((m % 128 : Nat) : Int) := by omega
        have h2 : (m : Int) = ((m % 128 : Nat) : Int) + ((m / 128 : Nat) : Int) * 128 := by omega
        rw [h1]
        conv => rhs; rw [h2]
        rw [Int.add_mul, Int.add_assoc]
        congr 2
        rw [show (2 : Int) ^ 7 = 128 by decide, Int.mul_assoc, Int.mul_comm M 128]
      rw [e2]
      simp only [List.length_cons]
      congr 2
      omega
theorem numI_short (n : Int) (t : List Int) (h0 : 0 ≤ n) (h1 : n ≤ 2147483648) : numI (shortI n ++ t) false = (n, t, false) := by
  obtain ⟨m, rfl⟩ := Int.eq_ofNat_of_zero_le h0
  rw [show shortI ((m : Nat) : Int) = shortN m from shortI_nat m]
  have := numG_short 5 m 0 0 [] t rfl (by have : (128 : Nat) ^ 5 = 34359738368 := by decide
                                          omega) (by omega)
  rw [List.nil_append] at this
  unfold numI
  rw [this]
  have e : decide (0 + (m : Int) * 2 ^ (7 * 0) > 2147483648) = false := by simp; omega
  simp only [e, Bool.or_false]
  simp

/-! ### the parts of a list -/
def chunks (l : List Int) : List (List Int) := (starts ((l.length + 7) / 8)).map (partAt l)
theorem chunks_nil : chunks [] = [] := by simp [chunks, starts]
theorem chunks_cons {l : List Int} (h : l ≠ []) : chunks l = l.take 8 :: chunks (l.drop 8) := by
  have hl : 0 < l.length := List.length_pos_iff.2 h
  unfold chunks starts
  rw [show (l.length + 7) / 8 = ((l.drop 8).length + 7) / 8 + 1 by simp; omega, List.range_succ_eq_map]
  simp only [List.map_cons, List.map_map, partAt, Nat.mul_zero, List.drop_zero]
  congr 1
  apply List.map_congr_left
  intro x _
  simp only [Function.comp_apply, partAt, List.drop_drop]
  congr 2
  omega
def tabI : List (List Int) → Int → List Int
  | [], _ => []
  | p :: ps, last => shortI (p.headD 0 - last) ++ (shortI (bodyI p).length ++ tabI ps (p.headD 0))
def bodsI (ps : List (List Int)) : List Int := ps.flatMap bodyI
theorem packSt_tab (l : List Int) : ∀ (xs : List Nat) (a b : List Int) (last : Int), (xs.foldl (packStep l) (a, b, last)).1 = a ++ tabI (xs.map (partAt l)) last ∧ (xs.foldl (packStep l) (a, b, last)).2.1 = b ++ bodsI (xs.map (partAt l)) := by
  intro xs
  induction xs with
  | nil => intro a b last; simp [tabI, bodsI]
  | cons x xs ih =>
    intro a b last
    rw [List.foldl_cons]
    obtain ⟨h1, h2⟩ := ih (packStep l (a, b, last) x).1 (packStep l (a, b, last) x).2.1 (packStep l (a, b, last) x).2.2
    refine ⟨h1.trans ?_, h2.trans ?_⟩
    · simp [packStep, tabI]
    · simp [packStep, bodsI]
theorem packI_tab (l : List Int) : packI l = shortI l.length ++ (tabI (chunks l) 0 ++ bodsI (chunks l)) := by
  obtain ⟨h1, h2⟩ := packSt_tab l (starts ((l.length + 7) / 8)) (shortI l.length) [] 0
  unfold packI packSt
  dsimp only
  rw [h1, h2]
  simp [chunks]

/-! ### lists that rise -/
theorem rises_iff (l : List Int) : ∀ last, risesFrom last l = true ↔ (∀ x ∈ l, last < x ∧ x ≤ 2147483647) ∧ l.Pairwise (· < ·) := by
  induction l with
  | nil => intro last; simp [risesFrom]
  | cons n l ih =>
    intro last
    simp only [risesFrom, Bool.and_eq_true, decide_eq_true_eq, ih n, List.pairwise_cons, List.mem_cons, forall_eq_or_imp]
    constructor
    · rintro ⟨⟨h1, h2⟩, h3, h4⟩
      exact ⟨⟨⟨h1, h2⟩, fun x hx => ⟨by have := (h3 x hx).1; omega, (h3 x hx).2⟩⟩, fun x hx => (h3 x hx).1, h4⟩
    · rintro ⟨⟨h1, h2⟩, h3, h4⟩
      exact ⟨h1, fun x hx => ⟨h3 x hx, (h2 x hx).2⟩, h4⟩
/-- A list that rises, from a number on. -/
def Up (last : Int) (l : List Int) : Prop := (∀ x ∈ l, last ≤ x ∧ x ≤ 2147483647) ∧ l.Pairwise (· < ·)
theorem up_of_can {l : List Int} (h : canB l = true) : Up 0 l := by
  simp only [canB, Bool.and_eq_true] at h
  obtain ⟨h1, h2⟩ := (rises_iff l (-1)).1 h.1
  exact ⟨fun x hx => ⟨by have := (h1 x hx).1; omega, (h1 x hx).2⟩, h2⟩
theorem Up.part {last : Int} {l : List Int} (h : Up last l) (h0 : 0 ≤ last) : Fits l := fun x hx => ⟨by have := (h.1 x hx).1; omega, (h.1 x hx).2⟩
theorem Up.take {last : Int} {l : List Int} (h : Up last l) (k : Nat) : Up last (l.take k) := ⟨fun x hx => h.1 x (List.mem_of_mem_take hx), h.2.sublist (List.take_sublist k l)⟩
theorem Up.drop {last : Int} {l : List Int} (h : Up last l) (k : Nat) (hk : 0 < k) : Up (l.headD 0) (l.drop k) := by
  refine ⟨fun x hx => ⟨?_, (h.1 x (List.mem_of_mem_drop hx)).2⟩, h.2.sublist (List.drop_sublist k l)⟩
  cases l with
  | nil => simp at hx
  | cons y l =>
    obtain ⟨k, rfl⟩ : ∃ k', k = k' + 1 := ⟨k - 1, by omega⟩
    have h2 := (List.pairwise_cons.1 h.2).1 x (List.mem_of_mem_drop (by simpa using hx))
    simp only [List.headD_cons]
    omega

/-! ### the heads -/
theorem heads_tab : ∀ (r : Nat) (l : List Int) (left last : Int) (sizes : List Int) (bl : List (Int × Int)) (t : List Int), l.length ≤ 8 * r → (left = l.length ∨ left ≤ 0 ∧ l = []) → 0 ≤ last → last ≤ 2147483647 → Up last l →
    heads r left (tabI (chunks l) last ++ t) false last sizes bl = some (t, false, sizes ++ (chunks l).map (fun p => ((bodyI p).length : Int)), bl ++ (chunks l).map fun p => (p.headD 0, (p.length : Int))) := by
  intro r
  induction r with
  | zero =>
    intro l left last sizes bl t hl hleft _ _ _
    obtain rfl : l = [] := List.eq_nil_of_length_eq_zero (by omega)
    simp [heads, chunks_nil, tabI]
  | succ r ih =>
    intro l left last sizes bl t hl hleft h0 h1 hup
    by_cases hn : l = []
    · subst hn
      rw [heads_stop _ _ _ _ _ (by rcases hleft with h | h <;> simp at h <;> omega)]
      simp [chunks_nil, tabI]
    · have hpos : 0 < l.length := List.length_pos_iff.2 hn
      obtain rfl : left = l.length := by
        rcases hleft with h | h
        · exact h
        · exact absurd h.2 hn
      have hh : (l.take 8).headD 0 = l.headD 0 := by cases l <;> simp
      have hmem : l.headD 0 ∈ l := by cases l with | nil => exact absurd rfl hn | cons y l => simp
      have hb := hup.1 _ hmem
      have hbl := bodyI_len ((hup.take 8).part h0)
      have hlen8 : (l.take 8).length ≤ 8 := by simp; omega
      rw [chunks_cons hn, tabI, hh]
      rw [heads, if_pos ⟨by omega, rfl⟩]
      simp only [List.append_assoc]
      rw [numI_short _ _ (by omega) (by omega)]
      dsimp only
      rw [numI_short _ _ (by omega) (by omega)]
      dsimp only
      rw [if_neg (by omega), show last + (l.headD 0 - last) = l.headD 0 by omega]
      rw [ih (l.drop 8) ((l.length : Int) - 8) (l.headD 0) _ _ t (by simp; omega) (by
        by_cases h8 : 8 ≤ l.length
        · left; simp; omega
        · right; exact ⟨by omega, List.drop_of_length_le (by omega)⟩) (by omega) hb.2 (hup.drop 8 (by omega))]
      have e : (if 8 < (l.length : Int) then 8 else (l.length : Int)) = ((l.take 8).length : Int) := by rw [List.length_take]; split <;> omega
      rw [e]
      simp only [List.append_assoc, List.map_cons, List.cons_append, List.nil_append, hh]

/-! ### the bodies -/
theorem bodies_tab : ∀ (ps : List (List Int)) (t : List Int), bodies (ps.map fun p => ((bodyI p).length : Int)) (ps.map fun p => (p.headD 0, (p.length : Int))) (bodsI ps ++ t) = some (ps.map fun p => (p.headD 0, bodyI p, (p.length : Int))) := by
  intro ps
  induction ps with
  | nil => intro t; simp [bodies]
  | cons p ps ih =>
    intro t
    simp only [List.map_cons, bodies, bodsI, List.flatMap_cons, List.append_assoc]
    have := ih t
    simp only [bodsI] at this
    rw [if_neg (by rw [List.length_append]; push_cast; omega), Int.toNat_natCast, List.drop_left, List.take_left, this]
    rfl

/-! ### the numbers -/
theorem numsG_body : ∀ (q : List Int) (f : Nat) (count prev : Int) (acc : List Int), q.length ≤ f → ((acc.length + q.length : Nat) : Int) = count → 0 ≤ prev → Up prev (prev :: q) → numsG f count (bodyFrom prev q) false prev acc = acc ++ q := by
  intro q
  induction q with
  | nil =>
    intro f count prev acc _ hc _ _
    rw [numsG_stop _ _ _ _ _ (by rintro ⟨h, -⟩; simp at hc; omega)]
    simp
  | cons n q ih =>
    intro f count prev acc hf hc h0 hup
    obtain ⟨f, rfl⟩ : ∃ f', f = f' + 1 := ⟨f - 1, by simp at hf; omega⟩
    have h2 := List.pairwise_cons.1 hup.2
    have hn := h2.1 n (by simp)
    have hm := (hup.1 n (by simp)).2
    rw [numsG, if_pos ⟨by simp at hc; omega, rfl⟩, bodyFrom, numI_short _ _ (by omega) (by omega)]
    dsimp only
    rw [show prev + (n - prev - 1) + 1 = n by omega, ih f count n (acc ++ [n]) (by simp at hf; omega) (by simp at hc ⊢; omega) (by omega) ⟨fun x hx => ⟨?_, (hup.1 x (List.mem_cons_of_mem _ hx)).2⟩, h2.2⟩]
    · simp
    · rcases List.mem_cons.1 hx with rfl | hx
      · omega
      · have := (List.pairwise_cons.1 h2.2).1 x hx
        omega
theorem numsI_body {p : List Int} (hn : p ≠ []) (h8 : p.length ≤ 8) {last : Int} (h0 : 0 ≤ last) (h : Up last p) : numsI (p.headD 0) (bodyI p) p.length = p := by
  cases p with
  | nil => exact absurd rfl hn
  | cons y q =>
    simp only [List.headD_cons, bodyI, numsI]
    have hy := h.1 y (by simp)
    rw [numsG_body q 8 _ y [y] (by simp at h8; omega) (by simp; omega) (by omega) ⟨fun x hx => ⟨?_, (h.1 x hx).2⟩, h.2⟩]
    · simp
    · rcases List.mem_cons.1 hx with rfl | hx
      · omega
      · have := (List.pairwise_cons.1 h.2).1 x hx
        omega
theorem nums_chunks : ∀ (k : Nat) (l : List Int) (last : Int), l.length ≤ k → 0 ≤ last → Up last l → numsAll ((chunks l).map fun p => (p.headD 0, bodyI p, (p.length : Int))) = l := by
  intro k
  induction k with
  | zero =>
    intro l last hl _ _
    obtain rfl : l = [] := List.eq_nil_of_length_eq_zero (by omega)
    simp [chunks_nil, numsAll]
  | succ k ih =>
    intro l last hl h0 h
    by_cases hn : l = []
    · subst hn; simp [chunks_nil, numsAll]
    · have hpos : 0 < l.length := List.length_pos_iff.2 hn
      rw [chunks_cons hn]
      have hmem : l.headD 0 ∈ l := by cases l with | nil => exact absurd rfl hn | cons y l => simp
      have := ih (l.drop 8) (l.headD 0) (by simp; omega) (by have := (h.1 _ hmem).1; omega) (h.drop 8 (by omega))
      simp only [numsAll, List.map_cons, List.flatMap_cons] at this ⊢
      rw [this, numsI_body (p := l.take 8) (by intro h; have := congrArg List.length h; rw [List.length_take, List.length_nil] at this; omega) (by simp; omega) h0 (h.take 8), List.take_append_drop]

theorem open_pack {l : List Int} (h : canB l = true) (t : List Int) : openI (packI l ++ t) = some ((chunks l).map fun p => (p.headD 0, bodyI p, (p.length : Int))) := by
  have hlen : l.length ≤ 100000 := by simp only [canB, Bool.and_eq_true, decide_eq_true_eq] at h; exact h.2
  unfold openI
  rw [packI_tab, List.append_assoc, numI_short _ _ (by omega) (by omega)]
  dsimp only
  rw [if_neg (by rintro (h | h) <;> first | (cases h; done) | omega)]
  rw [List.append_assoc, heads_tab 12501 l l.length 0 [] [] (bodsI (chunks l) ++ t) (by omega) (.inl rfl) (by omega) (by omega) (up_of_can h)]
  dsimp only
  rw [if_neg (by simp), List.nil_append, List.nil_append, bodies_tab]
theorem nums_pack {l : List Int} (h : canB l = true) : numsAll ((chunks l).map fun p => (p.headD 0, bodyI p, (p.length : Int))) = l := nums_chunks l.length l 0 (Nat.le_refl _) (by omega) (up_of_can h)
theorem unpack_pack {l : List Int} (h : canB l = true) : unpackI (packI l) = some l := by
  have := open_pack h []
  rw [List.append_nil] at this
  unfold unpackI
  rw [this]
  dsimp only
  rw [nums_pack h, if_pos ⟨h, rfl⟩]
theorem unpack_more {l t : List Int} (h : canB l = true) (ht : t ≠ []) : unpackI (packI l ++ t) = none := by
  unfold unpackI
  rw [open_pack h t]
  dsimp only
  rw [nums_pack h, if_neg]
  rintro ⟨-, he⟩
  have := congrArg List.length he
  simp only [List.length_append] at this
  exact ht (List.eq_nil_of_length_eq_zero (by omega))
/-- Bytes are packed numbers just if they are what is packed of them. -/
theorem unpack_iff (b l : List Int) : unpackI b = some l ↔ canB l = true ∧ packI l = b := by
  constructor
  · intro h
    unfold unpackI at h
    split at h
    · cases h
    · split at h
      · rename_i hh
        cases h
        exact hh
      · cases h
  · rintro ⟨h, rfl⟩
    exact unpack_pack h
end Go.Proofs.Ytdcmanihihlaiaa
