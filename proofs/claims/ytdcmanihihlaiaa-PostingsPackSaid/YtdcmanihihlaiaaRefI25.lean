/- What dryrotref25.Unpack reckons, and that it is what postings.Unpack reckons: the plain law. -/
import Derived.Test.YtdcmanihihlaiaaRefT25
namespace Go.Proofs.Ytdcmanihihlaiaa
open Go.RowKit HP
set_option linter.unusedSimpArgs false
set_option linter.unusedVariables false

theorem take_short (n : Int) (t : List Int) (h0 : 0 ≤ n) (h1 : n ≤ 2147483648) : takeI (shortI n ++ t) = (n, t, true) := by
  obtain ⟨m, rfl⟩ := Int.eq_ofNat_of_zero_le h0
  rw [show shortI ((m : Nat) : Int) = shortN m from shortI_nat m]
  have := numG_short 5 m 0 0 [] t rfl (by have : (128 : Nat) ^ 5 = 34359738368 := by decide
                                          omega) (by omega)
  rw [List.nil_append] at this
  unfold takeI
  rw [this]
  have e : decide (0 + (m : Int) * 2 ^ (7 * 0) ≤ 2147483648) = true := by simp; omega
  simp only [e]
  simp

/-- The first numbers of the blocks: how many rounds there may be, how many numbers are left, the last one, the bytes, those so far. -/
def rHeads : Nat → Int → Int → List Int → List Int → Option (List Int × List Int)
  | 0, _, _, rest, firsts => some (rest, firsts)
  | r + 1, left, last, rest, firsts =>
    if left > 0 then
      if (takeI rest).2.2 = false ∨ (takeI (takeI rest).2.1).2.2 = false ∨ (takeI rest).1 > 2147483647 - last then none
      else rHeads r (left - 8) (last + (takeI rest).1) (takeI (takeI rest).2.1).2.1 (firsts ++ [last + (takeI rest).1])
    else some (rest, firsts)
theorem rHeads_stop (r : Nat) {left : Int} (last : Int) (rest firsts : List Int) (h : ¬ left > 0) : rHeads r left last rest firsts = some (rest, firsts) := by
  cases r with
  | zero => rfl
  | succ r => rw [rHeads, if_neg h]
/-- The numbers: how many are to come, the first ones, the bytes, those so far. -/
def rNums : Nat → List Int → List Int → List Int → Option (List Int)
  | 0, _, _, l => some l
  | n + 1, firsts, rest, l =>
    if l.length % 8 = 0 then rNums n firsts rest (l ++ [firsts.getD (l.length / 8) 0])
    else if (takeI rest).2.2 = false ∨ (takeI rest).1 > 2147483647 then none
    else rNums n firsts (takeI rest).2.1 (l ++ [l.getLastD 0 + (takeI rest).1 + 1])
def refUnpackI (b : List Int) : Option (List Int) :=
  if (takeI b).2.2 = false ∨ (takeI b).1 > 100000 then none
  else match rHeads 12501 (takeI b).1 0 (takeI b).2.1 [] with
    | none => none
    | some (rest, firsts) => match rNums (takeI b).1.toNat firsts rest [] with
      | none => none
      | some l => if canB l = true ∧ packI l = b then some l else none

theorem rHeads_tab : ∀ (r : Nat) (l : List Int) (left last : Int) (firsts : List Int) (t : List Int), l.length ≤ 8 * r → (left = l.length ∨ left ≤ 0 ∧ l = []) → 0 ≤ last → last ≤ 2147483647 → Up last l →
    rHeads r left last (tabI (chunks l) last ++ t) firsts = some (t, firsts ++ (chunks l).map (·.headD 0)) := by
  intro r
  induction r with
  | zero =>
    intro l left last firsts t hl hleft _ _ _
    obtain rfl : l = [] := List.eq_nil_of_length_eq_zero (by omega)
    simp [rHeads, chunks_nil, tabI]
  | succ r ih =>
    intro l left last firsts t hl hleft h0 h1 hup
    by_cases hn : l = []
    · subst hn
      rw [rHeads_stop _ _ _ _ (by rcases hleft with h | h <;> simp at h <;> omega)]
      simp [chunks_nil, tabI]
    · have hpos : 0 < l.length := List.length_pos_iff.2 hn
      obtain rfl : left = l.length := by
        rcases hleft with h | h
        · exact h
        · exact absurd h.2 hn
      have hh : (l.take 8).headD 0 = l.headD 0 := by cases l <;> simp
      have hmem : l.headD 0 ∈ l := by cases l with | nil => exact absurd rfl hn | cons y l => simp
      have hb := hup.1 _ hmem
      have hbl := bodyI_len ((hup.take 8).part h0)
      have hlen8 : (l.take 8).length ≤ 8 := by simp; omega
      rw [chunks_cons hn, tabI, hh]
      rw [rHeads, if_pos (by omega)]
      simp only [List.append_assoc]
      rw [take_short _ _ (by omega) (by omega)]
      dsimp only
      rw [take_short _ _ (by omega) (by omega)]
      dsimp only
      rw [if_neg (by rintro (h | h | h) <;> first | (cases h; done) | omega), show last + (l.headD 0 - last) = l.headD 0 by omega]
      rw [ih (l.drop 8) ((l.length : Int) - 8) (l.headD 0) _ t (by simp; omega) (by
        by_cases h8 : 8 ≤ l.length
        · left; simp; omega
        · right; exact ⟨by omega, List.drop_of_length_le (by omega)⟩) (by omega) hb.2 (hup.drop 8 (by omega))]
      simp only [List.append_assoc, List.map_cons, List.cons_append, List.nil_append, hh]

/-- The rest of a block. -/
theorem rNums_part : ∀ (q : List Int) (n : Nat) (firsts t l : List Int) (prev : Int), l ≠ [] → l.getLastD 0 = prev → l.length % 8 ≠ 0 → l.length % 8 + q.length ≤ 8 → 0 ≤ prev → Up prev (prev :: q) →
    rNums (n + q.length) firsts (bodyFrom prev q ++ t) l = rNums n firsts t (l ++ q) := by
  intro q
  induction q with
  | nil => intro n firsts t l prev _ _ _ _ _ _; simp [bodyFrom]
  | cons y q ih =>
    intro n firsts t l prev hne hlast h8 hq h0 hup
    have h2 := List.pairwise_cons.1 hup.2
    have hy := h2.1 y (by simp)
    have hm := (hup.1 y (by simp)).2
    simp only [List.length_cons] at hq ⊢
    rw [show n + (q.length + 1) = (n + q.length) + 1 by omega, rNums, if_neg h8, bodyFrom, List.append_assoc, take_short _ _ (by omega) (by omega)]
    dsimp only
    rw [if_neg (by rintro (h | h) <;> first | (cases h; done) | omega), hlast, show prev + (y - prev - 1) + 1 = y by omega]
    cases q with
    | nil => simp [bodyFrom]
    | cons z q =>
      simp only [List.length_cons] at hq
      rw [ih n firsts t (l ++ [y]) y (by simp) (by simp) (by simp; omega) (by simp; omega) (by omega) ⟨fun x hx => ⟨?_, (hup.1 x (List.mem_cons_of_mem _ hx)).2⟩, h2.2⟩]
      · simp
      · rcases List.mem_cons.1 hx with rfl | hx
        · omega
        · have := (List.pairwise_cons.1 h2.2).1 x hx
          omega
theorem rNums_all : ∀ (k : Nat) (todo done firsts t : List Int) (last : Int), todo.length ≤ k → 0 ≤ last → Up last todo → done.length % 8 = 0 → firsts.drop (done.length / 8) = (chunks todo).map (·.headD 0) →
    rNums todo.length firsts (bodsI (chunks todo) ++ t) done = some (done ++ todo) := by
  intro k
  induction k with
  | zero =>
    intro todo done firsts t last hl _ _ _ _
    obtain rfl : todo = [] := List.eq_nil_of_length_eq_zero (by omega)
    simp [rNums]
  | succ k ih =>
    intro todo done firsts t last hl h0 hup hd hf
    by_cases hn : todo = []
    · subst hn; simp [rNums]
    · have hpos : 0 < todo.length := List.length_pos_iff.2 hn
      have hmem : todo.headD 0 ∈ todo := by cases todo with | nil => exact absurd rfl hn | cons y l => simp
      have hb := hup.1 _ hmem
      rw [chunks_cons hn] at hf ⊢
      obtain ⟨p, hp⟩ : ∃ p, todo.take 8 = p := ⟨_, rfl⟩
      have hpn : p ≠ [] := by
        rw [← hp]; intro h; have := congrArg List.length h; rw [List.length_take, List.length_nil] at this; omega
      have hp8 : p.length ≤ 8 := by rw [← hp, List.length_take]; omega
      have hupp : Up last p := by rw [← hp]; exact hup.take 8
      have hlen : todo.length = (todo.drop 8).length + p.length := by rw [← hp]; simp; omega
      have hth : todo.headD 0 = p.headD 0 := by rw [← hp]; cases todo <;> simp
      rw [hp] at hf ⊢
      cases p with
      | nil => exact absurd rfl hpn
      | cons y q =>
        have hfg : firsts.getD (done.length / 8) 0 = y := by
          have := congrArg (fun l => l.head?) hf
          simp only [List.map_cons, List.headD_cons, List.head?_cons, List.head?_drop] at this
          simp [List.getD, this]
        simp only [List.length_cons] at hlen hp8
        rw [hlen, show (todo.drop 8).length + (q.length + 1) = ((todo.drop 8).length + q.length) + 1 by omega, rNums, if_pos hd, hfg]
        simp only [bodsI, List.flatMap_cons, bodyI, List.append_assoc]
        rw [rNums_part q _ firsts _ (done ++ [y]) y (by simp) (by simp) (by simp; omega) (by simp; omega) (by have := (hupp.1 y (by simp)).1; omega) ⟨fun x hx => ⟨?_, (hupp.1 x hx).2⟩, hupp.2⟩]
        · by_cases hlt : todo.length ≤ 8
          · have hdr : todo.drop 8 = [] := List.drop_of_length_le hlt
            rw [hdr]
            have htk : todo = y :: q := by rw [← hp, List.take_of_length_le hlt]
            simp [rNums, htk]
          · have hq7 : q.length = 7 := by
              have := congrArg List.length hp
              rw [List.length_take] at this
              simp at this; omega
            have := ih (todo.drop 8) (done ++ [y] ++ q) firsts t (todo.headD 0) (by simp; omega) (by omega) (hup.drop 8 (by omega)) (by simp; omega) (by
              have e : (done ++ [y] ++ q).length / 8 = done.length / 8 + 1 := by simp; omega
              rw [e, ← List.drop_drop, hf]
              simp)
            simp only [bodsI] at this
            rw [this]
            have htk : todo = (y :: q) ++ todo.drop 8 := by rw [← hp, List.take_append_drop]
            conv => rhs; rw [htk]
            simp
        · rcases List.mem_cons.1 hx with rfl | hx
          · omega
          · have := (List.pairwise_cons.1 hupp.2).1 x hx
            omega

theorem refUnpack_iff (b l : List Int) : refUnpackI b = some l ↔ canB l = true ∧ packI l = b := by
  constructor
  · intro h
    unfold refUnpackI at h
    split at h
    · cases h
    · split at h
      · cases h
      · split at h
        · cases h
        · split at h
          · rename_i hh
            cases h
            exact hh
          · cases h
  · rintro ⟨h, rfl⟩
    have hlen : l.length ≤ 100000 := by simp only [canB, Bool.and_eq_true, decide_eq_true_eq] at h; exact h.2
    unfold refUnpackI
    have e1 : takeI (packI l) = ((l.length : Int), tabI (chunks l) 0 ++ bodsI (chunks l), true) := by
      rw [packI_tab, take_short _ _ (by omega) (by omega)]
    rw [e1]
    dsimp only
    rw [if_neg (by rintro (h | h) <;> first | (cases h; done) | omega)]
    rw [rHeads_tab 12501 l l.length 0 [] (bodsI (chunks l)) (by omega) (.inl rfl) (by omega) (by omega) (up_of_can h)]
    dsimp only
    have e2 := rNums_all l.length l [] ((chunks l).map (·.headD 0)) [] 0 (Nat.le_refl _) (by omega) (up_of_can h) (by simp) (by simp)
    rw [List.append_nil, List.nil_append] at e2
    rw [Int.toNat_natCast, List.nil_append, e2]
    dsimp only
    rw [if_pos ⟨h, rfl⟩]
theorem refUnpack_eq (b : List Int) : refUnpackI b = unpackI b := by
  cases h : unpackI b with
  | none =>
    cases h2 : refUnpackI b with
    | none => rfl
    | some l => rw [(unpack_iff b l).2 ((refUnpack_iff b l).1 h2)] at h; cases h
  | some l => exact (refUnpack_iff b l).2 ((unpack_iff b l).1 h)
end Go.Proofs.Ytdcmanihihlaiaa
