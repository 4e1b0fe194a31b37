/- postings.Unpack. -/
import Derived.Test.YtdcmanihihlaiaaNums25
import Derived.Test.YtdcmanihihlaiaaBEq
import Derived.Test.YtdcmanihihlaiaaAwake25
namespace Go.Proofs.Ytdcmanihihlaiaa
open Go.RowKit HP
set_option linter.unusedSimpArgs false
set_option linter.unusedVariables false

/-! ### what is packed is bytes -/
theorem shortN_bytes (k : Nat) : ∀ n, n ≤ k → Bytes (shortN n) := by
  induction k with
  | zero => intro n hn x hx; rw [shortN_lt (by omega)] at hx; simp at hx; omega
  | succ k ih =>
    intro n hn x hx
    by_cases h : n < 128
    · rw [shortN_lt h] at hx; simp at hx; omega
    · rw [shortN_ge h] at hx
      rcases List.mem_cons.1 hx with rfl | hx
      · omega
      · exact ih (n / 128) (by omega) x hx
theorem shortI_bytes (n : Int) : Bytes (shortI n) := by
  unfold shortI
  split
  · intro x hx; simp at hx; omega
  · exact shortN_bytes _ _ (Nat.le_refl _)
theorem Bytes.append {a b : List Int} (ha : Bytes a) (hb : Bytes b) : Bytes (a ++ b) := fun x hx => by
  rcases List.mem_append.1 hx with h | h
  · exact ha x h
  · exact hb x h
theorem bodyFrom_bytes (l : List Int) : ∀ p, Bytes (bodyFrom p l) := by
  induction l with
  | nil => intro p x hx; cases hx
  | cons y l ih => intro p; exact (shortI_bytes _).append (ih y)
theorem bodyI_bytes (l : List Int) : Bytes (bodyI l) := by
  cases l with
  | nil => intro x hx; cases hx
  | cons y l => exact bodyFrom_bytes l y
theorem packSt_bytes (l : List Int) (xs : List Nat) : Bytes (packSt l xs).1 ∧ Bytes (packSt l xs).2.1 := by
  unfold packSt
  suffices h : ∀ (xs : List Nat) (st : List Int × List Int × Int), Bytes st.1 ∧ Bytes st.2.1 → Bytes (xs.foldl (packStep l) st).1 ∧ Bytes (xs.foldl (packStep l) st).2.1 from
    h xs (shortI l.length, [], 0) ⟨shortI_bytes l.length, fun x hx => by cases hx⟩
  intro xs
  induction xs with
  | nil => intro st h; exact h
  | cons x xs ih =>
    intro st h
    refine ih _ ?_
    unfold packStep
    exact ⟨(h.1.append (shortI_bytes _)).append (shortI_bytes _), h.2.append (bodyI_bytes _)⟩
theorem packI_bytes (l : List Int) : Bytes (packI l) := (packSt_bytes l _).1.append (packSt_bytes l _).2

/-! ### what open gives -/
def Blk (m : Nat) (x : Int × List Int × Int) : Prop := 0 ≤ x.1 ∧ x.1 ≤ 2147483647 ∧ x.2.2 ≤ 8 ∧ Bytes x.2.1 ∧ x.2.1.length ≤ m
theorem numI_fit (l : List Int) (bad : Bool) (h : Bytes l) : Bytes (numI l bad).2.1 ∧ (numI l bad).2.1.length ≤ l.length := by
  obtain ⟨k, hk⟩ := numI_rest l bad
  rw [hk]
  exact ⟨h.drop k, by simp⟩
theorem heads_fit : ∀ (r : Nat) (left : Int) (rest : List Int) (bad : Bool) (first : Int) (sizes : List Int) (bl : List (Int × Int)) (rest' : List Int) (bad' : Bool) (sizes' : List Int) (bl' : List (Int × Int)),
    heads r left rest bad first sizes bl = some (rest', bad', sizes', bl') → Bytes rest → 0 ≤ first → (∀ x ∈ bl, 0 ≤ x.1 ∧ x.1 ≤ 2147483647 ∧ x.2 ≤ 8) →
    Bytes rest' ∧ rest'.length ≤ rest.length ∧ (∀ x ∈ bl', 0 ≤ x.1 ∧ x.1 ≤ 2147483647 ∧ x.2 ≤ 8) ∧ bl'.length ≤ bl.length + r := by
  intro r
  induction r with
  | zero =>
    intro left rest bad first sizes bl rest' bad' sizes' bl' h hb hf hbl
    simp only [heads, Option.some.injEq, Prod.mk.injEq] at h
    obtain ⟨rfl, rfl, rfl, rfl⟩ := h
    exact ⟨hb, Nat.le_refl _, hbl, by omega⟩
  | succ r ih =>
    intro left rest bad first sizes bl rest' bad' sizes' bl' h hb hf hbl
    rw [heads] at h
    split at h
    · split at h
      · cases h
      · obtain ⟨h1, h2⟩ := numI_fit rest bad hb
        obtain ⟨h3, h4⟩ := numI_fit _ (numI rest bad).2.2 h1
        have hbd := numI_bd rest bad hb
        obtain ⟨g1, g2, g3, g4⟩ := ih _ _ _ _ _ _ _ _ _ _ h h3 (by omega) (by
          intro x hx
          rcases List.mem_append.1 hx with hx | hx
          · exact hbl x hx
          · simp only [List.mem_singleton] at hx
            subst hx
            dsimp only
            split <;> omega)
        refine ⟨g1, by omega, g3, ?_⟩
        simp only [List.length_append, List.length_cons, List.length_nil] at g4
        omega
    · simp only [Option.some.injEq, Prod.mk.injEq] at h
      obtain ⟨rfl, rfl, rfl, rfl⟩ := h
      exact ⟨hb, Nat.le_refl _, hbl, by omega⟩
theorem bodies_fit (m : Nat) : ∀ (sizes : List Int) (bl : List (Int × Int)) (rest : List Int) (r : List (Int × List Int × Int)), bodies sizes bl rest = some r → Bytes rest → rest.length ≤ m → (∀ x ∈ bl, 0 ≤ x.1 ∧ x.1 ≤ 2147483647 ∧ x.2 ≤ 8) →
    (∀ x ∈ r, Blk m x) ∧ r.length ≤ bl.length := by
  intro sizes
  induction sizes with
  | nil => intro bl rest r h _ _ _; simp [bodies] at h; subst h; simp
  | cons s sizes ih =>
    intro bl rest r h hb hm hbl
    cases bl with
    | nil => simp [bodies] at h; subst h; simp
    | cons x bl =>
      obtain ⟨f, c⟩ := x
      simp only [bodies] at h
      split at h
      · cases h
      · obtain ⟨y, hy, rfl⟩ := Option.map_eq_some_iff.1 h
        obtain ⟨g1, g2⟩ := ih bl _ y hy (hb.drop _) (by simp; omega) (fun x hx => hbl x (List.mem_cons_of_mem _ hx))
        have hx := hbl (f, c) (List.mem_cons_self ..)
        refine ⟨?_, by simpa using g2⟩
        intro z hz
        rcases List.mem_cons.1 hz with rfl | hz
        · exact ⟨hx.1, hx.2.1, hx.2.2, fun x hx => hb x (List.mem_of_mem_take hx), by simp; omega⟩
        · exact g1 z hz
theorem openI_fit {b : List Int} {bl : List (Int × List Int × Int)} (hb : Bytes b) (h : openI b = some bl) : (∀ x ∈ bl, Blk b.length x) ∧ bl.length ≤ 12501 := by
  unfold openI at h
  split at h
  · cases h
  · obtain ⟨h1, h2⟩ := numI_fit b false hb
    cases hh : heads 12501 (numI b false).1 (numI b false).2.1 false 0 [] [] with
    | none => rw [hh] at h; cases h
    | some y =>
      obtain ⟨rest', bad', sizes', bl'⟩ := y
      rw [hh] at h
      dsimp only at h
      obtain ⟨g1, g2, g3, g4⟩ := heads_fit _ _ _ _ _ _ _ _ _ _ _ hh h1 (by omega) (fun x hx => by cases hx)
      split at h
      · cases h
      · obtain ⟨k1, k2⟩ := bodies_fit b.length _ _ _ _ h g1 (by omega) g3
        simp only [List.length_nil] at g4
        exact ⟨k1, by omega⟩
theorem numsG_len : ∀ (f : Nat) (count : Int) (rest : List Int) (bad : Bool) (last : Int) (l : List Int), (numsG f count rest bad last l).length ≤ l.length + f := by
  intro f
  induction f with
  | zero => intro count rest bad last l; simp [numsG]
  | succ f ih =>
    intro count rest bad last l
    rw [numsG]
    split
    · have := ih count (numI rest bad).2.1 (numI rest bad).2.2 (last + (numI rest bad).1 + 1) (l ++ [last + (numI rest bad).1 + 1])
      simp only [List.length_append, List.length_cons, List.length_nil] at this
      omega
    · omega
theorem numsI_len (first : Int) (body : List Int) (count : Int) : (numsI first body count).length ≤ 9 := by
  have := numsG_len 8 count body false first [first]
  simpa [numsI] using this

def numsAll (bl : List (Int × List Int × Int)) : List Int := bl.flatMap fun x => numsI x.1 x.2.1 x.2.2
def unpackI (b : List Int) : Option (List Int) :=
  match openI b with
  | none => none
  | some bl => if canB (numsAll bl) = true ∧ packI (numsAll bl) = b then some (numsAll bl) else none
def unpackPost (E : Env) (q : HP) (r : Option (List Int)) (e : Ending) (w' : World) : Prop :=
  match r with
  | none => e = .returned (.tuple #[.slice none 0 0, .int .i64 5]) ∧ Sat E w' q
  | some l => ∃ v, e = .returned (.tuple #[v, .int .i64 0]) ∧ Sat E w' (HP.row 3 1 v l.length (i64s l) * q)

theorem blkCells_get (vs : List (Int × Value × Int)) : ∀ (k : Nat) (h : k < vs.length), (blkCells vs)[3 * k]? = some (.int .i64 vs[k].1) ∧ (blkCells vs)[3 * k + 1]? = some vs[k].2.1 ∧ (blkCells vs)[3 * k + 2]? = some (.int .i64 vs[k].2.2) := by
  induction vs with
  | nil => intro k h; simp at h
  | cons x vs ih =>
    intro k h
    cases k with
    | zero => simp [blkCells]
    | succ k =>
      have := ih k (by simpa using h)
      simp only [blkCells, List.flatMap_cons] at this ⊢
      rw [show 3 * (k + 1) = 3 * k + 1 + 1 + 1 by omega, show 3 * k + 1 + 1 + 1 + 1 = (3 * k + 1) + 1 + 1 + 1 by omega, show 3 * k + 1 + 1 + 1 + 2 = (3 * k + 2) + 1 + 1 + 1 by omega]
      simpa using this

set_option maxHeartbeats 2000000 in
set_option maxRecDepth 100000 in
theorem unpack_ok (E : Env) (q : HP) (A : Option Addr) (b : List Int) (c : Nat) (w : World) (hl : b.length ≤ c) (hb : Bytes b) (hcl : b.length ≤ 1000000) (hw : Sat E w q) (hq : ∀ w, Sat E w q → Cells w A (u8s b)) :
    Calls Try.prog 10 #[.slice A b.length c] w (unpackPost E q (unpackI b)) := by
  have HU : Aside (unpackI b = match openI b with
      | none => none
      | some bl => if canB (numsAll bl) = true ∧ packI (numsAll bl) = b then some (numsAll bl) else none) := ⟨rfl⟩
  go_enter Try.func10, Try.ntmps10
  go_wp2_with fail
  refine (open_ok E q A b c w hl hb hcl hw hq).mono ?_
  cases ho : openI b with
  | none =>
    rintro e w1 ⟨rfl, hw1⟩
    rw [ho] at HU
    clear hw hq ho
    have HT : Aside (unpackPost E q (unpackI b) (.returned (.tuple #[.slice none 0 0, .int .i64 5])) w1) := ⟨by rw [HU.out]; exact ⟨rfl, hw1⟩⟩
    clear hw1 HU
    go_wp2
    go_ret2
    exact HT.out
  | some bl =>
    rintro e w1 ⟨g, v, vs, rfl, hw1, hlen, hfit⟩
    obtain ⟨hblk, hbl⟩ := openI_fit hb ho
    rw [ho] at HU
    dsimp only at HU
    obtain ⟨Av, cv, rfl, -, -⟩ := hw1.s2.row_slice
    have c0 := hw1.cell 0
    simp only [List.getElem?_toArray, List.getElem?_cons_zero, List.getElem?_cons_succ] at c0
    have HS1 := Aside.mk (hw1.right.row_nil 3 1 none)
    clear hw hw1 ho
    have HF := Aside.mk (And.intro hlen (And.intro hfit hblk))
    clear hlen hfit hblk
    go_wp2
    go_loopw [5, 19] (fun x5 x19 wr => ∃ (k N : Nat), x19 = .int .i64 k ∧ k ≤ vs.length ∧ Aside ((numsAll (bl.take k)).length = N) ∧ N ≤ 9 * k ∧
      Aside (Sat E wr (HP.row 3 1 x5 N (i64s (numsAll (bl.take k))) * (HP.row 70 3 (.slice Av vs.length cv) vs.length (blkCells vs) * q)))) (fun _ x _ => vs.length - (intOf x).toNat)
    case atStart => exact ⟨0, 0, rfl, Nat.zero_le _, ⟨rfl⟩, Nat.le_refl _, HS1⟩
    case round =>
      clear HS1 c0
      obtain ⟨k, N, rfl, hk, HN, hN, HS⟩ := hrel
      obtain ⟨A5, c5, rfl, -, -⟩ := HS.out.row_slice
      have hvl : vs.length ≤ 12501 := by rw [HF.out.1]; exact hbl
      by_cases hlt : k < vs.length
      · have hc := HS.out.s2.row_cells
        obtain ⟨a, ha, -⟩ := hc.at_ (3 * k) (by
          have := HS.out.s2.row_cases.1
          omega)
        obtain ⟨gb, ob, rfl⟩ : ∃ g o, a = ⟨g, o, none⟩ := slice_addr hc ha (k := 3 * k) (by
          have := HS.out.s2.row_cases.1
          omega)
        subst ha
        obtain ⟨e1, e2, e3⟩ := blkCells_get vs k hlt
        have d1 := HS.out.s2.row_cell _ _ e1
        have d2 := HS.out.s2.row_cell _ _ e2
        have d3 := HS.out.s2.row_cell _ _ e3
        rw [show ob + 3 * k = ob + k * 3 by omega] at d1
        rw [show ob + (3 * k + 1) = ob + k * 3 + 1 by omega] at d2
        rw [show ob + (3 * k + 2) = ob + k * 3 + 2 by omega] at d3
        have hkb : k < bl.length := by rw [← HF.out.1]; exact hlt
        obtain ⟨f1, f2, Ak, ck, f3, f4, f5⟩ := HF.out.2.1 k hlt hkb
        obtain ⟨b1, b2, b3, b4, b5⟩ := HF.out.2.2 _ (List.getElem_mem hkb)
        rw [f1] at d1
        rw [f2] at d3
        rw [f3] at d2
        have HB : Aside (numsAll (bl.take (k + 1)) = numsAll (bl.take k) ++ numsI bl[k].1 bl[k].2.1 bl[k].2.2) := ⟨by
          rw [List.take_succ_eq_append_getElem hkb]; simp only [numsAll, List.flatMap_append, List.flatMap_cons, List.flatMap_nil, List.append_nil]⟩
        have hn9 := numsI_len bl[k].1 bl[k].2.1 bl[k].2.2
        generalize bl[k] = x at *
        obtain ⟨x1, x2, x3⟩ := x
        dsimp only at *
        clear hc e1 e2 e3 f1 f2 f3
        have hk0 : (0 : Int) ≤ (k : Int) := by omega
        have hk1 : (k : Int) < (vs.length : Int) := by omega
        go_wp2_with fail
        refine (numbers_ok E _ Ak x2 ck x1 x3 _ f4 b4 (by omega) ⟨b1, b2⟩ b3 (HS.out.alloc _) (fun w h => f5 w h.right.right.right)).mono ?_
        rintro e w2 ⟨v2, rfl, hw2⟩
        obtain ⟨A2, c2, rfl, -, -⟩ := hw2.row_slice
        clear d1 d2 d3 HS f5 f4 b1 b2 b3 b4 b5
        have hall : (i64s (numsI x1 x2 x3)).all Value.oneCell' = true := by simp [i64s, Value.oneCell']
        have hil : (i64s (numsI x1 x2 x3)).length = (numsI x1 x2 x3).length * 1 := by simp [i64s]
        generalize numsI x1 x2 x3 = ll at *
        generalize hm : ll.length = m at *
        have HM := Aside.mk hm
        have HW := Aside.mk hw2
        have HAL := Aside.mk (And.intro hall hil)
        clear hm hw2 hall hil
        go_wp2_with (at_builtin; refine wpList_append_row slI64 rfl rfl (by rfl) (by rfl) HW.out.s3 HW.out.row_cells HAL.out.2 HAL.out.1 (by unfold maxLen; omega) (by omega) (fun v4 w4 hw4 => ?_); have HW4 := Aside.mk hw4; clear hw4)
        go_roundw
        case rel =>
          refine ⟨k + 1, N + m, by go_num, by omega, ⟨by rw [HB.out, List.length_append, HN.out, HM.out]⟩, by omega, ⟨?_⟩⟩
          have h9 := HW4.out.drop2.drop2
          rw [HB.out]
          simpa only [i64s, List.map_append] using h9
        case measure => simp [intOf]; omega
      · have hkN : k = vs.length := by omega
        rw [List.take_of_length_le (show bl.length ≤ k by rw [← HF.out.1]; omega)] at HN HS
        have hN2 : N ≤ 1000000 := by omega
        generalize numsAll bl = l at *
        obtain rfl := HN.out
        clear HF HN hN hkN
        obtain ⟨Kx, hKx⟩ : ∃ y, k = y := ⟨_, rfl⟩
        have hS := HS.out.drop2
        have hcu := hS.row_cells
        have hlc : l.length ≤ c5 := by
          obtain ⟨A', c', he, h1, -⟩ := hS.row_slice
          cases he; exact h1
        clear HS hl
        by_cases hc : canB l = true
        · go_wp2_with fail
          refine (pack_ok E _ A5 l c5 _ hN2 hlc hS (fun w h => ⟨h.row_cells⟩) hc).mono ?_
          rintro e w2 ⟨v2, rfl, hw2⟩
          obtain ⟨A2, c2, rfl, -, -⟩ := hw2.row_slice
          clear hS hcu
          go_wp2_with fail
          refine (bytesEqual_ok A2 A (packI l) b c2 c _ hw2.row_cells (hq _ hw2.right.right) (packI_bytes l) hb).mono ?_
          rintro e w3 ⟨rfl, rfl⟩
          by_cases he : packI l = b
          · have HT : Aside (unpackPost E q (unpackI b) (.returned (.tuple #[.slice A5 l.length c5, .int .i64 0])) w3) := ⟨by
              rw [HU.out, if_pos ⟨hc, he⟩]; exact ⟨_, rfl, hw2.right⟩⟩
            have hd : decide (packI l = b) = true := decide_eq_true he
            rw [hd]
            clear he hd HU hw2 hc hq hb
            go_wp2
            go_ret2
            exact HT.out
          · have HT : Aside (unpackPost E q (unpackI b) (.returned (.tuple #[.slice none 0 0, .int .i64 5])) w3) := ⟨by
              rw [HU.out, if_neg (fun h => he h.2)]; exact ⟨rfl, hw2.right.right⟩⟩
            have hd : decide (packI l = b) = false := decide_eq_false he
            rw [hd]
            clear he hd HU hw2 hc hq hb
            go_wp2
            go_ret2
            exact HT.out
        · go_wp2_with fail
          refine (pack_no A5 l c5 _ hN2 ⟨hcu⟩ (by simpa using hc)).mono ?_
          rintro e w2 ⟨rfl, rfl⟩
          have HT : Aside (unpackPost E q (unpackI b) (.returned (.tuple #[.slice none 0 0, .int .i64 5])) w2) := ⟨by
            rw [HU.out, if_neg (fun h => hc h.1)]; exact ⟨rfl, hS.right⟩⟩
          clear HU hS hc hq hb hcu
          go_wp2
          go_ret2
          exact HT.out
end Go.Proofs.Ytdcmanihihlaiaa
