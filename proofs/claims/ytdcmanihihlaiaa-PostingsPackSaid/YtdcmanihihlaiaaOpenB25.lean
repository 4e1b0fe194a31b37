/- postings.open: packed numbers laid open, block by block. -/
import Derived.Test.YtdcmanihihlaiaaOpen25
namespace Go.Proofs.Ytdcmanihihlaiaa
open Go.RowKit HP
set_option linter.unusedSimpArgs false
set_option linter.unusedVariables false

theorem slI64 : SlTy Try.prog 23 3 (.int .i64 0) 1 8 := ⟨Try.underlying23, by kernel_rfl, rfl, by decide⟩
theorem slBlock : SlTy Try.prog 66 70 (.agg #[.int .i64 0, .slice none 0 0, .int .i64 0]) 3 40 := ⟨Try.underlying66, by kernel_rfl, rfl, by decide⟩

/-- The heads of the blocks: so many numbers are left; the bytes, whether they were bad; the first number so far; sizes, and first numbers with counts. -/
def heads : Nat → Int → List Int → Bool → Int → List Int → List (Int × Int) → Option (List Int × Bool × List Int × List (Int × Int))
  | 0, _, rest, bad, _, sizes, bl => some (rest, bad, sizes, bl)
  | r + 1, left, rest, bad, first, sizes, bl =>
    if left > 0 ∧ bad = false then
      if first + (numI rest bad).1 > 2147483647 then none
      else heads r (left - 8) (numI (numI rest bad).2.1 (numI rest bad).2.2).2.1 (numI (numI rest bad).2.1 (numI rest bad).2.2).2.2 (first + (numI rest bad).1)
        (sizes ++ [(numI (numI rest bad).2.1 (numI rest bad).2.2).1]) (bl ++ [(first + (numI rest bad).1, if 8 < left then 8 else left)])
    else some (rest, bad, sizes, bl)

theorem heads_stop (r : Nat) (left : Int) (rest : List Int) (bad : Bool) (first : Int) {sizes : List Int} {bl : List (Int × Int)} (h : ¬ (left > 0 ∧ bad = false)) : heads r left rest bad first sizes bl = some (rest, bad, sizes, bl) := by
  cases r with
  | zero => rfl
  | succ r => rw [heads, if_neg h]
theorem numG_bd (l : List Int) : ∀ (f i : Nat) (n : Int) (r : Int × Nat), f + i = 5 → 0 ≤ n → n < 2 ^ (7 * i) → Bytes l → numG l f i n = some r → 0 ≤ r.1 ∧ r.1 < 34359738368 := by
  intro f
  induction f with
  | zero => intro i n r _ _ _ _ h; simp [numG] at h
  | succ f ih =>
    intro i n r hf h0 h1 hb h
    rw [numG] at h
    cases hl : l[i]? with
    | none => rw [hl] at h; cases h
    | some b =>
      rw [hl] at h
      dsimp only at h
      have hbb := hb b (List.mem_of_getElem? hl)
      obtain ⟨_, h2, h3⟩ := or_shift n b i h0 h1 hbb (by omega)
      split at h
      · cases h
        refine ⟨h2, Int.lt_of_lt_of_le h3 ?_⟩
        have : (2 : Int) ^ (7 * (i + 1)) ≤ 2 ^ 35 := by
          have := Nat.pow_le_pow_right (n := 2) (by omega) (show 7 * (i + 1) ≤ 35 by omega)
          exact_mod_cast this
        exact this
      · exact ih (i + 1) _ r (by omega) h2 h3 hb h
theorem numI_bd (l : List Int) (bad : Bool) (hb : Bytes l) : 0 ≤ (numI l bad).1 ∧ (numI l bad).1 < 34359738368 := by
  unfold numI
  cases h : numG l 5 0 0 with
  | none => simp
  | some r =>
    obtain ⟨n, k⟩ := r
    exact numG_bd l 5 0 0 (n, k) (by omega) (by omega) (by decide) hb h
theorem numI_rest (l : List Int) (bad : Bool) : ∃ k, (numI l bad).2.1 = l.drop k := by
  unfold numI
  cases h : numG l 5 0 0 with
  | none => exact ⟨l.length, by simp⟩
  | some r => exact ⟨r.2, rfl⟩
theorem Bytes.drop {l : List Int} (h : Bytes l) (k : Nat) : Bytes (l.drop k) := fun x hx => h x (List.mem_of_mem_drop hx)

/-- The cells of blocks: the first number, the body's slice, the count. -/
def blkCells (bl : List (Int × Value × Int)) : List Value := bl.flatMap fun x => [.int .i64 x.1, x.2.1, .int .i64 x.2.2]
theorem blkCells_len (bl : List (Int × Value × Int)) : (blkCells bl).length = bl.length * 3 := by
  induction bl with
  | nil => rfl
  | cons x bl ih => simp only [blkCells, List.flatMap_cons, List.length_append, List.length_cons, List.length_nil] at ih ⊢; omega

/-- What is known of blocks and of what they are to be. -/
def Fit (E : Env) (q : HP) (vs : List (Int × Value × Int)) (pre : List (Int × List Int × Int)) : Prop :=
  ∀ i (h1 : i < vs.length) (h2 : i < pre.length), vs[i].1 = pre[i].1 ∧ vs[i].2.2 = pre[i].2.2 ∧ ∃ A c, vs[i].2.1 = .slice A pre[i].2.1.length c ∧ pre[i].2.1.length ≤ c ∧ ∀ w, Sat E w q → Cells w A (u8s pre[i].2.1)
/-- What 'open' hands back: nothing, or a list. -/
def openPost (E : Env) (q : HP) (r : Option (List (Int × List Int × Int))) (e : Ending) (w' : World) : Prop :=
  match r with
  | none => e = .returned (.pointer none) ∧ Sat E w' q
  | some bl => ∃ (g : Nat) (v : Value) (vs : List (Int × Value × Int)), e = .returned (.pointer (some ⟨g, 0, none⟩)) ∧ Sat E w' (HP.pt g (.cells #[v] 68) * (HP.row 70 3 v vs.length (blkCells vs) * q)) ∧
      vs.length = bl.length ∧ Fit E q vs bl

/-- The bodies of blocks. -/
def bodies : List Int → List (Int × Int) → List Int → Option (List (Int × List Int × Int))
  | s :: ss, (f, c) :: bl, rest => if s > rest.length then none else (bodies ss bl (rest.drop s.toNat)).map ((f, rest.take s.toNat, c) :: ·)
  | _, _, _ => some []
def openI (b : List Int) : Option (List (Int × List Int × Int)) :=
  if (numI b false).2.2 = true ∨ (numI b false).1 > 100000 then none
  else match heads 12501 (numI b false).1 (numI b false).2.1 false 0 [] [] with
    | none => none
    | some (rest, bad, sizes, bl) => if bad = true then none else bodies sizes bl rest

theorem blkCells_at (vs : List (Int × Value × Int)) : ∀ (k : Nat) (h : k < vs.length) (u : Value), (blkCells vs).set (3 * k + 1) u = blkCells (vs.set k (vs[k].1, u, vs[k].2.2)) := by
  induction vs with
  | nil => intro k h; simp at h
  | cons x vs ih =>
    intro k h u
    cases k with
    | zero => simp [blkCells]
    | succ k =>
      have := ih k (by simpa using h) u
      simp only [blkCells, List.flatMap_cons] at this ⊢
      rw [show 3 * (k + 1) + 1 = 3 * k + 1 + 1 + 1 + 1 by omega]
      simp [this]
theorem open_next {E : Env} {q : HP} {N k m : Nat} {sizes : List Int} {bl : List (Int × Int)} {rest : List Int} {vs : List (Int × Value × Int)} {pre : List (Int × List Int × Int)} {A2 : Option Addr} {l : List Int}
    (hkv : k < vs.length) (hkb : k < bl.length) (hl : vs.length = N ∧ pre.length = k) (hm : (m : Int) ≤ rest.length) (hO : openI l = (bodies (sizes.drop k) (bl.drop k) rest).map (pre ++ ·))
    (hd1 : sizes.drop k = (m : Int) :: sizes.drop (k + 1)) (hV : Fit E q vs pre) (hD : vs.drop k = (bl.drop k).map fun x => (x.1, .slice none 0 0, x.2))
    (hA : ∀ w, Sat E w q → Cells w A2 (u8s (rest.take m))) :
    ((vs.set k (vs[k].1, .slice A2 m m, vs[k].2.2)).length = N ∧ (pre ++ [(bl[k].1, rest.take m, bl[k].2)]).length = k + 1) ∧
    openI l = (bodies (sizes.drop (k + 1)) (bl.drop (k + 1)) (rest.drop m)).map ((pre ++ [(bl[k].1, rest.take m, bl[k].2)]) ++ ·) ∧
    Fit E q (vs.set k (vs[k].1, .slice A2 m m, vs[k].2.2)) (pre ++ [(bl[k].1, rest.take m, bl[k].2)]) ∧
    (vs.set k (vs[k].1, .slice A2 m m, vs[k].2.2)).drop (k + 1) = (bl.drop (k + 1)).map fun x => (x.1, .slice none 0 0, x.2) := by
  have hdb := List.drop_eq_getElem_cons hkb
  have hdv := List.drop_eq_getElem_cons hkv
  have hlt : (rest.take m).length = m := by rw [List.length_take]; omega
  refine ⟨⟨by simpa using hl.1, by simp [hl.2]⟩, ?_, ?_, ?_⟩
  · rw [hO, hd1, hdb]
    simp only [bodies, if_neg (show ¬ ((m : Int) > rest.length) by omega), Int.toNat_natCast, Option.map_map]
    congr 1
    funext x
    simp
  · rw [hdb, hdv] at hD
    simp only [List.map_cons, List.cons.injEq] at hD
    intro i h1 h2
    simp only [List.length_set] at h1
    by_cases hik : i = k
    · subst hik
      have e1 : (pre ++ [(bl[i].1, rest.take m, bl[i].2)])[i] = (bl[i].1, rest.take m, bl[i].2) := by
        rw [List.getElem_append_right (by omega)]; simp [hl.2]
      rw [e1, List.getElem_set_self]
      dsimp only
      rw [hD.1]
      exact ⟨rfl, rfl, A2, m, by rw [hlt], by omega, hA⟩
    · have hi : i < pre.length := by simp at h2; omega
      rw [List.getElem_set_ne (by omega), List.getElem_append_left hi]
      exact hV i h1 hi
  · rw [List.drop_set_of_lt (by omega)]
    rw [hdb, hdv] at hD
    simp only [List.map_cons, List.cons.injEq] at hD
    exact hD.2

set_option maxHeartbeats 2000000 in
set_option maxRecDepth 100000 in
theorem open_ok (E : Env) (q : HP) (A : Option Addr) (l : List Int) (c : Nat) (w : World) (hl : l.length ≤ c) (hb : Bytes l) (hcl : l.length ≤ 1000000) (hw : Sat E w q) (hq : ∀ w, Sat E w q → Cells w A (u8s l)) :
    Calls Try.prog 34 #[.slice A l.length c] w (openPost E q (openI l)) := by
  go_enter Try.func34, Try.ntmps34
  go_wp2_with fail
  have h0 := hw.alloc (.cells #[.slice A l.length c, .bool false] 90)
  refine (number_ok E q q w.heap.size A l c false _ hl hb hcl h0 (fun _ h => h) hq).mono ?_
  rintro e w1 ⟨rfl, A1, c1, hc1, hw1, hq1⟩
  obtain ⟨k1, hk1⟩ := numI_rest l false
  have hbd := numI_bd l false hb
  have hb1 : Bytes (numI l false).2.1 := by rw [hk1]; exact hb.drop k1
  have hle1 : (numI l false).2.1.length ≤ 1000000 := by rw [hk1, List.length_drop]; omega
  have HO : Aside (openI l = if (numI l false).2.2 = true ∨ (numI l false).1 > 100000 then none
    else match heads 12501 (numI l false).1 (numI l false).2.1 false 0 [] [] with
      | none => none
      | some (rest, bad, sizes, bl) => if bad = true then none else bodies sizes bl rest) := ⟨rfl⟩
  generalize numI l false = r at *
  obtain ⟨left, rest, bad⟩ := r
  dsimp only at *
  clear hk1 h0 hw hq
  generalize w.heap.size = bs at *
  cases bad with
  | true =>
    have c0 := hw1.cell 1
    simp only [List.getElem?_toArray, List.getElem?_cons_zero, List.getElem?_cons_succ] at c0
    go_wp2
    go_ret
    rw [HO.out, if_pos (by simp)]
    exact ⟨rfl, hw1.right⟩
  | false =>
    by_cases hm : left > 100000
    · have c0 := hw1.cell 1
      simp only [List.getElem?_toArray, List.getElem?_cons_zero, List.getElem?_cons_succ] at c0
      go_wp2
      go_ret
      rw [HO.out, if_pos (by simp; omega)]
      exact ⟨rfl, hw1.right⟩
    · rw [if_neg (by simp [hm])] at HO
      have c0 := hw1.cell 1
      simp only [List.getElem?_toArray, List.getElem?_cons_zero, List.getElem?_cons_succ] at c0
      have hs1 := ((hw1.alloc (.cells #[.slice none 0 0] 68)).row_nil 3 1 none).row_nil 70 3 none
      have HS1 := Aside.mk (hs1.perm (show _ = HP.pt bs (.cells #[.slice A1 rest.length c1, .bool false] 90) * (HP.row 3 1 (.slice none 0 0) 0 [] * (HP.pt w1.heap.size (.cells #[.slice none 0 0] 68) * (HP.row 70 3 (.slice none 0 0) 0 [] * q))) by ac_rfl))
      clear hs1 hw1
      go_wp2
      generalize w1.heap.size = gl at *
      generalize World.alloc _ _ = w1' at *
      go_loopw [4, 6, 7] (fun x6 x7 x8 wr => ∃ (r : Nat) (left first : Int) (rest : List Int) (bad : Bool) (A1 : Option Addr) (c1 : Nat) (sizes : List Int) (bl : List (Int × Int)) (vb : Value) (N : Nat),
        x6 = .int .i64 left ∧ x8 = .int .i64 first ∧ left ≤ 8 * r ∧ -8 ≤ left ∧ 0 ≤ first ∧ first ≤ 2147483647 ∧ rest.length ≤ c1 ∧ rest.length ≤ 1000000 ∧ N + r ≤ 12501 ∧ Aside (sizes.length = N ∧ ∀ x ∈ sizes, 0 ≤ x) ∧ Aside (bl.length = N) ∧ Bytes rest ∧ (∀ w, Sat E w q → Cells w A1 (u8s rest)) ∧
        Aside (openI l = match heads r left rest bad first sizes bl with
          | none => none
          | some (rest, bad, sizes, bl) => if bad = true then none else bodies sizes bl rest) ∧
        Aside (Sat E wr (HP.pt bs (.cells #[.slice A1 rest.length c1, .bool bad] 90) * (HP.row 3 1 x7 N (sizes.map (Value.int .i64)) * (HP.pt gl (.cells #[vb] 68) * (HP.row 70 3 vb N (blkCells (bl.map fun x => (x.1, .slice none 0 0, x.2))) * q)))))) (fun x6 _ _ _ => (intOf x6 + 8).toNat)
      case atStart => exact ⟨12501, left, 0, rest, false, A1, c1, [], [], _, 0, rfl, rfl, by omega, by omega, by omega, by omega, hc1, hle1, by omega, ⟨rfl, fun x hx => by cases hx⟩, ⟨rfl⟩, hb1, hq1, ⟨HO.out⟩, HS1⟩
      case round =>
        clear hq1 HS1 hc1 hle1 hb1 HO c0
        obtain ⟨r, left, first, rest, bad, A1, c1, sizes, bl, vb, N, rfl, rfl, hr, hl8, hf0, hf1, hc1, hle, hN, HN1, HN2, hb1, hq1, HO, HS⟩ := hrel
        have hS := HS.out
        obtain ⟨Ab, cb, rfl, -, -⟩ := hS.s4.row_slice
        obtain ⟨As, cs, rfl, -, -⟩ := hS.s2.row_slice
        have c0 := hS.cell 1
        simp only [List.getElem?_toArray, List.getElem?_cons_zero, List.getElem?_cons_succ] at c0
        by_cases hgo : left > 0 ∧ bad = false
        · obtain ⟨hp, rfl⟩ := hgo
          obtain ⟨r, rfl⟩ : ∃ r', r = r' + 1 := ⟨r - 1, by omega⟩
          rw [heads, if_pos ⟨hp, rfl⟩] at HO
          go_wp2_with fail
          refine (number_ok E _ q bs A1 rest c1 false _ hc1 hb1 hle hS (fun w h => h.right.right.right) hq1).mono ?_
          rintro e w2 ⟨rfl, A2, c2, hc2, hw2, hq2⟩
          obtain ⟨k1, hk1⟩ := numI_rest rest false
          have hbd := numI_bd rest false hb1
          have hb2 : Bytes (numI rest false).2.1 := by rw [hk1]; exact hb1.drop k1
          have hle2 : (numI rest false).2.1.length ≤ 1000000 := by rw [hk1, List.length_drop]; omega
          generalize numI rest false = r1 at *
          obtain ⟨n1, rest1, bad1⟩ := r1
          dsimp only at *
          clear hk1 HS hS hc1 hle hq1 hb1
          go_wp2_with fail
          refine (number_ok E _ q bs A2 rest1 c2 bad1 _ hc2 hb2 hle2 hw2 (fun w h => h.right.right.right) hq2).mono ?_
          rintro e w3 ⟨rfl, A3, c3, hc3, hw3, hq3⟩
          obtain ⟨k2, hk2⟩ := numI_rest rest1 bad1
          have hbd2 := numI_bd rest1 bad1 hb2
          have hb3 : Bytes (numI rest1 bad1).2.1 := by rw [hk2]; exact hb2.drop k2
          have hle3 : (numI rest1 bad1).2.1.length ≤ 1000000 := by rw [hk2, List.length_drop]; omega
          generalize numI rest1 bad1 = r2 at *
          obtain ⟨n2, rest2, bad2⟩ := r2
          dsimp only at *
          clear hk2 hw2 hc2 hle2 hq2 hb2
          have HS3 := Aside.mk hw3.s2
          clear hw3
          by_cases hg : first + n1 > 2147483647
          · rw [if_pos hg] at HO
            go_wp2_with (at_builtin; refine wpList_append_new slI64 rfl rfl (by rfl) (by rfl) HS3.out (by rfl) (by rfl) (by unfold maxLen; omega) (by omega) (fun v4 w4 hw4 => ?_))
            go_ret
            rw [HO.out]
            exact ⟨rfl, hw4.right.right.right.right⟩
          · rw [if_neg hg] at HO
            have h81 : -8 ≤ left - 8 := by omega
            have HB : Aside (blkCells ((bl ++ [(first + n1, if 8 < left then 8 else left)]).map fun x => (x.1, .slice none 0 0, x.2)) = blkCells (bl.map fun x => (x.1, .slice none 0 0, x.2)) ++ [.int .i64 (first + n1), .slice none 0 0, .int .i64 (if 8 < left then 8 else left)]) := ⟨by simp [blkCells]⟩
            by_cases h8 : 8 < left
            all_goals
              simp only [h8, if_true, if_false] at HB HO
              go_wp2_with (first
                | (at_builtin; refine wpList_append_new slBlock rfl rfl (by rfl) (by rfl) hw4.s4 (by rfl) (by rfl) (by unfold maxLen; omega) (by omega) (fun v5 w5 hw5 => ?_); obtain ⟨A5, c5, rfl, -, -⟩ := hw5.row_slice; have g5 := hw5.s4.cell1; have f5 := hw5.s4.thaw 0; clear hw4 g4 f4)
                | (at_builtin; refine wpList_append_new slI64 rfl rfl (by rfl) (by rfl) HS3.out (by rfl) (by rfl) (by unfold maxLen; omega) (by omega) (fun v4 w4 hw4 => ?_); obtain ⟨A4, c4, rfl, -, -⟩ := hw4.row_slice; have g4 := hw4.s3.cell1; have f4 := hw4.s3.thaw 0; clear HS3))
              go_roundw
              case rel =>
                refine ⟨r, left - 8, first + n1, rest2, bad2, A3, c3, sizes ++ [n2], _, .slice A5 (N + 1) c5, N + 1, by go_num, by first | rfl | trivial, by omega, by omega, by omega, by omega, hc3, hle3, by omega, ⟨by simp [HN1.out.1], fun x hx => by
                  rcases List.mem_append.1 hx with h | h
                  · exact HN1.out.2 x h
                  · rw [List.mem_singleton.1 h]; exact hbd2.1⟩, ⟨by rw [List.length_append, HN2.out]; rfl⟩, hb3, hq3, HO, ⟨?_⟩⟩
                rw [HB.out, List.map_append]
                exact (hw5.s4.set1 _).perm (by simp only [List.map_cons, List.map_nil]; ac_rfl)
              case measure => simp [intOf]; omega
        · rw [heads_stop _ _ _ _ _ hgo] at HO
          dsimp only at HO
          cases bad with
          | true =>
            have HQ : Aside (openPost E q (openI l) (.returned (.pointer none)) wr) := ⟨by rw [HO.out, if_pos rfl]; exact ⟨rfl, hS.right.right.right.right⟩⟩
            clear hgo HO
            by_cases hp : left > 0
            all_goals
              go_wp2
              go_ret
              exact HQ.out
          | false =>
            have hp : left ≤ 0 := by
              rcases Int.lt_or_le 0 left with h | h
              · exact absurd ⟨h, rfl⟩ hgo
              · exact h
            rw [if_neg (by simp)] at HO
            clear hgo
            go_wp2
            go_loopw [66] (fun i wr2 => ∃ (k : Nat) (rest : List Int) (A1 : Option Addr) (c1 : Nat) (vs : List (Int × Value × Int)) (pre : List (Int × List Int × Int)),
              i = .int .i64 k ∧ k ≤ N ∧ rest.length ≤ c1 ∧ rest.length ≤ 1000000 ∧ Aside (vs.length = N ∧ pre.length = k) ∧ (∀ w, Sat E w q → Cells w A1 (u8s rest)) ∧
              Aside (openI l = (bodies (sizes.drop k) (bl.drop k) rest).map (pre ++ ·)) ∧
              Aside (Fit E q vs pre) ∧
              Aside (vs.drop k = (bl.drop k).map fun x => (x.1, .slice none 0 0, x.2)) ∧
              Aside (Sat E wr2 (HP.pt bs (.cells #[.slice A1 rest.length c1, .bool false] 90) * (HP.row 3 1 (.slice As N cs) N (sizes.map (Value.int .i64)) * (HP.pt gl (.cells #[.slice Ab N cb] 68) * (HP.row 70 3 (.slice Ab N cb) N (blkCells vs) * q)))))) (fun i _ => N - (intOf i).toNat)
            case atStart =>
              refine ⟨0, rest, A1, c1, _, [], rfl, Nat.zero_le _, hc1, hle, ⟨by simp [HN2.out], rfl⟩, hq1, ⟨by rw [HO.out]; simp⟩, ⟨fun i h1 h2 => by simp at h2⟩, ⟨by rw [List.drop_zero, List.drop_zero]⟩, ⟨hS⟩⟩
            case round =>
              clear HS hS HO hc1 hle hq1 c0
              obtain ⟨k, rest2, A2, c2, vs, pre, rfl, hk, hc2, hle2, HLN, hq2, HO2, HV, HD, HS2⟩ := hrel
              have hS := HS2.out
              have c0 := hS.cell 0
              simp only [List.getElem?_toArray, List.getElem?_cons_zero, List.getElem?_cons_succ] at c0
              by_cases hlt : k < N
              · have hls : k < sizes.length := by rw [HN1.out.1]; exact hlt
                have hlb : k < bl.length := by rw [HN2.out]; exact hlt
                have hlv : k < vs.length := by rw [HLN.out.1]; exact hlt
                have hn0 := HN1.out.2 sizes[k] (List.getElem_mem _)
                have hds := List.drop_eq_getElem_cons hls
                have hdb := List.drop_eq_getElem_cons hlb
                have hdv := List.drop_eq_getElem_cons hlv
                obtain ⟨a2, ha2, g2⟩ := hS.s2.row_cells.at_ k (by simpa using hls)
                obtain ⟨gs, os, rfl⟩ := slice_addr hS.s2.row_cells ha2 (by simpa using hls)
                subst ha2
                rw [addr_add] at g2
                simp only [List.getElem_map] at g2
                generalize sizes[k] = n at g2 hn0 hds
                obtain ⟨m, rfl⟩ := Int.eq_ofNat_of_zero_le hn0
                have hlvc : 3 * k + 1 < (blkCells vs).length := by rw [blkCells_len]; omega
                obtain ⟨a3, ha3, _⟩ := hS.s4.row_cells.at_ (3 * k + 1) hlvc
                obtain ⟨gb, ob, rfl⟩ := slice_addr hS.s4.row_cells ha3 hlvc
                subst ha3
                have HH := Aside.mk (And.intro hds (And.intro hdb hdv))
                clear hds hdb hdv
                have hk0 : (0 : Int) ≤ (k : Int) := by omega
                have hk1 : (k : Int) < (N : Int) := by omega
                by_cases hn : (m : Int) > rest2.length
                · have HQ : Aside (openPost E q (openI l) (.returned (.pointer none)) wr) := ⟨by
                    rw [HO2.out, HH.out.1, HH.out.2.1, bodies, if_pos hn]
                    exact ⟨rfl, hS.right.right.right.right⟩⟩
                  clear HS2 HH HV HD HO2
                  go_wp2
                  go_ret
                  exact HQ.out
                · have hm1 : (m : Int) ≤ rest2.length := by omega
                  have hm2 : (m : Int) ≤ c2 := by omega
                  have q3 := hS.s3.cell1
                  have q4 := hS.s4.row_cell (3 * k + 1) _ (List.getElem?_eq_getElem hlvc)
                  have r4 := hS.s4.row_thaw (3 * k + 1) hlvc
                  have r0 := hS.thaw 0
                  rw [show ob + (3 * k + 1) = ob + k * 3 + 1 by omega] at q4 r4
                  have hadd0 : ∀ a : Addr, a.add 0 = a := fun a => by simp [Addr.add]
                  have hA2 : A2 = none → m = 0 := fun e => by
                    subst e
                    rcases Nat.eq_zero_or_pos m with h | h
                    · exact h
                    · obtain ⟨a, ha, _⟩ := (hq2 wr hS.right.right.right.right).at_ 0 (by simp [u8s]; omega)
                      cases ha
                  have HQ2 := Aside.mk hq2
                  have HSS := Aside.mk hS
                  have HQL := Aside.mk (And.intro hlvc hlv)
                  clear hq2 HS2 hS
                  go_wp2
                  obtain _ | a2 := A2
                  · have HM0 := Aside.mk (hA2 rfl)
                    clear hA2
                    refine region_R [21, 24] [21] (fun _ => True) #[false, false, false, false, false, false, false, false, false, false, false, false, false, false, false, false, false, false, false, false, false, false, false, false, false] (by kernel_rfl) rfl rfl ?_
                    refine wpR_rd 0 #[true, false, false, false, false, false, false, false, false, false, false, false, false, false, false, false, false, false, false, false, false, false, false, false, false] rfl onlyN_noPanic (by kernel_rfl) (fun K hK => ?_); (go_simp; try go_bits); refine hK _ ?_; clear hK K
                    refine wpR_rd 1 #[true, true, false, false, false, false, false, false, false, false, false, false, false, false, false, false, false, false, false, false, false, false, false, false, false] rfl onlyN_noPanic (by kernel_rfl) (fun K hK => ?_); (go_simp; try go_bits); refine hK _ ?_; clear hK K
                    refine wpR_rd 2 #[true, true, true, false, false, false, false, false, false, false, false, false, false, false, false, false, false, false, false, false, false, false, false, false, false] rfl onlyN_noPanic (by kernel_rfl) (fun K hK => ?_); (go_simp; try go_bits); refine hK _ ?_; clear hK K
                    refine wpR_rd 3 #[true, true, true, true, false, false, false, false, false, false, false, false, false, false, false, false, false, false, false, false, false, false, false, false, false] rfl onlyN_noPanic (by kernel_rfl) (fun K hK => ?_); (go_simp; try go_bits); refine hK _ ?_; clear hK K
                    refine wpR_rd 4 #[true, true, true, true, true, false, false, false, false, false, false, false, false, false, false, false, false, false, false, false, false, false, false, false, false] rfl onlyN_noPanic (by kernel_rfl) (fun K hK => ?_); (go_simp; try go_bits); refine hK _ ?_; clear hK K
                    refine wpR_hd 5 #[true, true, true, true, true, true, false, false, false, false, false, false, false, false, false, false, false, false, false, false, false, false, false, false, false] rfl onlyN_noPanic (by kernel_rfl) trivial (fun K hK => ?_); (go_simp; try go_bits); refine hK _ ?_; clear hK K
                    refine wpR_rd 6 #[true, true, true, true, true, true, true, false, false, false, false, false, false, false, false, false, false, false, false, false, false, false, false, false, false] rfl onlyN_noPanic (by kernel_rfl) (fun K hK => ?_); (go_simp; try go_bits); refine hK _ ?_; clear hK K
                    refine wpR_rd 7 #[true, true, true, true, true, true, true, true, false, false, false, false, false, false, false, false, false, false, false, false, false, false, false, false, false] rfl onlyN_noPanic (by kernel_rfl) (fun K hK => ?_); (go_simp; try go_bits); refine hK _ ?_; clear hK K
                    refine wpR_rd 8 #[true, true, true, true, true, true, true, true, true, false, false, false, false, false, false, false, false, false, false, false, false, false, false, false, false] rfl onlyN_noPanic (by kernel_rfl) (fun K hK => ?_); (go_simp; try go_bits); refine hK _ ?_; clear hK K
                    refine wpR_rd 9 #[true, true, true, true, true, true, true, true, true, true, false, false, false, false, false, false, false, false, false, false, false, false, false, false, false] rfl onlyN_noPanic (by kernel_rfl) (fun K hK => ?_); (go_simp; try go_bits); refine hK _ ?_; clear hK K
                    refine wpR_rd 10 #[true, true, true, true, true, true, true, true, true, true, true, false, false, false, false, false, false, false, false, false, false, false, false, false, false] rfl onlyN_noPanic (by kernel_rfl) (fun K hK => ?_); (go_simp; try go_bits); refine hK _ ?_; clear hK K
                    refine wpR_rd 11 #[true, true, true, true, true, true, true, true, true, true, true, true, false, false, false, false, false, false, false, false, false, false, false, false, false] rfl onlyN_noPanic (by kernel_rfl) (fun K hK => ?_); (go_simp; try go_bits); refine hK _ ?_; clear hK K
                    refine wpR_rd 12 #[true, true, true, true, true, true, true, true, true, true, true, true, true, false, false, false, false, false, false, false, false, false, false, false, false] rfl onlyN_noPanic (by kernel_rfl) (fun K hK => ?_); (go_simp; try go_bits); refine hK _ ?_; clear hK K
                    refine wpR_rd 13 #[true, true, true, true, true, true, true, true, true, true, true, true, true, true, false, false, false, false, false, false, false, false, false, false, false] rfl onlyN_noPanic (by kernel_rfl) (fun K hK => ?_); (go_simp; try go_bits); refine hK _ ?_; clear hK K
                    refine wpR_rd 14 #[true, true, true, true, true, true, true, true, true, true, true, true, true, true, true, false, false, false, false, false, false, false, false, false, false] rfl onlyN_noPanic (by kernel_rfl) (fun K hK => ?_); (go_simp; try go_bits); refine hK _ ?_; clear hK K
                    refine wpR_rd 15 #[true, true, true, true, true, true, true, true, true, true, true, true, true, true, true, true, false, false, false, false, false, false, false, false, false] rfl onlyN_noPanic (by kernel_rfl) (fun K hK => ?_); (go_simp; try go_bits); refine hK _ ?_; clear hK K
                    refine wpR_rd 16 #[true, true, true, true, true, true, true, true, true, true, true, true, true, true, true, true, true, false, false, false, false, false, false, false, false] rfl onlyN_noPanic (by kernel_rfl) (fun K hK => ?_); (go_simp; try go_bits); refine hK _ ?_; clear hK K
                    refine wpR_hd 17 #[true, true, true, true, true, true, true, true, true, true, true, true, true, true, true, true, true, true, false, false, false, false, false, false, false] rfl onlyN_noPanic (by kernel_rfl) trivial (fun K hK => ?_); (go_simp; try go_bits); refine hK _ ?_; clear hK K
                    refine wpR_hd 18 #[true, true, true, true, true, true, true, true, true, true, true, true, true, true, true, true, true, true, true, false, false, false, false, false, false] rfl onlyN_noPanic (by kernel_rfl) trivial (fun K hK => ?_); (go_simp; try go_bits); refine hK _ ?_; clear hK K
                    refine wpR_rd 19 #[true, true, true, true, true, true, true, true, true, true, true, true, true, true, true, true, true, true, true, true, false, false, false, false, false] rfl onlyN_noPanic (by kernel_rfl) (fun K hK => ?_); (go_simp; try go_bits); refine hK _ ?_; clear hK K
                    refine wpR_rd 20 #[true, true, true, true, true, true, true, true, true, true, true, true, true, true, true, true, true, true, true, true, true, false, false, false, false] rfl onlyN_noPanic (by kernel_rfl) (fun K hK => ?_); (go_simp; try go_bits); refine hK _ ?_; clear hK K
                    refine wpR_keep #[true, true, true, true, true, true, true, true, true, true, true, true, true, true, true, true, true, true, true, true, true, true, false, false, false] (i := 21) rfl (by kernel_rfl) (fun K hK => ?_)
                    go_simp; refine hK _ _ trivial ?_; clear hK K
                    refine wpR_rd 22 #[true, true, true, true, true, true, true, true, true, true, true, true, true, true, true, true, true, true, true, true, true, true, true, false, false] rfl onlyN_noPanic (by kernel_rfl) (fun K hK => ?_); (go_simp; try go_bits); refine hK _ ?_; clear hK K
                    refine wpR_rd 23 #[true, true, true, true, true, true, true, true, true, true, true, true, true, true, true, true, true, true, true, true, true, true, true, true, false] rfl onlyN_noPanic (by kernel_rfl) (fun K hK => ?_); (go_simp; try go_bits); refine hK _ ?_; clear hK K
                    refine wpR_eff #[true, true, true, true, true, true, true, true, true, true, true, true, true, true, true, true, true, true, true, true, true, true, true, true, true] (i := 24) rfl (by kernel_rfl) (fun K hK => ?_)
                    go_simp; refine hK _ _ ?_; clear hK K
                    refine wpR_done (by kernel_rfl) ?_ _
                    simp only [OnlyN]
                    go_wp2
                    go_roundw
                    case rel =>
                      have hm0 := HM0.out
                      have hlm : (rest2.drop m).length = rest2.length - m := by simp
                      have hr0 : rest2 = [] := by
                        rcases Nat.eq_zero_or_pos rest2.length with h | h
                        · exact List.eq_nil_of_length_eq_zero h
                        · obtain ⟨a, ha, _⟩ := (HQ2.out wr HSS.out.right.right.right.right).at_ 0 (by simpa [u8s] using h)
                          cases ha
                      obtain ⟨n1, n2, n3, n4⟩ := open_next (A2 := none) HQL.out.2 (by rw [HN2.out]; exact hlt) HLN.out hm1 HO2.out HH.out.1 HV.out HD.out (fun w h => by
                        rw [hr0, List.take_nil]; exact Cells.nil _ _)
                      have hset := (HSS.out.s4.row_set (3 * k + 1) HQL.out.1 (.slice none m m))
                      rw [blkCells_at _ _ HQL.out.2, show ob + (3 * k + 1) = ob + k * 3 + 1 by omega] at hset
                      refine ⟨k + 1, rest2.drop m, none, c2 - m, _, _, by go_num, by omega, by rw [hlm]; omega, by rw [hlm]; omega, ⟨n1⟩, ?_, ⟨n2⟩, ⟨n3⟩, ⟨n4⟩, ⟨?_⟩⟩
                      · intro w' h'
                        rw [hr0, List.drop_nil]; exact Cells.nil _ _
                      · rw [hlm]
                        have h9 := (hset.s2.set (i := 0) (.slice none (rest2.length - m) (c2 - m))).drew
                        exact h9.perm (by simp only [List.setIfInBounds_toArray, List.set_cons_zero]; ac_rfl)
                    case measure => simp [intOf]; omega
                  · clear hA2
                    refine region_R [21, 24] [21] (fun _ => True) #[false, false, false, false, false, false, false, false, false, false, false, false, false, false, false, false, false, false, false, false, false, false, false, false, false] (by kernel_rfl) rfl rfl ?_
                    refine wpR_rd 0 #[true, false, false, false, false, false, false, false, false, false, false, false, false, false, false, false, false, false, false, false, false, false, false, false, false] rfl onlyN_noPanic (by kernel_rfl) (fun K hK => ?_); (go_simp; try go_bits); refine hK _ ?_; clear hK K
                    refine wpR_rd 1 #[true, true, false, false, false, false, false, false, false, false, false, false, false, false, false, false, false, false, false, false, false, false, false, false, false] rfl onlyN_noPanic (by kernel_rfl) (fun K hK => ?_); (go_simp; try go_bits); refine hK _ ?_; clear hK K
                    refine wpR_rd 2 #[true, true, true, false, false, false, false, false, false, false, false, false, false, false, false, false, false, false, false, false, false, false, false, false, false] rfl onlyN_noPanic (by kernel_rfl) (fun K hK => ?_); (go_simp; try go_bits); refine hK _ ?_; clear hK K
                    refine wpR_rd 3 #[true, true, true, true, false, false, false, false, false, false, false, false, false, false, false, false, false, false, false, false, false, false, false, false, false] rfl onlyN_noPanic (by kernel_rfl) (fun K hK => ?_); (go_simp; try go_bits); refine hK _ ?_; clear hK K
                    refine wpR_rd 4 #[true, true, true, true, true, false, false, false, false, false, false, false, false, false, false, false, false, false, false, false, false, false, false, false, false] rfl onlyN_noPanic (by kernel_rfl) (fun K hK => ?_); (go_simp; try go_bits); refine hK _ ?_; clear hK K
                    refine wpR_hd 5 #[true, true, true, true, true, true, false, false, false, false, false, false, false, false, false, false, false, false, false, false, false, false, false, false, false] rfl onlyN_noPanic (by kernel_rfl) trivial (fun K hK => ?_); (go_simp; try go_bits); refine hK _ ?_; clear hK K
                    refine wpR_rd 6 #[true, true, true, true, true, true, true, false, false, false, false, false, false, false, false, false, false, false, false, false, false, false, false, false, false] rfl onlyN_noPanic (by kernel_rfl) (fun K hK => ?_); (go_simp; try go_bits); refine hK _ ?_; clear hK K
                    refine wpR_rd 7 #[true, true, true, true, true, true, true, true, false, false, false, false, false, false, false, false, false, false, false, false, false, false, false, false, false] rfl onlyN_noPanic (by kernel_rfl) (fun K hK => ?_); (go_simp; try go_bits); refine hK _ ?_; clear hK K
                    refine wpR_rd 8 #[true, true, true, true, true, true, true, true, true, false, false, false, false, false, false, false, false, false, false, false, false, false, false, false, false] rfl onlyN_noPanic (by kernel_rfl) (fun K hK => ?_); (go_simp; try go_bits); refine hK _ ?_; clear hK K
                    refine wpR_rd 9 #[true, true, true, true, true, true, true, true, true, true, false, false, false, false, false, false, false, false, false, false, false, false, false, false, false] rfl onlyN_noPanic (by kernel_rfl) (fun K hK => ?_); (go_simp; try go_bits); refine hK _ ?_; clear hK K
                    refine wpR_rd 10 #[true, true, true, true, true, true, true, true, true, true, true, false, false, false, false, false, false, false, false, false, false, false, false, false, false] rfl onlyN_noPanic (by kernel_rfl) (fun K hK => ?_); (go_simp; try go_bits); refine hK _ ?_; clear hK K
                    refine wpR_rd 11 #[true, true, true, true, true, true, true, true, true, true, true, true, false, false, false, false, false, false, false, false, false, false, false, false, false] rfl onlyN_noPanic (by kernel_rfl) (fun K hK => ?_); (go_simp; try go_bits); refine hK _ ?_; clear hK K
                    refine wpR_rd 12 #[true, true, true, true, true, true, true, true, true, true, true, true, true, false, false, false, false, false, false, false, false, false, false, false, false] rfl onlyN_noPanic (by kernel_rfl) (fun K hK => ?_); (go_simp; try go_bits); refine hK _ ?_; clear hK K
                    refine wpR_rd 13 #[true, true, true, true, true, true, true, true, true, true, true, true, true, true, false, false, false, false, false, false, false, false, false, false, false] rfl onlyN_noPanic (by kernel_rfl) (fun K hK => ?_); (go_simp; try go_bits); refine hK _ ?_; clear hK K
                    refine wpR_rd 14 #[true, true, true, true, true, true, true, true, true, true, true, true, true, true, true, false, false, false, false, false, false, false, false, false, false] rfl onlyN_noPanic (by kernel_rfl) (fun K hK => ?_); (go_simp; try go_bits); refine hK _ ?_; clear hK K
                    refine wpR_rd 15 #[true, true, true, true, true, true, true, true, true, true, true, true, true, true, true, true, false, false, false, false, false, false, false, false, false] rfl onlyN_noPanic (by kernel_rfl) (fun K hK => ?_); (go_simp; try go_bits); refine hK _ ?_; clear hK K
                    refine wpR_rd 16 #[true, true, true, true, true, true, true, true, true, true, true, true, true, true, true, true, true, false, false, false, false, false, false, false, false] rfl onlyN_noPanic (by kernel_rfl) (fun K hK => ?_); (go_simp; try go_bits); refine hK _ ?_; clear hK K
                    refine wpR_hd 17 #[true, true, true, true, true, true, true, true, true, true, true, true, true, true, true, true, true, true, false, false, false, false, false, false, false] rfl onlyN_noPanic (by kernel_rfl) trivial (fun K hK => ?_); (go_simp; try go_bits); refine hK _ ?_; clear hK K
                    refine wpR_hd 18 #[true, true, true, true, true, true, true, true, true, true, true, true, true, true, true, true, true, true, true, false, false, false, false, false, false] rfl onlyN_noPanic (by kernel_rfl) trivial (fun K hK => ?_); (go_simp; try go_bits); refine hK _ ?_; clear hK K
                    refine wpR_rd 19 #[true, true, true, true, true, true, true, true, true, true, true, true, true, true, true, true, true, true, true, true, false, false, false, false, false] rfl onlyN_noPanic (by kernel_rfl) (fun K hK => ?_); (go_simp; try go_bits); refine hK _ ?_; clear hK K
                    refine wpR_rd 20 #[true, true, true, true, true, true, true, true, true, true, true, true, true, true, true, true, true, true, true, true, true, false, false, false, false] rfl onlyN_noPanic (by kernel_rfl) (fun K hK => ?_); (go_simp; try go_bits); refine hK _ ?_; clear hK K
                    refine wpR_keep #[true, true, true, true, true, true, true, true, true, true, true, true, true, true, true, true, true, true, true, true, true, true, false, false, false] (i := 21) rfl (by kernel_rfl) (fun K hK => ?_)
                    go_simp; refine hK _ _ trivial ?_; clear hK K
                    refine wpR_rd 22 #[true, true, true, true, true, true, true, true, true, true, true, true, true, true, true, true, true, true, true, true, true, true, true, false, false] rfl onlyN_noPanic (by kernel_rfl) (fun K hK => ?_); (go_simp; try go_bits); refine hK _ ?_; clear hK K
                    refine wpR_rd 23 #[true, true, true, true, true, true, true, true, true, true, true, true, true, true, true, true, true, true, true, true, true, true, true, true, false] rfl onlyN_noPanic (by kernel_rfl) (fun K hK => ?_); (go_simp; try go_bits); refine hK _ ?_; clear hK K
                    refine wpR_eff #[true, true, true, true, true, true, true, true, true, true, true, true, true, true, true, true, true, true, true, true, true, true, true, true, true] (i := 24) rfl (by kernel_rfl) (fun K hK => ?_)
                    go_simp; refine hK _ _ ?_; clear hK K
                    refine wpR_done (by kernel_rfl) ?_ _
                    simp only [OnlyN]
                    go_wp2
                    go_roundw
                    case rel =>
                      have hlm : (rest2.drop m).length = rest2.length - m := by simp
                      obtain ⟨n1, n2, n3, n4⟩ := open_next (A2 := some a2) HQL.out.2 (by rw [HN2.out]; exact hlt) HLN.out hm1 HO2.out HH.out.1 HV.out HD.out (fun w h => by
                        have := (HQ2.out w h).take m
                        simpa [u8s] using this)
                      have hset := (HSS.out.s4.row_set (3 * k + 1) HQL.out.1 (.slice (some a2) m m))
                      rw [blkCells_at _ _ HQL.out.2, show ob + (3 * k + 1) = ob + k * 3 + 1 by omega] at hset
                      refine ⟨k + 1, rest2.drop m, if c2 = m then some a2 else some (a2.add m), c2 - m, _, _, by go_num, by omega, by rw [hlm]; omega, by rw [hlm]; omega, ⟨n1⟩, ?_, ⟨n2⟩, ⟨n3⟩, ⟨n4⟩, ⟨?_⟩⟩
                      · intro w' h'
                        split
                        · rename_i hcm
                          have : rest2.drop m = [] := List.drop_of_length_le (by omega)
                          rw [this]; exact Cells.nil _ _
                        · have := (HQ2.out w' h').drop m
                          simpa [u8s] using this
                      · rw [hlm]
                        have h9 := (hset.s2.set (i := 0) (.slice (if c2 = m then some a2 else some (a2.add m)) (rest2.length - m) (c2 - m))).drew
                        exact h9.perm (by simp only [List.setIfInBounds_toArray, List.set_cons_zero]; ac_rfl)
                    case measure => simp [intOf]; omega
              · have hkN : k = N := by omega
                have HQ : Aside (openPost E q (openI l) (.returned (.pointer (some ⟨gl, 0, none⟩))) wr) := ⟨by
                  have e1 : sizes.drop k = [] := List.drop_of_length_le (by rw [HN1.out.1]; omega)
                  rw [HO2.out, e1]
                  simp only [bodies, Option.map_some, List.append_nil]
                  refine ⟨gl, .slice Ab N cb, vs, rfl, ?_, by rw [HLN.out.1, HLN.out.2, hkN], HV.out⟩
                  rw [HLN.out.1]
                  exact hS.s3.drop2.drop2.perm rfl |>.perm (by ac_rfl)⟩
                obtain ⟨Kx, hKx⟩ : ∃ y, k = y := ⟨_, rfl⟩
                clear HS2 HV HD HO2 HN1 HN2 HLN c0
                go_wp2
                go_ret
                exact HQ.out
end Go.Proofs.Ytdcmanihihlaiaa
