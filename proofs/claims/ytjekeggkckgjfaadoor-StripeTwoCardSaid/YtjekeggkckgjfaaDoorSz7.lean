/- Texts of one claim, one behind the other: PairLo, HeldP, LoadP, LostP, StP, StN, StS, StT, StNeW. -/
import Derived.Test.YtjekeggkckgjfaaDoorSz6
/- pair.Load. -/
namespace Go.Proofs.YtjekeggkckgjfaaDoor
open Go.RowKit HP
set_option linter.unusedSimpArgs false
set_option linter.unusedVariables false

def extN (A : Dk) (name : ByteArray) : Nat := (halvesL name).foldl (fun m f => max m (A.at f).length) 0
def loadG (A : Dk) (name : ByteArray) (gen : Int) : Nat → Nat → List Int → Option (List Int)
  | _, 0, out => some out
  | i, c + 1, out => if 0 ≤ (getP A name i).1 ∧ (getP A name i).1 = gen then loadG A name gen (i + 1) c (out ++ (getP A name i).2) else none
def loadP (A : Dk) (name : ByteArray) (gen : Int) : Option (List Int) := if extN A name = 0 then none else loadG A name gen 0 (extN A name) []
theorem getF_small {A : Dk} {i : Int} {st : Int × List Int} {f : ByteArray} (h : st.2.length ≤ 106) : (getF A i st f).2.length ≤ 106 := by
  unfold getF
  cases A.cel f i with
  | none => exact h
  | some c =>
    dsimp only
    cases ho : openI c.read f i with
    | none => exact h
    | some x =>
      dsimp only
      split
      · exact h
      · exact (openI_gen (p := x.1) (g := x.2) ho).2
theorem getP_small (A : Dk) (name : ByteArray) (i : Int) : (getP A name i).2.length ≤ 106 := by
  unfold getP halvesL
  exact getF_small (getF_small (Nat.zero_le _))
theorem extN_small {A : Dk} (h : ∀ s, (A.at s).length ≤ 100000) (name : ByteArray) : extN A name ≤ 100000 := by
  unfold extN halvesL
  simp only [List.foldl_cons, List.foldl_nil]
  have := h (name ++ dotA)
  have := h (name ++ dotB)
  omega
def loadEnd (E : Env) (q : HP) (r : Option (List Int)) (e : Ending) (w' : World) : Prop :=
  match r with
  | none => e = .returned (.tuple #[.slice none 0 0, .int .i64 50]) ∧ Sat E w' q
  | some l => ∃ v, e = .returned (.tuple #[v, .int .i64 0]) ∧ Sat E w' (HP.row 5 1 v l.length (b8s l) * q)
set_option maxHeartbeats 2000000 in
set_option maxRecDepth 100000 in
theorem pair_load (E : Env) (q : HP) (d : Nat) (A : Dk) (name : ByteArray) (gen : Int) (w : World) (hname : name.size + 2 ≤ maxLen) (hby : ∀ f ∈ halvesL name, ∀ i c, A.cel f i = some c → Bytes c.read)
    (hq : ∀ w, Sat E w q → Quarter w) (hw : Sat E w (HP.disk d A * q)) :
    Calls Tryd.prog 43 #[.pointer (some ⟨d, 0, none⟩), .string name, .int .i64 gen] w (loadEnd E (HP.disk d A * q) (loadP A name gen)) := by
  have hfa : (name ++ dotA).size ≤ maxLen := by rw [dotA_size]; exact hname
  have hfb : (name ++ dotB).size ≤ maxLen := by rw [dotB_size]; exact hname
  have HF : Aside (halvesL name = [name ++ dotA, name ++ dotB]) := ⟨rfl⟩
  have HSm : Aside (∀ s, (A.at s).length ≤ 100000) := ⟨fun s => at_small hw.disk_fine s⟩
  have HQ := Aside.mk (And.intro hq (And.intro hby hw))
  clear hq hby hw
  go_enter Tryd.func43, Tryd.ntmps43
  go_wp2_with fail
  refine (pair_none E q d A _ HQ.out.2.2).mono ?_
  rintro e w1 ⟨rfl, k1⟩
  have K1 := Aside.mk k1
  clear k1
  go_wp2_with fail
  refine (pair_halves E _ name _ hname K1.out).mono ?_
  rintro e w2 ⟨rfl, k2⟩
  obtain ⟨fa, hfae⟩ : ∃ fa, fa = name ++ dotA := ⟨_, rfl⟩
  obtain ⟨fb, hfbe⟩ : ∃ fb, fb = name ++ dotB := ⟨_, rfl⟩
  rw [← hfae] at hfa HF ⊢
  rw [← hfbe] at hfb HF ⊢
  clear hfae hfbe
  have K2 := Aside.mk k2
  clear k2 K1
  have i0 : ∀ w, (Instr.index 131 (.agg #[.string fa, .string fb]) (.int .i64 0)).run Tryd.prog w = .ok (.string fa) w := fun w => by kernel_rfl
  have i1 : ∀ w, (Instr.index 131 (.agg #[.string fa, .string fb]) (.int .i64 1)).run Tryd.prog w = .ok (.string fb) w := fun w => by kernel_rfl
  go_wp2
  go_loopw [8, 20] (fun v8 v20 wr => ∃ h m : Nat, h ≤ 2 ∧ v20 = .int .i64 h ∧ v8 = .int .i64 m ∧ m ≤ 100000 ∧ Aside (((halvesL name).drop h).foldl (fun m f => max m (A.at f).length) m = extN A name) ∧ Aside (Sat E wr (HP.disk d A * q))) (fun _ i _ => 2 - (intOf i).toNat)
  case atStart => exact ⟨0, 0, by omega, rfl, rfl, by omega, ⟨rfl⟩, K2⟩
  case round =>
    obtain ⟨h, m, hh, rfl, rfl, hm, HM, HS⟩ := hrel
    by_cases hlt : h < 2
    · obtain ⟨f, hf, hff, hix⟩ : ∃ f : ByteArray, f.size ≤ maxLen ∧ (halvesL name).drop h = f :: (halvesL name).drop (h + 1) ∧ ∀ w, (Instr.index 131 (.agg #[.string fa, .string fb]) (.int .i64 (h : Int))).run Tryd.prog w = .ok (.string f) w := by
        rw [HF.out]
        rcases Nat.lt_or_ge h 1 with h0 | h0
        · obtain rfl : h = 0 := by omega
          exact ⟨fa, hfa, rfl, i0⟩
        · obtain rfl : h = 1 := by omega
          exact ⟨fb, hfb, rfl, i1⟩
      rw [hff, List.foldl_cons] at HM
      have hlt2 : (h : Int) < 2 := by omega
      clear hff i0 i1
      go_wp2_with fail
      refine (disk_extents E q d A f _ hf HS.out).mono ?_
      rintro e w3 ⟨rfl, rfl⟩
      have hx := HSm.out f
      obtain ⟨x, hxe⟩ : ∃ x, x = (A.at f).length := ⟨_, rfl⟩
      rw [← hxe] at hx HM ⊢
      clear hxe
      have hmx : (if (x : Int) > (m : Int) then (x : Int) else m) = (max m x : Nat) := by split <;> omega
      obtain ⟨y, hy⟩ : ∃ y, y = max m x := ⟨_, rfl⟩
      have hy2 : y ≤ 100000 := by omega
      rw [← hy] at hmx HM
      have hmx2 : (if m < x then (x : Int) else (m : Int)) = (y : Int) := by split <;> omega
      clear hy
      go_wp2
      go_roundw
      case rel => exact ⟨h + 1, y, by omega, by push_cast; rfl, rfl, hy2, HM, HS⟩
      case measure => simp [intOf]; omega
    · have hh2 : h = 2 := by omega
      subst hh2
      rw [HF.out] at HM
      have HM2 : Aside (extN A name = m) := ⟨HM.out.symm⟩
      clear HM i0 i1
      have HS0 := Aside.mk (HS.out.row_nil 5 1 none)
      go_wp2
      go_loopw [11, 30] (fun v11 v30 wr => ∃ (i : Nat) (out : List Int), i ≤ m ∧ v30 = .int .i64 i ∧ out.length ≤ 106 * i ∧ Aside (loadG A name gen i (m - i) out = loadG A name gen 0 m []) ∧ Aside (Sat E wr (HP.row 5 1 v11 out.length (b8s out) * (HP.disk d A * q)))) (fun _ i _ => m - (intOf i).toNat)
      case atStart => exact ⟨0, [], by omega, rfl, by simp, ⟨rfl⟩, HS0⟩
      case round =>
        obtain ⟨i, out, hi, rfl, ho, HG, HT⟩ := hrel
        by_cases hlt : i < m
        · have hlt2 : (i : Int) < m := by omega
          go_wp2_with fail
          refine (pair_get E (HP.row 5 1 u11 out.length (b8s out) * q) d A name i _ hname (fun f hf c hc => HQ.out.2.1 f hf i c hc) (fun w h => HQ.out.1 _ h.right) HT.out.s2).mono ?_
          rintro e w4 ⟨v, rfl, h4⟩
          have hsm := getP_small A name i
          obtain ⟨j, hj⟩ : ∃ j, m - i = j + 1 := ⟨m - i - 1, by omega⟩
          have HL : Aside (loadG A name gen i (j + 1) out = if 0 ≤ (getP A name i).1 ∧ (getP A name i).1 = gen then loadG A name gen (i + 1) j (out ++ (getP A name i).2) else none) := ⟨rfl⟩
          rw [hj, HL.out] at HG
          clear HL
          have HP0 : Aside (loadP A name gen = loadG A name gen 0 m []) := ⟨by unfold loadP; rw [HM2.out, if_neg (by omega)]⟩
          obtain ⟨⟨best, p⟩, hst⟩ : ∃ st, st = getP A name i := ⟨_, rfl⟩
          rw [← hst] at h4 HG hsm ⊢
          clear hst
          dsimp only at h4 HG hsm
          unfold getEnd
          dsimp only
          by_cases hneg : best < 0
          · rw [if_pos hneg]
            have HX : Aside (loadP A name gen = none) := ⟨by rw [HP0.out, ← HG.out, if_neg (by omega)]⟩
            have H4 := Aside.mk (h4.right.perm (by ac_rfl) : Sat E w4 (HP.row 5 1 u11 out.length (b8s out) * (HP.disk d A * q)))
            clear h4 HG
            go_wp2
            go_ret2
            rw [HX.out]
            exact ⟨rfl, H4.out.right⟩
          · rw [if_neg hneg]
            obtain ⟨Av, cv, rfl, -, -⟩ := h4.row_slice
            by_cases heq : best = gen
            · subst heq
              rw [if_pos ⟨by omega, rfl⟩] at HG
              have h5 : Sat E w4 (HP.row 5 1 u11 out.length (b8s out) * (HP.row 5 1 (.slice Av p.length cv) p.length (b8s p) * (HP.disk d A * q))) := h4.perm (by ac_rfl)
              have H5 := Aside.mk (And.intro h5 (And.intro h4.row_cells (show (b8s p).length = p.length * 1 by rw [b8s_length, Nat.mul_one])))
              clear h4 h5
              obtain ⟨pl, hpl⟩ : ∃ pl, pl = p.length := ⟨_, rfl⟩
              obtain ⟨ol, hol⟩ : ∃ ol, ol = out.length := ⟨_, rfl⟩
              rw [← hpl, ← hol] at H5
              rw [← hpl] at hsm ⊢
              rw [← hol] at ho
              have HO := Aside.mk (And.intro hpl hol)
              clear hpl hol
              go_wp2_with (at_builtin; refine wpList_append_row slB8 rfl rfl (by rfl) (by rfl) H5.out.1 H5.out.2.1 H5.out.2.2 (b8s_one _) (by unfold maxLen; omega) (by omega) (fun v5 w5 hw5 => ?_); obtain ⟨A5, c5, rfl, -, -⟩ := hw5.row_slice; have HW5 := Aside.mk hw5; clear hw5)
              have H6 : Aside (Sat E w5 (HP.row 5 1 (.slice A5 (ol + pl) c5) (out ++ p).length (b8s (out ++ p)) * (HP.disk d A * q))) := ⟨by
                rw [List.length_append, b8s_append, ← HO.out.1, ← HO.out.2]
                exact HW5.out.drop2⟩
              have HG2 : Aside (loadG A name best (i + 1) (m - (i + 1)) (out ++ p) = loadG A name best 0 m []) := ⟨by rw [← HG.out, show m - (i + 1) = j by omega]⟩
              clear HG HW5 H5
              go_wp2
              refine ⟨?_, ?measure⟩
              (repeat apply Exists.intro)
              refine ⟨?rel, rfl⟩
              case rel => exact ⟨i + 1, out ++ p, by omega, by push_cast; rfl, by rw [List.length_append, ← HO.out.1, ← HO.out.2]; omega, HG2, H6⟩
              case measure => simp [intOf]; omega
            · rw [if_neg (fun h => heq h.2)] at HG
              have HX : Aside (loadP A name gen = none) := ⟨by rw [HP0.out, ← HG.out]⟩
              have H4 := Aside.mk (h4.right.perm (by ac_rfl) : Sat E w4 (HP.row 5 1 u11 out.length (b8s out) * (HP.disk d A * q)))
              clear h4 HG
              go_wp2
              go_ret2
              rw [HX.out]
              exact ⟨rfl, H4.out.right⟩
        · have hie : i = m := by omega
          subst hie
          rw [Nat.sub_self] at HG
          have HG2 : Aside (loadG A name gen 0 i [] = some out) := ⟨HG.out.symm⟩
          clear HG
          by_cases hz : i = 0
          · subst hz
            have HX : Aside (loadP A name gen = none) := ⟨by unfold loadP; rw [if_pos HM2.out]⟩
            clear HG2
            go_wp2
            go_ret2
            rw [HX.out]
            exact ⟨rfl, HT.out.right⟩
          · have HX : Aside (loadP A name gen = some out) := ⟨by unfold loadP; rw [HM2.out, if_neg hz]; exact HG2.out⟩
            have hb0 : ((i : Int) == 0) = false := by rw [beq_eq_false_iff_ne]; omega
            have hb1 : ¬ (i : Int) = 0 := by omega
            clear HG2
            go_wp2
            go_ret2
            rw [HX.out]
            exact ⟨_, rfl, HT.out⟩
end Go.Proofs.YtjekeggkckgjfaaDoor
/- A disk on which both halves hold pieces. -/
namespace Go.Proofs.YtjekeggkckgjfaaDoor
open Go.RowKit HP
set_option linter.unusedSimpArgs false
set_option linter.unusedVariables false

def newCels (f : ByteArray) (gen : Nat) : Nat → List (List Int) → List Cel
  | _, [] => []
  | i, p :: ps => Cel.zero.wrote (extI f i gen p) :: newCels f gen (i + 1) ps
theorem wrF_cels {f : ByteArray} {gen : Nat} (hn : namedB f = true) (hg : (gen : Int) ≤ 4611686018427387904) : ∀ (ps : List (List Int)) (A : Dk) (i : Nat), Sorted A.files → A.fuse = -1 → (A.at f).length = i → (ps.length : Int) ≤ A.free → (∀ p ∈ ps, p.length ≤ 106) → i + ps.length ≤ 2147483647 → 0 < i + ps.length →
    (wrF A f gen i ps).2.at f = (A.at f ++ newCels f gen i ps).map Cel.syncd
  | [], A, i, hs, he, hi, _, _, _, h0 => by
    have hl := at_some (A := A) (f := f) (by rw [hi]; simpa using h0)
    show (A.sync f).2.at f = _
    rw [sync_some hl (goes_ever he), burnt_ever he, at_set hs, if_pos rfl]
    simp [newCels]
  | p :: ps, A, i, hs, he, hi, hf, hp, hm, _ => by
    have hpl := hp p (List.mem_cons_self ..)
    simp only [List.length_cons] at hf hm
    have hfo : FrameOk (i : Int) gen p.length := ⟨by omega, by omega, by omega, hg, hpl⟩
    have hw : A.write f (i : Int) (extI f i gen p) = (0, A.set f (A.at f ++ [Cel.zero.wrote (extI f i gen p)])) := by
      have := write_end (A := A) (f := f) (I := extI f i gen p) hn (extI_length hpl) he (by omega)
      rw [hi] at this
      exact this
    have h1 := set_fresh (A := A) (f := f) (l := A.at f ++ [Cel.zero.wrote (extI f i gen p)]) (m := 1) hs he (by rw [List.length_append]; rfl)
    have hlen : ((A.set f (A.at f ++ [Cel.zero.wrote (extI f i gen p)])).at f).length = i + 1 := by rw [at_set hs, if_pos rfl, List.length_append, hi]; rfl
    have hB := wrF_cels hn hg ps (A.set f (A.at f ++ [Cel.zero.wrote (extI f i gen p)])) (i + 1) h1.sorted h1.fuse hlen (by
      have := h1.size
      show (ps.length : Int) ≤ (A.set f _).room - _
      unfold Dk.free at hf
      have h2 := h1.room
      omega) (fun x hx => hp x (List.mem_cons_of_mem _ hx)) (by omega) (by omega)
    unfold wrF
    rw [if_neg (by simpa using hfo), hw, if_pos rfl, hB, at_set hs, if_pos rfl]
    simp [newCels]
theorem newCels_get {f : ByteArray} {gen : Nat} : ∀ (ps : List (List Int)) (i k : Nat) (p : List Int), ps[k]? = some p → (newCels f gen i ps)[k]? = some (Cel.zero.wrote (extI f (i + k) gen p))
  | [], i, k, p, h => by simp at h
  | q :: ps, i, 0, p, h => by
    simp only [List.getElem?_cons_zero, Option.some.injEq] at h
    subst h
    rfl
  | q :: ps, i, k + 1, p, h => by
    have := newCels_get (f := f) (gen := gen) ps (i + 1) k p (by simpa using h)
    rw [show i + 1 + k = i + (k + 1) by omega] at this
    simpa [newCels] using this
theorem newCels_length {f : ByteArray} {gen : Nat} : ∀ (ps : List (List Int)) (i : Nat), (newCels f gen i ps).length = ps.length
  | [], _ => rfl
  | _ :: ps, i => by
    show (newCels f gen (i + 1) ps).length + 1 = ps.length + 1
    rw [newCels_length ps]
/-- A disk on which both halves hold these pieces, of one generation. -/
structure Holds (B : Dk) (x : ByteArray) (gen : Nat) (ps : List (List Int)) : Prop where
  a : B.at (x ++ dotA) = (newCels (x ++ dotA) gen 0 ps).map Cel.syncd
  b : B.at (x ++ dotB) = (newCels (x ++ dotB) gen 0 ps).map Cel.syncd
theorem held_cel {B : Dk} {f : ByteArray} {gen k : Nat} {ps : List (List Int)} {p : List Int} (h : B.at f = (newCels f gen 0 ps).map Cel.syncd) (hp : ps[k]? = some p) : B.cel f (k : Int) = some (stl (extI f k gen p)) := by
  unfold Dk.cel
  rw [if_pos (by omega), Int.toNat_natCast, h, List.getElem?_map, newCels_get ps 0 k p hp, Nat.zero_add]
  rfl
theorem held_get {B : Dk} {x : ByteArray} {gen k : Nat} {ps : List (List Int)} {p : List Int} (h : Holds B x gen ps) (hg : gen ≤ 4611686018427387904) (hk : k ≤ 2147483647) (hp : ps[k]? = some p) (hl : p.length ≤ 106) : getP B x (k : Int) = ((gen : Int), p) := by
  have oa := openI_extI (f := x ++ dotA) (i := k) hk hg hl
  have ob := openI_extI (f := x ++ dotB) (i := k) hk hg hl
  unfold getP halvesL
  simp only [List.foldl_cons, List.foldl_nil]
  rw [show getF B k (-1, []) (x ++ dotA) = ((gen : Int), p) by simp only [getF, held_cel h.a hp, stl, oa]; rw [if_neg (by show ¬ (gen : Int) ≤ -1; omega)]]
  simp only [getF, held_cel h.b hp, stl, ob]
  rw [if_pos (Int.le_refl _)]
end Go.Proofs.YtjekeggkckgjfaaDoor
/- What is stored on a new disk is read. -/
namespace Go.Proofs.YtjekeggkckgjfaaDoor
open Go.RowKit HP
set_option linter.unusedSimpArgs false
set_option linter.unusedVariables false

theorem held_loadG {B : Dk} {x : ByteArray} {gen : Nat} {ps : List (List Int)} (h : Holds B x gen ps) (hg : gen ≤ 4611686018427387904) (hm : ps.length ≤ 2147483647) (hl : ∀ p ∈ ps, p.length ≤ 106) : ∀ (c i : Nat) (out : List Int), i + c = ps.length → loadG B x gen i c out = some (out ++ (ps.drop i).flatten)
  | 0, i, out, hi => by
    rw [List.drop_of_length_le (by omega)]
    simp [loadG]
  | c + 1, i, out, hi => by
    have hil : i < ps.length := by omega
    have hg2 := held_get (k := i) h hg (by omega) (List.getElem?_eq_getElem hil) (hl _ (List.getElem_mem hil))
    unfold loadG
    rw [hg2, if_pos ⟨by show (0 : Int) ≤ gen; omega, rfl⟩, held_loadG h hg hm hl c (i + 1) _ (by omega)]
    have e : (ps.drop i).flatten = ps[i] ++ (ps.drop (i + 1)).flatten := by rw [List.drop_eq_getElem_cons hil, List.flatten_cons]
    rw [e, List.append_assoc]
theorem held_load {B : Dk} {x : ByteArray} {gen : Nat} {ps : List (List Int)} (h : Holds B x gen ps) (hg : gen ≤ 4611686018427387904) (h0 : ps ≠ []) (hm : ps.length ≤ 2147483647) (hl : ∀ p ∈ ps, p.length ≤ 106) : loadP B x gen = some ps.flatten := by
  have hn : extN B x = ps.length := by
    unfold extN halvesL
    simp only [List.foldl_cons, List.foldl_nil, h.a, h.b, List.length_map, newCels_length]
    omega
  unfold loadP
  rw [hn, if_neg (fun h => h0 (List.eq_nil_of_length_eq_zero h)), held_loadG h hg hm hl _ 0 [] (by omega)]
  simp
theorem pieces_flat (l : List Int) : ∀ (m k : Nat), 106 * (k + m) ≥ l.length → ((List.range' k m).map (piece l)).flatten = l.drop (106 * k)
  | 0, k, h => by
    rw [List.drop_of_length_le (by simpa using h)]
    rfl
  | m + 1, k, h => by
    have ih := pieces_flat l m (k + 1) (by omega)
    rw [List.range'_succ, List.map_cons, List.flatten_cons, ih]
    unfold piece
    rw [show 106 * (k + 1) = 106 * k + 106 by omega, ← List.drop_drop, List.take_append_drop]
theorem piecesI_flat (l : List Int) : (piecesI l).flatten = l := by
  unfold piecesI
  by_cases h : l.length = 0
  · rw [if_pos h, List.eq_nil_of_length_eq_zero h]; rfl
  · rw [if_neg h, List.range_eq_range', pieces_flat l _ 0 (by unfold chunkN; omega)]
    rfl
/-- A text stored on a new disk: what both halves hold. -/
theorem store_held {room : Int} {l : List Int} {gen : Nat} (hg : (gen : Int) ≤ 4611686018427387904) (hr : needI l.length ≤ room) (hl : (piecesI l).length ≤ 2147483647) : Holds (storeP (Dk.new room) exS gen l).2 exS gen (piecesI l) ∧ Sorted (storeP (Dk.new room) exS gen l).2.files := by
  obtain ⟨p1, p2, -, p4⟩ := pieces_count (l := l)
  have hd : dropP (Dk.new room) exS = (0, Dk.new room) := by simp [dropP, dropL, halvesL, Dk.at, Dk.new, lk_nil]
  have hs0 : Sorted (Dk.new room).files := List.Pairwise.nil
  have hz : sizeF (Dk.new room).files = 0 := rfl
  have c1 : ((piecesI l).length : Int) ≤ (Dk.new room).free := by show _ ≤ room - (0 : Nat); omega
  obtain ⟨B1, h1, f1, -⟩ := wrF_fresh (f := exS ++ dotA) twoEx.na hg (piecesI l) (Dk.new room) 0 hs0 rfl rfl c1 p4 (by omega) (by omega)
  have g1 := wrF_cels (f := exS ++ dotA) twoEx.na hg (piecesI l) (Dk.new room) 0 hs0 rfl rfl c1 p4 (by omega) (by omega)
  have hr1 : B1.room = room := f1.room
  have c2 : ((piecesI l).length : Int) ≤ B1.free := by
    have := f1.size
    unfold Dk.free
    omega
  have hb0 : (B1.at (exS ++ dotB)).length = 0 := by rw [f1.others _ twoEx.ne]; rfl
  obtain ⟨B2, h2, f2, -⟩ := wrF_fresh (f := exS ++ dotB) twoEx.nb hg (piecesI l) B1 0 f1.sorted f1.fuse hb0 c2 p4 (by omega) (by omega)
  have g2 := wrF_cels (f := exS ++ dotB) twoEx.nb hg (piecesI l) B1 0 f1.sorted f1.fuse hb0 c2 p4 (by omega) (by omega)
  have hst : storeP (Dk.new room) exS gen l = (0, B2) := by
    unfold storeP
    rw [hd, if_pos rfl]
    unfold wrP halvesL
    simp only [wrL, h1, h2, if_pos rfl]
    rfl
  rw [h1] at g1
  rw [h2] at g2
  rw [hst]
  refine ⟨⟨?_, ?_⟩, f2.sorted⟩
  · rw [f2.others _ (Ne.symm twoEx.ne)]
    exact g1
  · rw [List.eq_nil_of_length_eq_zero hb0, List.nil_append] at g2
    exact g2
theorem store_holds {room : Int} {l : List Int} {gen : Nat} (hg : (gen : Int) ≤ 4611686018427387904) (hr : needI l.length ≤ room) (hl : (piecesI l).length ≤ 2147483647) : Holds (storeP (Dk.new room) exS gen l).2 exS gen (piecesI l) := (store_held hg hr hl).1
theorem store_load {room : Int} {l : List Int} {gen : Nat} (hg : (gen : Int) ≤ 4611686018427387904) (hr : needI l.length ≤ room) (hl : (piecesI l).length ≤ 2147483647) : loadP (storeP (Dk.new room) exS gen l).2 exS gen = some l := by
  obtain ⟨p1, p2, -, p4⟩ := pieces_count (l := l)
  rw [held_load (store_holds hg hr hl) (by omega) (fun h => by rw [h] at p2; simp at p2) hl p4, piecesI_flat]
end Go.Proofs.YtjekeggkckgjfaaDoor
/- PairLost, the plain part: an extent of which one byte is turned is not right. -/
namespace Go.Proofs.YtjekeggkckgjfaaDoor
open Go.RowKit HP
set_option linter.unusedSimpArgs false
set_option linter.unusedVariables false

theorem xor_cancel {x y z : Nat} (h : x ^^^ z = y ^^^ z) : x = y := by
  have h := congrArg (· ^^^ z) h
  simpa only [Nat.xor_assoc, Nat.xor_self, Nat.xor_zero] using h
theorem quarterN_top : ∀ i : Nat, i < 4 → quarterN i / 1073741824 = i
  | 0, _ => rfl
  | 1, _ => rfl
  | 2, _ => rfl
  | 3, _ => rfl
  | n + 4, h => by omega
theorem crcQ_top {r : Nat} (h : r < 4294967296) : crcQ r / 1073741824 = r % 4 := by
  have h1 : crcQ r >>> 30 = r % 4 := by
    unfold crcQ
    rw [Nat.shiftRight_xor_distrib, Nat.shiftRight_eq_div_pow, Nat.shiftRight_eq_div_pow]
    rw [show r / 4 / 2 ^ 30 = 0 by omega, Nat.zero_xor]
    exact quarterN_top _ (by omega)
  rwa [Nat.shiftRight_eq_div_pow] at h1
theorem crcQ_inj {a b : Nat} (ha : a < 4294967296) (hb : b < 4294967296) (h : crcQ a = crcQ b) : a = b := by
  have h1 := crcQ_top ha
  have h2 := crcQ_top hb
  rw [h, h2] at h1
  unfold crcQ at h
  rw [← h1] at h
  have := xor_cancel h
  omega
theorem crcI_inj {a b : Nat} (ha : a < 4294967296) (hb : b < 4294967296) : ∀ k, crcI k a = crcI k b → a = b
  | 0, h => h
  | k + 1, h => crcI_inj ha hb k (crcQ_inj (crcI_lt ha k) (crcI_lt hb k) h)
theorem crcB_inj {r s x y : Nat} (hr : r < 4294967296) (hs : s < 4294967296) (hx : x < 256) (hy : y < 256) (h : crcB r x = crcB s y) : r ^^^ x = s ^^^ y := crcI_inj (xor_lt32 hr (by omega)) (xor_lt32 hs (by omega)) 4 h
theorem crcL_inj : ∀ {l : List Int}, Bytes l → ∀ {r s : Nat}, r < 4294967296 → s < 4294967296 → crcL r l = crcL s l → r = s
  | [], _, r, s, _, _, h => h
  | x :: l, hl, r, s, hr, hs, h => by
    have hx := hl x (List.mem_cons_self ..)
    have h1 := crcL_inj (fun y hy => hl y (List.mem_cons_of_mem _ hy)) (crcB_lt hr (by omega)) (crcB_lt hs (by omega)) h
    exact xor_cancel (crcB_inj hr hs (by omega) (by omega) h1)
theorem crcL_set : ∀ {l : List Int}, Bytes l → ∀ {r k : Nat} {y : Int}, r < 4294967296 → k < l.length → 0 ≤ y → y ≤ 255 → crcL r (l.set k y) = crcL r l → y = l.getD k 0
  | [], _, r, k, y, _, hk, _, _, _ => by simp at hk
  | x :: l, hl, r, 0, y, hr, hk, h0, h1, h => by
    have hx := hl x (List.mem_cons_self ..)
    have h2 := crcL_inj (fun y hy => hl y (List.mem_cons_of_mem _ hy)) (crcB_lt (x := y.toNat) hr (by omega)) (crcB_lt (x := x.toNat) hr (by omega)) h
    have h3 := crcB_inj hr hr (by omega) (by omega) h2
    rw [Nat.xor_comm r, Nat.xor_comm r] at h3
    have h4 := xor_cancel h3
    show y = x
    omega
  | x :: l, hl, r, k + 1, y, hr, hk, h0, h1, h => by
    have hx := hl x (List.mem_cons_self ..)
    have := crcL_set (fun y hy => hl y (List.mem_cons_of_mem _ hy)) (k := k) (y := y) (crcB_lt (x := x.toNat) hr (by omega)) (by simpa using hk) h0 h1 h
    simpa using this
theorem crcSum_set {l : List Int} (hl : Bytes l) {k : Nat} {y : Int} (hk : k < l.length) (h0 : 0 ≤ y) (h1 : y ≤ 255) (h : crcSum (l.set k y) = crcSum l) : y = l.getD k 0 := by
  unfold crcSum crcMore at h
  rw [Nat.xor_comm 4294967295 (crcL _ _), Nat.xor_comm 4294967295 (crcL _ _)] at h
  exact crcL_set hl (by decide) hk h0 h1 (xor_cancel h)
/-- The last four bytes are the sum of all ahead of them. -/
def SumOk (b : List Int) : Prop := b.length = 128 ∧ b.drop 124 = putI (crcSum (b.take 124)) 4
theorem extI_sumOk {f : ByteArray} {i g : Nat} {p : List Int} (h : p.length ≤ 106) : SumOk (extI f i g p) := by
  refine ⟨extI_length h, ?_⟩
  unfold extI
  rw [List.drop_left' (extH_length h), List.take_left' (extH_length h)]
theorem openI_sumOk {b : List Int} {f : ByteArray} {i : Int} {x : List Int × Nat} (h : openI b f i = some x) : SumOk b := by
  obtain ⟨p, g⟩ := x
  have hl := (openI_gen h).2
  unfold openI at h
  split at h
  · cases h
  · split at h
    · cases h
    · split at h
      · cases h
      · rename_i h1 h2 h3
        simp only [Option.some.injEq, Prod.mk.injEq] at h
        obtain ⟨h4, h5⟩ := h
        rw [h4, h5] at h3
        rw [← Decidable.of_not_not h3]
        exact extI_sumOk hl
theorem sumOk_set {o : List Int} (ho : SumOk o) (hb : Bytes o) {k : Nat} {y : Int} (hk : k < 128) (h0 : 0 ≤ y) (h1 : y ≤ 255) (hne : y ≠ o.getD k 0) : ¬ SumOk (o.set k y) := by
  rintro ⟨-, h⟩
  obtain ⟨hl, hs⟩ := ho
  have bt : Bytes (o.take 124) := fun x hx => hb x (List.mem_of_mem_take hx)
  by_cases hk2 : k < 124
  · have e1 : (o.set k y).drop 124 = o.drop 124 := by
      apply List.ext_getElem?
      intro j
      rw [List.getElem?_drop, List.getElem?_drop, List.getElem?_set_ne (by omega)]
    have e2 : (o.set k y).take 124 = (o.take 124).set k y := by rw [List.take_set]
    rw [e1, e2, hs] at h
    have h2 := congrArg getN h
    have l1 : Bytes ((o.take 124).set k y) := fun x hx => by
      rcases List.mem_or_eq_of_mem_set hx with hx | rfl
      · exact bt x hx
      · omega
    rw [getN_putI 4 _ (crcSum_lt bt), getN_putI 4 _ (crcSum_lt l1)] at h2
    have := crcSum_set bt (k := k) (y := y) (by rw [List.length_take]; omega) h0 h1 h2.symm
    apply hne
    rw [this]
    simp only [List.getD, List.getElem?_take, if_pos hk2]
  · have e2 : (o.set k y).take 124 = o.take 124 := by
      apply List.ext_getElem?
      intro j
      rw [List.getElem?_take, List.getElem?_take]
      split
      · rw [List.getElem?_set_ne (by omega)]
      · rfl
    rw [e2, ← hs] at h
    have h2 := congrArg (fun l => l[k - 124]?) h
    simp only [List.getElem?_drop] at h2
    rw [show 124 + (k - 124) = k by omega, List.getElem?_set_self (by omega)] at h2
    apply hne
    simp [List.getD, ← h2]
theorem xorB_byte {a m : Int} (h0 : 0 ≤ a) (h1 : a ≤ 255) (h2 : 0 ≤ m) (h3 : m ≤ 255) : 0 ≤ xorB a m ∧ xorB a m ≤ 255 := by
  unfold xorB
  rw [u8_xor a m h0 (by omega) h2 (by omega)]
  have := Nat.xor_lt_two_pow (n := 8) (x := a.toNat) (y := m.toNat) (by omega) (by omega)
  omega
theorem xorB_ne {a m : Int} (h0 : 0 ≤ a) (h1 : a ≤ 255) (h2 : 0 < m) (h3 : m ≤ 255) : xorB a m ≠ a := by
  unfold xorB
  rw [u8_xor a m h0 (by omega) (by omega) (by omega)]
  intro h
  have h4 : a.toNat ^^^ m.toNat = a.toNat := by omega
  have h5 : m.toNat ^^^ a.toNat = 0 ^^^ a.toNat := by rw [Nat.xor_comm, h4, Nat.zero_xor]
  have := xor_cancel h5
  omega
theorem getD_byte {l : List Int} (h : Bytes l) (k : Nat) : 0 ≤ l.getD k 0 ∧ l.getD k 0 ≤ 255 := by
  unfold List.getD
  cases hk : l[k]? with
  | none => simp
  | some x => exact h x (List.mem_of_getElem? hk)
theorem xorAt_bytes {l : List Int} (h : Bytes l) {k : Nat} {m : Int} (h2 : 0 ≤ m) (h3 : m ≤ 255) : Bytes (xorAt l k m) := fun x hx => by
  rcases List.mem_or_eq_of_mem_set hx with hx | rfl
  · exact h x hx
  · exact xorB_byte (getD_byte h k).1 (getD_byte h k).2 h2 h3
theorem openI_xorAt {f e : ByteArray} {i g : Nat} {j : Int} {p : List Int} (hp : p.length ≤ 106) (bp : Bytes p) {k : Nat} {m : Int} (hk : k < 128) (h2 : 0 < m) (h3 : m ≤ 255) : openI (xorAt (extI f i g p) k m) e j = none := by
  have hb := extI_bytes (name := f) (index := i) (gen := g) hp bp
  have hd := getD_byte hb k
  have hx := xorB_byte hd.1 hd.2 (by omega : 0 ≤ m) h3
  cases h : openI (xorAt (extI f i g p) k m) e j with
  | none => rfl
  | some x => exact absurd (openI_sumOk h) (sumOk_set (extI_sumOk hp) hb hk hx.1 hx.2 (xorB_ne hd.1 hd.2 h2 h3))
theorem held_bytes {B : Dk} {x : ByteArray} {gen : Nat} {ps : List (List Int)} (h : Holds B x gen ps) (hl : ∀ p ∈ ps, p.length ≤ 106) (hb : ∀ p ∈ ps, Bytes p) : ∀ f ∈ halvesL x, ∀ i c, B.cel f i = some c → Bytes c.read := by
  have key : ∀ f, B.at f = (newCels f gen 0 ps).map Cel.syncd → ∀ i c, B.cel f i = some c → Bytes c.read := by
    intro f hf i c hc
    have hc2 := hc
    unfold Dk.cel at hc
    split at hc
    · rename_i h0
      rw [hf, List.getElem?_map] at hc
      have hlt : i.toNat < ps.length := by
        refine Nat.lt_of_not_le fun hn => ?_
        rw [List.getElem?_eq_none (by rw [newCels_length]; omega)] at hc
        cases hc
      have hg := held_cel (k := i.toNat) hf (List.getElem?_eq_getElem hlt)
      rw [show ((i.toNat : Nat) : Int) = i by omega, hc2] at hg
      cases hg
      exact extI_bytes (hl _ (List.getElem_mem hlt)) (hb _ (List.getElem_mem hlt))
    · cases hc
  intro f hf
  rcases List.mem_cons.1 hf with rfl | hf
  · exact key _ h.a
  · rcases List.mem_cons.1 hf with rfl | hf
    · exact key _ h.b
    · cases hf
theorem loadG_lost {A : Dk} {x : ByteArray} {gen : Int} : ∀ (c i k : Nat) (out : List Int), i ≤ k → k < i + c → (getP A x k).1 < 0 → loadG A x gen i c out = none
  | 0, i, k, out, h1, h2, _ => by omega
  | c + 1, i, k, out, h1, h2, h => by
    unfold loadG
    by_cases hk : i = k
    · subst hk
      rw [if_neg (by omega)]
    · split
      · exact loadG_lost c (i + 1) k _ (by omega) (by omega) h
      · rfl
theorem loadP_lost {A : Dk} {x : ByteArray} {gen : Int} {k : Nat} (hk : k < extN A x) (h : (getP A x k).1 < 0) : loadP A x gen = none := by
  unfold loadP
  split
  · rfl
  · exact loadG_lost _ 0 k [] (by omega) (by omega) h
theorem rot_at {A : Dk} {f : ByteArray} {k t : Nat} {m : Int} {I : List Int} (hc : A.cel f k = some (stl I)) (ht : t < 128) : A.rot f k t m = (0, A.set f ((A.at f).set k ⟨xorAt I t m, xorAt I t m, I, I, false⟩)) := by
  unfold Dk.rot
  rw [hc]
  dsimp only
  rw [if_neg (by omega), Int.toNat_natCast, Int.toNat_natCast]
  rfl
theorem getF_none {A : Dk} {i : Int} {f : ByteArray} {st : Int × List Int} {c : Cel} (hc : A.cel f i = some c) (h : openI c.read f i = none) : getF A i st f = st := by
  unfold getF
  rw [hc]
  dsimp only
  rw [h]
theorem cel_set_self {A : Dk} (hs : Sorted A.files) {f : ByteArray} {k : Nat} {c d : Cel} (hc : A.cel f k = some c) : (A.set f ((A.at f).set k d)).cel f k = some d := by
  unfold Dk.cel at hc ⊢
  rw [if_pos (by omega), Int.toNat_natCast] at hc ⊢
  rw [at_set hs, if_pos rfl, List.getElem?_set_self]
  exact (List.getElem?_eq_some_iff.1 hc).1
theorem cel_set_bytes {A : Dk} (hs : Sorted A.files) {f : ByteArray} {k : Nat} {d : Cel} (hd : Bytes d.read) (g : ByteArray) (hb : ∀ i c, A.cel g i = some c → Bytes c.read) : ∀ i c, (A.set f ((A.at f).set k d)).cel g i = some c → Bytes c.read := by
  intro i c hc
  unfold Dk.cel at hc
  split at hc
  · rename_i h0
    rw [at_set hs] at hc
    split at hc
    · rename_i hgf
      subst hgf
      rcases List.mem_or_eq_of_mem_set (List.mem_of_getElem? hc) with hm | rfl
      · obtain ⟨j, hj⟩ := List.getElem?_of_mem hm
        exact hb (j : Int) c (by unfold Dk.cel; rw [if_pos (by omega), Int.toNat_natCast]; exact hj)
      · exact hd
    · exact hb i c (by unfold Dk.cel; rw [if_pos h0]; exact hc)
  · cases hc
structure LostEnd (B : Dk) (x : ByteArray) (k : Nat) : Prop where
  got : (getP B x k).1 < 0
  load : ∀ gen, loadP B x gen = none
  bytes : ∀ f ∈ halvesL x, ∀ i c, B.cel f i = some c → Bytes c.read
/-- With one byte turned in both, the piece is lost. -/
theorem rot_lost {B : Dk} {x : ByteArray} {gen : Nat} {ps : List (List Int)} (h : Holds B x gen ps) (hs : Sorted B.files) (hne : x ++ dotA ≠ x ++ dotB) (hl : ∀ p ∈ ps, p.length ≤ 106) (hb : ∀ p ∈ ps, Bytes p) {k t : Nat} (hk : k < ps.length) (ht : t < 128) {m n : Int} (hm : 0 < m) (hm2 : m ≤ 255) (hn : 0 < n) (hn2 : n ≤ 255) :
    LostEnd ((B.rot (x ++ dotA) k t m).2.rot (x ++ dotB) k t n).2 x k := by
  have hp := List.getElem?_eq_getElem hk
  have lp := hl _ (List.getElem_mem hk)
  have bp := hb _ (List.getElem_mem hk)
  have hB := held_bytes h hl hb
  generalize ps[k] = p at hp lp bp
  have ca := held_cel h.a hp
  have cb := held_cel h.b hp
  have bIa := xorAt_bytes (extI_bytes (name := x ++ dotA) (index := k) (gen := gen) lp bp) (k := t) (m := m) (by omega) hm2
  have bIb := xorAt_bytes (extI_bytes (name := x ++ dotB) (index := k) (gen := gen) lp bp) (k := t) (m := n) (by omega) hn2
  rw [rot_at ca ht]
  dsimp only
  obtain ⟨da, hda⟩ : ∃ da : Cel, da = ⟨xorAt (extI (x ++ dotA) k gen p) t m, xorAt (extI (x ++ dotA) k gen p) t m, extI (x ++ dotA) k gen p, extI (x ++ dotA) k gen p, false⟩ := ⟨_, rfl⟩
  have hs1 : Sorted (B.set (x ++ dotA) ((B.at (x ++ dotA)).set k da)).files := sorted_put _ _ hs
  have cb1 : (B.set (x ++ dotA) ((B.at (x ++ dotA)).set k da)).cel (x ++ dotB) k = some (stl (extI (x ++ dotB) k gen p)) := by
    unfold Dk.cel at cb ⊢
    rw [at_set hs, if_neg hne]
    exact cb
  have ca1 : (B.set (x ++ dotA) ((B.at (x ++ dotA)).set k da)).cel (x ++ dotA) k = some da := cel_set_self hs ca
  have rd : da.read = xorAt (extI (x ++ dotA) k gen p) t m := by rw [hda]
  have hB1 : ∀ f ∈ halvesL x, ∀ i c, (B.set (x ++ dotA) ((B.at (x ++ dotA)).set k da)).cel f i = some c → Bytes c.read := fun f hf => cel_set_bytes hs (by rw [rd]; exact bIa) f (hB f hf)
  have la1 : ((B.set (x ++ dotA) ((B.at (x ++ dotA)).set k da)).at (x ++ dotA)).length = ps.length := by
    rw [at_set hs, if_pos rfl, List.length_set, h.a, List.length_map, newCels_length]
  rw [← hda]
  clear hda
  generalize B.set (x ++ dotA) ((B.at (x ++ dotA)).set k da) = B1 at *
  rw [rot_at cb1 ht]
  dsimp only
  obtain ⟨db, hdb⟩ : ∃ db : Cel, db = ⟨xorAt (extI (x ++ dotB) k gen p) t n, xorAt (extI (x ++ dotB) k gen p) t n, extI (x ++ dotB) k gen p, extI (x ++ dotB) k gen p, false⟩ := ⟨_, rfl⟩
  have rdb : db.read = xorAt (extI (x ++ dotB) k gen p) t n := by rw [hdb]
  rw [← hdb]
  clear hdb
  have cb2 : (B1.set (x ++ dotB) ((B1.at (x ++ dotB)).set k db)).cel (x ++ dotB) k = some db := cel_set_self hs1 cb1
  have ca2 : (B1.set (x ++ dotB) ((B1.at (x ++ dotB)).set k db)).cel (x ++ dotA) k = some da := by
    unfold Dk.cel at ca1 ⊢
    rw [at_set hs1, if_neg (Ne.symm hne)]
    exact ca1
  have hg : getP (B1.set (x ++ dotB) ((B1.at (x ++ dotB)).set k db)) x k = (-1, []) := by
    unfold getP halvesL
    simp only [List.foldl_cons, List.foldl_nil]
    rw [getF_none ca2 (by rw [rd]; exact openI_xorAt lp bp ht hm hm2), getF_none cb2 (by rw [rdb]; exact openI_xorAt lp bp ht hn hn2)]
  have he : k < extN (B1.set (x ++ dotB) ((B1.at (x ++ dotB)).set k db)) x := by
    unfold extN halvesL
    simp only [List.foldl_cons, List.foldl_nil]
    rw [at_set hs1, if_neg (Ne.symm hne), la1]
    omega
  refine ⟨by rw [hg]; decide, fun gen => loadP_lost he (by rw [hg]; decide), fun f hf => cel_set_bytes hs1 (by rw [rdb]; exact bIb) f (hB1 f hf)⟩
end Go.Proofs.YtjekeggkckgjfaaDoor
/- stripe, the plain part: groups of slots. -/
namespace Go.Proofs.YtjekeggkckgjfaaDoor
open Go.RowKit HP
set_option linter.unusedSimpArgs false
set_option linter.unusedVariables false

def partI (l : List Int) (e : Nat) : List Int := (l.drop (105 * e)).take 105
def zipX (a b : List Int) : List Int := List.zipWith xorB a b
def parI (l : List Int) (g : Nat) : Nat → List Int
  | 0 => List.replicate 106 0
  | k + 1 => zipX (parI l g k) (slotI (partI l (3 * g + k)))
def sec (G : List Int) (s : Nat) : List Int := (G.drop (106 * s)).take 106
def spl (G : List Int) (s : Nat) (S : List Int) : List Int := G.take (106 * s) ++ S ++ G.drop (106 * s + 106)
def payS (l : List Int) (g k : Nat) : List Int := if k = 3 then parI l g 3 else partI l (3 * g + k)
def paysS (l : List Int) (n k : Nat) : List (List Int) := (List.range n).map fun g => payS l g k
def stripeF (x : ByteArray) (k : Nat) : ByteArray := if k = 0 then x ++ dot0 else if k = 1 then x ++ dot1 else if k = 2 then x ++ dot2 else x ++ dotP
def groupsN (m : Nat) : Nat := if m = 0 then 1 else (m - 1) / 105 / 3 + 1
def wrT (A : Dk) (gen : Nat) : List (ByteArray × List (List Int)) → Int × Dk
  | [] => (0, A)
  | (f, ps) :: r => if (wrF A f gen 0 ps).1 = 0 then wrT (wrF A f gen 0 ps).2 gen r else wrF A f gen 0 ps
def fsS (name : ByteArray) (l : List Int) : List (ByteArray × List (List Int)) :=
  [(name ++ dot0, paysS l (groupsN l.length) 0), (name ++ dot1, paysS l (groupsN l.length) 1), (name ++ dot2, paysS l (groupsN l.length) 2), (name ++ dotP, paysS l (groupsN l.length) 3)]
def storeS (A : Dk) (name : ByteArray) (gen : Nat) (l : List Int) : Int × Dk := if (dropS A name).1 = 0 then wrT (dropS A name).2 gen (fsS name l) else dropS A name
theorem groupsI_nat (m : Nat) : groupsI m = (groupsN m : Int) := by
  unfold groupsI groupsN
  by_cases h : m = 0
  · subst h; rfl
  · rw [if_neg (by omega), if_neg h]
    omega
theorem groupsN_bounds (m : Nat) : 1 ≤ groupsN m ∧ 315 * (groupsN m - 1) ≤ m ∧ m ≤ 315 * groupsN m := by
  unfold groupsN
  split <;> omega
theorem partI_length (l : List Int) (e : Nat) : (partI l e).length = min 105 (l.length - 105 * e) := by
  unfold partI
  rw [List.length_take, List.length_drop]
theorem partI_le (l : List Int) (e : Nat) : (partI l e).length ≤ 105 := by rw [partI_length]; omega
theorem partI_bytes {l : List Int} (hb : Bytes l) (e : Nat) : Bytes (partI l e) := fun x hx => hb x (List.mem_of_mem_drop (List.mem_of_mem_take hx))
theorem zipX_length (a b : List Int) : (zipX a b).length = min a.length b.length := by unfold zipX; rw [List.length_zipWith]
theorem parI_length (l : List Int) (g : Nat) : ∀ k, (parI l g k).length = 106
  | 0 => List.length_replicate ..
  | k + 1 => by rw [parI, zipX_length, parI_length, slotI_length (partI_le _ _)]; omega
theorem zipX_bytes {a b : List Int} (ha : Bytes a) (hb : Bytes b) : Bytes (zipX a b) := by
  intro x hx
  unfold zipX at hx
  obtain ⟨i, hi, rfl⟩ := List.mem_iff_getElem.1 hx
  rw [List.getElem_zipWith]
  have h1 := ha _ (List.getElem_mem (by rw [List.length_zipWith] at hi; omega : i < a.length))
  have h2 := hb _ (List.getElem_mem (by rw [List.length_zipWith] at hi; omega : i < b.length))
  exact xorB_byte h1.1 h1.2 h2.1 h2.2
theorem parI_bytes {l : List Int} (hb : Bytes l) (g : Nat) : ∀ k, Bytes (parI l g k)
  | 0 => fun x hx => by rw [List.eq_of_mem_replicate hx]; omega
  | k + 1 => zipX_bytes (parI_bytes hb g k) (slotI_bytes (partI_le _ _) (partI_bytes hb _))
theorem payS_length (l : List Int) (g k : Nat) : (payS l g k).length ≤ 106 := by
  unfold payS
  split
  · rw [parI_length]; omega
  · have := partI_le l (3 * g + k); omega
theorem payS_bytes {l : List Int} (hb : Bytes l) (g k : Nat) : Bytes (payS l g k) := by
  unfold payS
  split
  · exact parI_bytes hb g 3
  · exact partI_bytes hb _
theorem payI_slot {p : List Int} (h : p.length ≤ 105) {k : Nat} (hk : k ≠ 3) : payI k (slotI p) = p := by
  unfold payI slotI
  rw [if_neg hk]
  simp
theorem slotI_head (p : List Int) : (slotI p).headD 0 = (p.length : Int) := rfl
theorem sec_get {G : List Int} {s j : Nat} (h : 106 * s + 106 ≤ G.length) : (sec G s)[j]? = if j < 106 then G[106 * s + j]? else none := by
  unfold sec
  rw [List.getElem?_take]
  split
  · rw [List.getElem?_drop]
  · rfl
theorem sec_length {G : List Int} {s : Nat} (h : 106 * s + 106 ≤ G.length) : (sec G s).length = 106 := by
  unfold sec
  rw [List.length_take, List.length_drop]
  omega
theorem spl_length {G S : List Int} {s : Nat} (hS : S.length = 106) (h : 106 * s + 106 ≤ G.length) : (spl G s S).length = G.length := by
  unfold spl
  rw [List.length_append, List.length_append, List.length_take, List.length_drop, hS]
  omega
theorem spl_get {G S : List Int} {s : Nat} (hS : S.length = 106) (h : 106 * s + 106 ≤ G.length) (j : Nat) : (spl G s S)[j]? = if 106 * s ≤ j ∧ j < 106 * s + 106 then S[j - 106 * s]? else G[j]? := by
  unfold spl
  rw [List.append_assoc, List.getElem?_append, List.length_take, Nat.min_eq_left (by omega)]
  by_cases h1 : j < 106 * s
  · rw [if_pos h1, if_neg (by omega), List.getElem?_take, if_pos h1]
  · rw [if_neg h1, List.getElem?_append, hS]
    by_cases h2 : j - 106 * s < 106
    · rw [if_pos h2, if_pos (by omega)]
    · rw [if_neg h2, if_neg (by omega), List.getElem?_drop]
      congr 1
      omega
theorem sec_spl {G S : List Int} {s s' : Nat} (hS : S.length = 106) (h : 106 * s + 106 ≤ G.length) (h' : 106 * s' + 106 ≤ G.length) : sec (spl G s S) s' = if s = s' then S else sec G s' := by
  apply List.ext_getElem?
  intro j
  rw [sec_get (by rw [spl_length hS h]; exact h'), spl_get hS h]
  by_cases hj : j < 106
  · rw [if_pos hj]
    by_cases e : s = s'
    · subst e
      rw [if_pos (by omega), if_pos rfl]
      congr 1
      omega
    · rw [if_neg (by omega), if_neg e, sec_get h', if_pos hj]
  · rw [if_neg hj]
    split
    · rw [List.getElem?_eq_none (by omega)]
    · rw [sec_get h', if_neg hj]
theorem sec_mix {G O : List Int} {s s' : Nat} (hO : O.length = 106) (h : 106 * s + 106 ≤ G.length) (h' : 106 * s' + 106 ≤ G.length) : sec (mixN G (106 * s) O 106) s' = if s = s' then zipX (sec G s) O else sec G s' := by
  apply List.ext_getElem?
  intro j
  rw [sec_get (by rw [mixN_length]; exact h')]
  by_cases hj : j < 106
  · rw [if_pos hj]
    by_cases e : s = s'
    · subst e
      rw [if_pos rfl, mixN_in G (106 * s) O 106 j hj h]
      unfold zipX
      have hs : (sec G s)[j]? = some (G.getD (106 * s + j) 0) := by
        rw [sec_get h, if_pos hj, List.getD_eq_getElem?_getD, List.getElem?_eq_getElem (by omega)]; rfl
      have ho : O[j]? = some (O.getD j 0) := by rw [List.getD_eq_getElem?_getD, List.getElem?_eq_getElem (by omega)]; rfl
      rw [List.getElem?_zipWith, hs, ho]
    · rw [if_neg e, sec_get h', if_pos hj]
      rcases Nat.lt_or_ge s s' with h1 | h1
      · exact mixN_ge _ _ _ _ _ (by omega)
      · exact mixN_lt _ _ _ _ _ (by omega)
  · rw [if_neg hj]
    split
    · rw [List.getElem?_eq_none (by rw [zipX_length, sec_length h, hO]; omega)]
    · rw [sec_get h', if_neg hj]
/-- The groups, so far. -/
structure Grp (l : List Int) (n : Nat) (G : List Int) (g k : Nat) : Prop where
  len : G.length = 424 * n
  slots : ∀ g' k', g' < n → k' < 3 → (g' < g ∨ g' = g ∧ k' < k) → sec G (4 * g' + k') = slotI (partI l (3 * g' + k'))
  par : ∀ g', g' < n → sec G (4 * g' + 3) = parI l g' (if g' < g then 3 else if g' = g then k else 0)
theorem grp_start (l : List Int) (n : Nat) : Grp l n (List.replicate (424 * n) 0) 0 0 := by
  refine ⟨List.length_replicate .., fun g' k' _ _ h => by omega, fun g' hg => ?_⟩
  have : (if g' < 0 then 3 else if g' = 0 then 0 else 0) = 0 := by split <;> (try split) <;> omega
  rw [this]
  unfold sec parI
  rw [List.drop_replicate, List.take_replicate, Nat.min_eq_left (by omega)]
theorem grp_step {l G : List Int} {n g k : Nat} (h : Grp l n G g k) (hg : g < n) (hk : k < 3) : Grp l n (mixN (spl G (4 * g + k) (slotI (partI l (3 * g + k)))) (106 * (4 * g + 3)) (slotI (partI l (3 * g + k))) 106) g (k + 1) := by
  have hS := slotI_length (partI_le l (3 * g + k))
  have hl := h.len
  have i1 : 106 * (4 * g + k) + 106 ≤ G.length := by omega
  have i2 : 106 * (4 * g + 3) + 106 ≤ G.length := by omega
  have l1 := spl_length hS i1
  refine ⟨by rw [mixN_length, l1, hl], fun g' k' hg' hk' ho => ?_, fun g' hg' => ?_⟩
  · rw [sec_mix hS (by rw [l1]; exact i2) (by rw [l1]; omega), if_neg (by omega), sec_spl hS i1 (by omega)]
    by_cases e : 4 * g + k = 4 * g' + k'
    · obtain rfl : g' = g := by omega
      obtain rfl : k' = k := by omega
      rw [if_pos rfl]
    · rw [if_neg e]
      exact h.slots g' k' hg' hk' (by omega)
  · by_cases e : g' = g
    · subst e
      rw [sec_mix hS (by rw [l1]; exact i2) (by rw [l1]; exact i2), if_pos rfl, sec_spl hS i1 i2, if_neg (by omega), h.par g' hg']
      simp only [Nat.lt_irrefl, if_false, if_true]
      rfl
    · rw [sec_mix hS (by rw [l1]; exact i2) (by rw [l1]; omega), if_neg (by omega), sec_spl hS i1 (by omega), if_neg (by omega), h.par g' hg']
      simp only [e, if_false]
theorem grp_next {l G : List Int} {n g : Nat} (h : Grp l n G g 3) (hg : g < n) : Grp l n G (g + 1) 0 := by
  refine ⟨h.len, fun g' k' hg' hk' ho => h.slots g' k' hg' hk' (by omega), fun g' hg' => ?_⟩
  rw [h.par g' hg']
  congr 1
  split
  · rw [if_pos (by omega)]
  · split
    · rw [if_pos (by omega)]
    · rw [if_neg (by omega)]
      split <;> rfl
theorem grp_pay {l G : List Int} {n g k : Nat} (h : Grp l n G n 0) (hg : g < n) (hk : k < 4) : payI k (sec G (4 * g + k)) = payS l g k ∧ (k ≠ 3 → 0 ≤ (sec G (4 * g + k)).headD 0 ∧ (sec G (4 * g + k)).headD 0 ≤ 105) ∧ (sec G (4 * g + k)).length = 106 := by
  have hl := h.len
  refine ⟨?_, fun h3 => ?_, sec_length (by omega)⟩
  · by_cases h3 : k = 3
    · subst h3
      unfold payI payS
      rw [if_pos rfl, if_pos rfl, h.par g hg, if_pos hg]
    · rw [h.slots g k hg (by omega) (by omega), payI_slot (partI_le _ _) h3]
      unfold payS
      rw [if_neg h3]
  · rw [h.slots g k hg (by omega) (by omega), slotI_head]
    have := partI_le l (3 * g + k)
    omega
end Go.Proofs.YtjekeggkckgjfaaDoor
/- stripe, the plain part: a text stored on a new disk. -/
namespace Go.Proofs.YtjekeggkckgjfaaDoor
open Go.RowKit HP
set_option linter.unusedSimpArgs false
set_option linter.unusedVariables false

/-- Files written whole, one behind the other, on a disk that has none of them. -/
structure FilesEnd (A B : Dk) (gen : Nat) (fs : List (ByteArray × List (List Int))) : Prop where
  sorted : Sorted B.files
  fuse : B.fuse = -1
  room : B.room = A.room
  size : sizeF B.files = sizeF A.files + (fs.map fun x => x.2.length).sum
  others : ∀ t, (∀ x ∈ fs, x.1 ≠ t) → B.at t = A.at t
  held : ∀ x ∈ fs, B.at x.1 = (newCels x.1 gen 0 x.2).map Cel.syncd
theorem wrT_new {gen : Nat} (hg : (gen : Int) ≤ 4611686018427387904) : ∀ (fs : List (ByteArray × List (List Int))) (A : Dk), Sorted A.files → A.fuse = -1 → (∀ x ∈ fs, namedB x.1 = true ∧ A.at x.1 = [] ∧ 0 < x.2.length ∧ x.2.length ≤ 2147483647 ∧ ∀ p ∈ x.2, p.length ≤ 106) → fs.Pairwise (fun x y => x.1 ≠ y.1) → (((fs.map fun x => x.2.length).sum : Nat) : Int) ≤ A.free →
    ∃ B, wrT A gen fs = (0, B) ∧ FilesEnd A B gen fs
  | [], A, hs, he, _, _, _ => ⟨A, rfl, hs, he, rfl, by simp, fun _ _ => rfl, fun x hx => by cases hx⟩
  | (f, ps) :: fs, A, hs, he, hx, hp, hf => by
    obtain ⟨h1, h2, h3, h4, h5⟩ := hx (f, ps) (List.mem_cons_self ..)
    simp only at h1 h2 h3 h4 h5
    simp only [List.map_cons, List.sum_cons] at hf
    obtain ⟨B1, e1, F1, -⟩ := wrF_fresh h1 hg ps A 0 hs he (by rw [h2]; rfl) (by omega) h5 (by omega) (by omega)
    have g1 := wrF_cels h1 hg ps A 0 hs he (by rw [h2]; rfl) (by omega) h5 (by omega) (by omega)
    rw [e1, h2, List.nil_append] at g1
    rw [List.pairwise_cons] at hp
    obtain ⟨B2, e2, F2⟩ := wrT_new hg fs B1 F1.sorted F1.fuse (fun x hx2 => by
      obtain ⟨k1, k2, k3⟩ := hx x (List.mem_cons_of_mem _ hx2)
      exact ⟨k1, by rw [F1.others _ (hp.1 x hx2)]; exact k2, k3⟩) hp.2 (by
        have := F1.size
        have := F1.room
        unfold Dk.free at hf ⊢
        omega)
    refine ⟨B2, ?_, F2.sorted, F2.fuse, F2.room.trans F1.room, ?_, fun t ht => ?_, fun x hx2 => ?_⟩
    · unfold wrT
      rw [e1, if_pos rfl]
      exact e2
    · rw [F2.size, F1.size, List.map_cons, List.sum_cons]
      simp only
      omega
    · rw [F2.others t (fun x hx2 => ht x (List.mem_cons_of_mem _ hx2)), F1.others t (ht (f, ps) (List.mem_cons_self ..))]
    · rcases List.mem_cons.1 hx2 with rfl | hx3
      · rw [F2.others f (fun y hy => Ne.symm (hp.1 y hy))]
        exact g1
      · exact F2.held x hx3
structure FourNames (x : ByteArray) : Prop where
  n0 : namedB (x ++ dot0) = true
  n1 : namedB (x ++ dot1) = true
  n2 : namedB (x ++ dot2) = true
  n3 : namedB (x ++ dotP) = true
  ne : [x ++ dot0, x ++ dot1, x ++ dot2, x ++ dotP].Pairwise (· ≠ ·)
theorem fourX : FourNames exS := ⟨by kernel_rfl, by kernel_rfl, by kernel_rfl, by kernel_rfl, by decide⟩
theorem paysS_length (l : List Int) (n k : Nat) : (paysS l n k).length = n := by unfold paysS; rw [List.length_map, List.length_range]
theorem paysS_mem {l p : List Int} {n k : Nat} (h : p ∈ paysS l n k) : ∃ g, g < n ∧ p = payS l g k := by
  unfold paysS at h
  obtain ⟨g, hg, rfl⟩ := List.mem_map.1 h
  exact ⟨g, List.mem_range.1 hg, rfl⟩

/-- A text that stands on a disk. -/
structure StHas (room : Int) (x : ByteArray) (gen : Nat) (l : List Int) (B : Dk) : Prop where
  eq : storeS (Dk.new room) x gen l = (0, B)
  sorted : Sorted B.files
  fuse : B.fuse = -1
  free : B.free = room - 4 * (groupsN l.length : Int)
  held : ∀ k, k < 4 → B.at (stripeF x k) = (newCels (stripeF x k) gen 0 (paysS l (groupsN l.length) k)).map Cel.syncd
theorem storeS_new {room : Int} {x : ByteArray} {gen : Nat} {l : List Int} (N : FourNames x) (hg : (gen : Int) ≤ 4611686018427387904) (hr : 4 * (groupsN l.length : Int) ≤ room) (hm : groupsN l.length ≤ 2147483647) : ∃ B, StHas room x gen l B := by
  have hb := groupsN_bounds l.length
  have hs0 : Sorted (Dk.new room).files := List.Pairwise.nil
  have hd : dropS (Dk.new room) x = (0, Dk.new room) := rfl
  have hfs : fsS x l = [(x ++ dot0, paysS l (groupsN l.length) 0), (x ++ dot1, paysS l (groupsN l.length) 1), (x ++ dot2, paysS l (groupsN l.length) 2), (x ++ dotP, paysS l (groupsN l.length) 3)] := rfl
  have hsum : ((fsS x l).map fun y => y.2.length).sum = 4 * groupsN l.length := by
    rw [hfs]
    simp only [List.map_cons, List.map_nil, List.sum_cons, List.sum_nil, paysS_length]
    omega
  have hall : ∀ k, ∀ p ∈ paysS l (groupsN l.length) k, p.length ≤ 106 := fun k p hp => by
    obtain ⟨g, -, rfl⟩ := paysS_mem hp
    exact payS_length l g k
  obtain ⟨B, hB, F⟩ := wrT_new hg (fsS x l) (Dk.new room) hs0 rfl (fun y hy => by
    rw [hfs] at hy
    simp only [List.mem_cons, List.not_mem_nil, or_false] at hy
    rcases hy with rfl | rfl | rfl | rfl
    · exact ⟨N.n0, rfl, by simp only [paysS_length]; omega, by simp only [paysS_length]; exact hm, hall 0⟩
    · exact ⟨N.n1, rfl, by simp only [paysS_length]; omega, by simp only [paysS_length]; exact hm, hall 1⟩
    · exact ⟨N.n2, rfl, by simp only [paysS_length]; omega, by simp only [paysS_length]; exact hm, hall 2⟩
    · exact ⟨N.n3, rfl, by simp only [paysS_length]; omega, by simp only [paysS_length]; exact hm, hall 3⟩) (by
      have := N.ne
      rw [hfs]
      simpa using this) (by
      rw [hsum]
      show ((4 * groupsN l.length : Nat) : Int) ≤ room - (0 : Nat)
      omega)
  refine ⟨B, ?_, F.sorted, F.fuse, ?_, fun k hk => ?_⟩
  · unfold storeS
    rw [hd, if_pos rfl]
    exact hB
  · have h1 := F.size
    have h2 := F.room
    rw [hsum] at h1
    have h3 : sizeF (Dk.new room).files = 0 := rfl
    have h4 : (Dk.new room).room = room := rfl
    unfold Dk.free
    omega
  · have hc : k = 0 ∨ k = 1 ∨ k = 2 ∨ k = 3 := by omega
    rw [hfs] at F
    rcases hc with rfl | rfl | rfl | rfl
    · exact F.held (x ++ dot0, paysS l (groupsN l.length) 0) (by simp)
    · exact F.held (x ++ dot1, paysS l (groupsN l.length) 1) (by simp)
    · exact F.held (x ++ dot2, paysS l (groupsN l.length) 2) (by simp)
    · exact F.held (x ++ dotP, paysS l (groupsN l.length) 3) (by simp)
end Go.Proofs.YtjekeggkckgjfaaDoor
/- stripe.Store. -/
namespace Go.Proofs.YtjekeggkckgjfaaDoor
open Go.RowKit HP
set_option linter.unusedSimpArgs false
set_option linter.unusedVariables false

theorem wpList_make_run {P : Program} {ops : Array Oper} {rest : List Oper} {o : Oper} {a : Act} {w w' : World} {Q : Exit → Act → World → Prop} {t : TypeId} {x y : Operand} {X Y V : Value} (hg : o.guard = none) (ho : o.op = .makeSlice t x y) (hx : a.eval x = X) (hy : a.eval y = Y)
    (hr : (Instr.makeSlice t X Y).run P w = .ok V w') (hk : wpList P ops Q rest (a.put o.dst V) w') : wpList P ops Q (o :: rest) a w := by
  refine wpList_plain hg fun K hK => ?_
  unfold Oper.wp execOp
  simp only [ho, hx, hy, Sem.run_bind, hr, Result.andThen_ok]
  exact hK _ _ hk
theorem info_four : (Tryd.prog.info? 89).map (fun i => (i.zero.map Value.cells, i.size, i.bytes)) = some (some (b8s (List.replicate 424 0)).toArray, 424, 424) := by kernel_rfl
theorem made_zero (k n : Nat) (hk : 0 < k) : (madeCells (b8s (List.replicate k 0)).toArray (n * k)) = (b8s (List.replicate (k * n) 0)).toArray := by
  apply Array.ext
  · simp [size_madeCells, b8s_length, Nat.mul_comm]
  · intro i h1 h2
    have hm : i % k < k := Nat.mod_lt _ hk
    simp [madeCells, b8s, List.getElem!_eq_getElem?_getD, hm]
theorem made_groups (n : Nat) : (madeCells (b8s (List.replicate 424 0)).toArray (n * 424)) = (b8s (List.replicate (424 * n) 0)).toArray := made_zero 424 n (by decide)
theorem run_make_groups {E : Env} {q : HP} {w : World} (h : Sat E w q) (n : Nat) (hn : n ≤ 1000000000) (kl kc : IntKind) :
    ∃ w', (Instr.makeSlice 85 (.int kl n) (.int kc n)).run Tryd.prog w = .ok (.slice (some ⟨w.heap.size, 0, none⟩) n n) w' ∧ Sat E w' (HP.pt w.heap.size (.cells (b8s (List.replicate (424 * n) 0)).toArray 89) * q) := by
  have hinf := info_four
  cases hi : Tryd.prog.info? 89 with
  | none => rw [hi] at hinf; cases hinf
  | some i =>
    rw [hi] at hinf
    simp only [Option.map_some, Option.some.injEq, Prod.mk.injEq] at hinf
    obtain ⟨hz0, hs, hb⟩ := hinf
    cases hz : i.zero with
    | none => rw [hz] at hz0; cases hz0
    | some z =>
      rw [hz] at hz0
      simp only [Option.map_some, Option.some.injEq] at hz0
      have hr := run_make (P := Tryd.prog) w 85 89 i z Tryd.underlying85 hi hz kl kc n n (by omega) (Int.le_refl _) (by rw [hb]; omega) (by omega)
      rw [Int.toNat_natCast, hs, hz0, made_groups] at hr
      exact ⟨_, hr, h.alloc _⟩
def cutA (Ap : Option Addr) (c a : Nat) : Option Addr := if c = a then Ap else Ap.map (·.add a)
theorem run_cut_bytes (w : World) (Ap : Option Addr) (m c a b : Nat) (h1 : a ≤ b) (h2 : b ≤ c) : (Instr.sliceAt 22 (.slice Ap m c) (some (.int .i64 (a : Int))) (some (.int .i64 (b : Int))) none).run Tryd.prog w = .ok (.slice (cutA Ap c a) (b - a) (c - a)) w := by
  have f1 : (0 : Int) ≤ (b : Int) ∧ (b : Int) ≤ (c : Int) := by omega
  have f2 : (0 : Int) ≤ (a : Int) ∧ (a : Int) ≤ (b : Int) := by omega
  have e6 : (sizeOf 5).run Tryd.prog w = .ok 1 w := by kernel_rfl
  simp [Instr.sliceAt, Instr.slice, run_underlying Tryd.underlying22, Instr.sliceBounds, Instr.sliceBound, asIntOf, f1, f2, h1, h2, e6, cutA]
theorem cut_cells {w : World} {Ap : Option Addr} {l : List Int} {c a b : Nat} (h : Cells w Ap (b8s l)) (h1 : a ≤ b) (h2 : b ≤ c) (h3 : b ≤ l.length) : Cells w (cutA Ap c a) (b8s ((l.drop a).take (b - a))) := by
  unfold cutA
  by_cases e : c = a
  · rw [if_pos e, show b - a = 0 by omega, List.take_zero]
    exact Cells.nil _ _
  · rw [if_neg e]
    cases Ap with
    | none =>
      have : l = [] := by
        cases l with
        | nil => rfl
        | cons x l => obtain ⟨a, ha, _⟩ := h.at_ 0 (by simp [b8s]); cases ha
      subst this
      simp only [List.drop_nil, List.take_nil]
      exact Cells.nil _ _
    | some p =>
      have := (h.drop a).take (b - a)
      unfold b8s at this ⊢
      rw [List.map_take, List.map_drop]
      exact this
theorem part_cut (l : List Int) (e m : Nat) (hm : l.length = m) : (l.drop (min (105 * e) m)).take (min (min (105 * e) m + 105) m - min (105 * e) m) = partI l e := by
  unfold partI
  rcases Nat.lt_or_ge m (105 * e) with h | h
  · rw [Nat.min_eq_right (by omega : m ≤ 105 * e), show min (m + 105) m - m = 0 by omega, List.take_zero, List.drop_of_length_le (by omega), List.take_nil]
  · rw [Nat.min_eq_left h]
    rcases Nat.lt_or_ge m (105 * e + 105) with h2 | h2
    · rw [Nat.min_eq_right (by omega), List.take_of_length_le (by rw [List.length_drop]; omega), List.take_of_length_le (by rw [List.length_drop]; omega)]
    · rw [Nat.min_eq_left h2, show 105 * e + 105 - 105 * e = 105 by omega]
theorem paysS_drop (l : List Int) (n k : Nat) {i : Nat} (h : i < n) : (paysS l n k).drop i = payS l i k :: (paysS l n k).drop (i + 1) := by
  unfold paysS
  rw [List.drop_eq_getElem_cons (by simp; omega)]
  simp
theorem splice_b8s (G S : List Int) (s : Nat) (h : S.length = 106) : splice (b8s G).toArray.toList (106 * s) (b8s S) = b8s (spl G s S) := by
  unfold splice spl b8s
  rw [List.length_map, h, List.map_append, List.map_append, List.map_take, List.map_drop]
end Go.Proofs.YtjekeggkckgjfaaDoor
/- stripe.Store: the walk. -/
namespace Go.Proofs.YtjekeggkckgjfaaDoor
open Go.RowKit HP
set_option linter.unusedSimpArgs false
set_option linter.unusedVariables false

set_option maxHeartbeats 4000000 in
set_option maxRecDepth 100000 in
theorem stripe_store (E : Env) (q : HP) (d : Nat) (A : Dk) (name : ByteArray) (gen : Nat) (Ap : Option Addr) (l : List Int) (m c : Nat) (w : World) (hname : name.size + 2 ≤ maxLen) (hgen : (gen : Int) ≤ 4611686018427387904) (hlm : l.length = m) (hmc : m ≤ c) (hcm : c ≤ maxLen) (hm9 : m ≤ 1000000000) (hl : Bytes l)
    (hq : ∀ w, Sat E w q → Quarter w ∧ Cells w Ap (b8s l)) (hw : Sat E w (HP.disk d A * q)) :
    Calls Tryd.prog 12 #[.pointer (some ⟨d, 0, none⟩), .string name, .int .i64 gen, .slice Ap m c] w fun e w' => e = .returned (.int .i64 (storeS A name gen l).1) ∧ Sat E w' (HP.disk d (storeS A name gen l).2 * q) := by
  have HS : Aside (storeS A name gen l = if (dropS A name).1 = 0 then wrT (dropS A name).2 gen (fsS name l) else dropS A name) := ⟨rfl⟩
  have HQ := Aside.mk (And.intro hq (And.intro hl (And.intro hlm (And.intro hw (And.intro hname hcm)))))
  clear hq hl hlm hw hcm
  go_enter Tryd.func12, Tryd.ntmps12
  go_wp2_with fail
  refine (stripe_none E q d A _ HQ.out.2.2.2.1).mono ?_
  rintro e w1 ⟨rfl, h1⟩
  have H1 := Aside.mk h1
  clear h1
  go_wp2_with fail
  refine (stripe_drop E q d A name _ hname H1.out).mono ?_
  rintro e w2 ⟨rfl, h2⟩
  have H2 := Aside.mk h2
  clear h2 H1 hname
  by_cases h0 : (dropS A name).1 = 0
  · rw [if_pos h0] at HS
    rw [h0]
    generalize (dropS A name).2 = B at *
    clear h0
    go_wp2_with fail
    refine (stripe_groups m _ (by unfold wf64; omega)).mono ?_
    rintro e w3 ⟨rfl, hw3⟩
    subst w3
    rw [groupsI_nat]
    obtain ⟨n, hn⟩ : ∃ n, n = groupsN m := ⟨_, rfl⟩
    have hn9 : n ≤ 1000000000 := by
      have := groupsN_bounds m
      omega
    rw [← hn]
    have HN := Aside.mk hn
    clear hn
    obtain ⟨w4, hmk, h4⟩ := run_make_groups H2.out n hn9 .i64 .i64
    have H4 : Aside (∃ G, Grp l n G 0 0 ∧ Sat E w4 (HP.pt w2.heap.size (.cells (b8s G).toArray 89) * (HP.disk d B * q))) := ⟨_, grp_start l n, h4⟩
    clear h4 H2
    go_wp2_with (first | (refine wpList_make_run rfl rfl rfl rfl hmk ?_))
    clear hmk
    generalize w2.heap.size = bG at *
    go_loopw [45] (fun v45 wr => ∃ g : Nat, g ≤ n ∧ v45 = .int .i64 g ∧ Aside (∃ G, Grp l n G g 0 ∧ Sat E wr (HP.pt bG (.cells (b8s G).toArray 89) * (HP.disk d B * q)))) (fun i _ => n - (intOf i).toNat)
    case atStart => exact ⟨0, by omega, rfl, H4⟩
    case round =>
      clear H4
      obtain ⟨g, hg, rfl, HG⟩ := hrel
      by_cases hlt : g < n
      · have hlt2 : (g : Int) < n := by omega
        go_wp2
        go_loopw [48] (fun v48 w2 => ∃ k : Nat, k ≤ 3 ∧ v48 = .int .i64 k ∧ Aside (∃ G, Grp l n G g k ∧ Sat E w2 (HP.pt bG (.cells (b8s G).toArray 89) * (HP.disk d B * q)))) (fun i _ => 3 - (intOf i).toNat)
        case atStart => exact ⟨0, by omega, rfl, HG⟩
        case round =>
          clear HG
          obtain ⟨k, hk, rfl, HK⟩ := hrel
          by_cases hk3 : k < 3
          · have hk32 : (k : Int) < 3 := by omega
            obtain ⟨fr, hfr⟩ : ∃ fr, fr = min (105 * (3 * g + k)) m := ⟨_, rfl⟩
            obtain ⟨to, hto⟩ : ∃ to, to = min (fr + 105) m := ⟨_, rfl⟩
            have y1 : (if (m : Int) < 105 * (3 * (g : Int) + (k : Int)) then (m : Int) else 105 * (3 * (g : Int) + (k : Int))) = (fr : Int) := by split <;> omega
            have y2 : (if (m : Int) < (fr : Int) + 105 then (m : Int) else (fr : Int) + 105) = (to : Int) := by split <;> omega
            have y3 : fr ≤ to := by omega
            have y4 : to ≤ m := by omega
            have y5 : to ≤ c := by omega
            have y6 : to - fr ≤ 105 := by omega
            have HP : Aside ((l.drop fr).take (to - fr) = partI l (3 * g + k)) := ⟨by
              have := part_cut l (3 * g + k) m HQ.out.2.2.1
              rw [← hfr, ← hto] at this
              exact this⟩
            have sl := run_cut_bytes wr Ap m c fr to y3 y5
            have HC : Aside (∀ w', Sat E w' q → Cells w' (cutA Ap c fr) (b8s (partI l (3 * g + k)))) := ⟨fun w' h => by
              rw [← HP.out]
              exact cut_cells (HQ.out.1 w' h).2 y3 y5 (by rw [HQ.out.2.2.1]; exact y4)⟩
            have HPL : Aside ((partI l (3 * g + k)).length = to - fr) := ⟨by rw [← HP.out, List.length_take, List.length_drop, HQ.out.2.2.1]; omega⟩
            generalize cutA Ap c fr = A' at *
            obtain ⟨G, hG, hGS⟩ := HK.out
            have HG := Aside.mk hG
            have HGS := Aside.mk hGS
            clear hG hGS HK hfr hto
            go_wp2_with fail
            refine (stripe_of E _ A' (partI l (3 * g + k)) (to - fr) (c - fr) _ HPL.out y6 (fun w' h => HC.out w' h.right.right) HGS.out).mono ?_
            rintro e w5 ⟨rfl, h5⟩
            have hS := slotI_length (partI_le l (3 * g + k))
            have HGN := Aside.mk (grp_step HG.out hlt hk3)
            obtain ⟨S, hSe⟩ : ∃ S, S = slotI (partI l (3 * g + k)) := ⟨_, rfl⟩
            rw [← hSe] at hS HGN ⊢
            clear hSe
            have h6 := h5.alloc (.cells Tryd.zeroCells87 87)
            have r6 := run_storeAgg agSlot (g := w5.heap.size) (off := 0) (cs := b8s S) h6.get (by rw [b8s_length]; exact hS) (by rw [← zero_slot]; simp [b8s_length]) (b8s_one S)
            have h7 := h6.splice (splice Tryd.zeroCells87.toList 0 (b8s S))
            rw [splice_all hS] at h7 r6
            generalize World.setRow (w5.alloc (.cells Tryd.zeroCells87 87)) w5.heap.size (b8s S).toArray = w7 at *
            have HS7 := Aside.mk (And.intro hS h7)
            clear hS h7 h6 h5 sl y1 y2 HC HPL HP
            go_wp2_with (first | (refine wpList_store_run rfl rfl rfl rfl rfl r6 ?_))
            generalize w5.heap.size = bS at *
            have hgl := HG.out.len
            have e1 : g * 424 + k * 106 = 106 * (4 * g + k) := by omega
            have h8 : Sat E w7.drew (HP.pt bG (.cells (b8s G).toArray 89) * (HP.pt bS (.cells (b8s S).toArray 87) * (HP.disk d B * q))) := HS7.out.2.drew.perm (by ac_rfl)
            have rl := run_loadAgg (P := Tryd.prog) agSlot (by rw [b8s_length]; exact HS7.out.1) (Sat.ptCells (off := 0) (l := b8s S) HS7.out.2.drew (by rw [List.drop_zero, List.take_length]))
            have rst := run_storeAgg agSlot (g := bG) (off := 106 * (4 * g + k)) (cs := b8s S) h8.get (by rw [b8s_length]; exact HS7.out.1) (by simp [b8s_length]; omega) (b8s_one S)
            have h9 := h8.splice (splice (b8s G).toArray.toList (106 * (4 * g + k)) (b8s S))
            rw [splice_b8s G S _ HS7.out.1] at h9 rst
            rw [← e1] at rst
            generalize World.setRow w7.drew bG (b8s (spl G (4 * g + k) S)).toArray = w9 at *
            have H9 := Aside.mk h9
            clear h8 h9 e1
            have rl2 := run_loadAgg (P := Tryd.prog) agSlot (by rw [b8s_length]; exact HS7.out.1) (Sat.ptCells (off := 0) (l := b8s S) H9.out.drew.s2 (by rw [List.drop_zero, List.take_length]))
            have hmx := stripe_mix E _ bG (106 * (4 * g + 3)) 89 (spl G (4 * g + k) S) S w9.drew HS7.out.1 (by rw [spl_length HS7.out.1 (by omega)]; omega) H9.out.drew
            rw [show (⟨bG, 106 * (4 * g + 3), none⟩ : Addr) = ⟨bG, g * 424 + 318, none⟩ by congr 1; omega] at hmx
            obtain ⟨C, hC⟩ : ∃ C, C = (b8s S).toArray := ⟨_, rfl⟩
            rw [← hC] at rl rst rl2 hmx
            have HCC := Aside.mk hC
            clear hC
            have hk42 : (k : Int) < 4 := by omega
            refine region_R [6] [] (fun _ => True) #[false, false, false, false, false, false, false] (by kernel_rfl) rfl rfl ?_
            refine wpR_rd 0 #[true, false, false, false, false, false, false] rfl onlyN_noPanic (by kernel_rfl) (fun K hK => ?_); (go_simp; try go_bits); refine hK _ ?_; clear hK K
            refine wpR_rd 1 #[true, true, false, false, false, false, false] rfl onlyN_noPanic (by kernel_rfl) (fun K hK => ?_); (go_simp; try go_bits); refine hK _ ?_; clear hK K
            refine wpR_rd 2 #[true, true, true, false, false, false, false] rfl onlyN_noPanic (by kernel_rfl) (fun K hK => ?_); (go_simp; try go_bits); refine hK _ ?_; clear hK K
            refine wpR_read (i := 3) #[true, true, true, true, false, false, false] rfl onlyN_noPanic (by kernel_rfl) (.inl ⟨rfl, exec_load rfl rfl rl⟩) ?_
            simp only [Act.put, List.setIfInBounds_toArray, List.set_cons_zero, List.set_cons_succ]
            refine wpR_rd 4 #[true, true, true, true, true, false, false] rfl onlyN_noPanic (by kernel_rfl) (fun K hK => ?_); (go_simp; try go_bits); refine hK _ ?_; clear hK K
            refine wpR_rd 5 #[true, true, true, true, true, true, false] rfl onlyN_noPanic (by kernel_rfl) (fun K hK => ?_); (go_simp; try go_bits); refine hK _ ?_; clear hK K
            refine wpR_eff #[true, true, true, true, true, true, true] (i := 6) rfl (by kernel_rfl) (fun K hK => ?_)
            refine Eq.mpr (if_pos (by rfl)) ?_; refine wp_store_run rfl rfl rfl rfl rst ?_; refine hK _ _ ?_; clear hK K
            refine wpR_done (by kernel_rfl) ?_ _
            simp only [OnlyN]
            go_wp2
            refine region_R [5] [] (fun _ => True) #[false, false, false, false, false, false] (by kernel_rfl) rfl rfl ?_
            refine wpR_rd 0 #[true, false, false, false, false, false] rfl onlyN_noPanic (by kernel_rfl) (fun K hK => ?_); (go_simp; try go_bits); refine hK _ ?_; clear hK K
            refine wpR_rd 1 #[true, true, false, false, false, false] rfl onlyN_noPanic (by kernel_rfl) (fun K hK => ?_); (go_simp; try go_bits); refine hK _ ?_; clear hK K
            refine wpR_rd 2 #[true, true, true, false, false, false] rfl onlyN_noPanic (by kernel_rfl) (fun K hK => ?_); (go_simp; try go_bits); refine hK _ ?_; clear hK K
            refine wpR_rd 3 #[true, true, true, true, false, false] rfl onlyN_noPanic (by kernel_rfl) (fun K hK => ?_); (go_simp; try go_bits); refine hK _ ?_; clear hK K
            refine wpR_read (i := 4) #[true, true, true, true, true, false] rfl onlyN_noPanic (by kernel_rfl) (.inl ⟨rfl, exec_load rfl rfl rl2⟩) ?_
            simp only [Act.put, List.setIfInBounds_toArray, List.set_cons_zero, List.set_cons_succ]
            refine wpR_eff #[true, true, true, true, true, true] (i := 5) rfl (by kernel_rfl) (fun K hK => ?_)
            go_simp
            refine hmx.mono ?_
            rintro e w10 ⟨rfl, h10⟩
            have H10 := Aside.mk h10.drop2
            clear hmx h10 H9 rl rl2 rst
            refine hK _ _ ?_; clear hK K
            refine wpR_done (by kernel_rfl) ?_ _
            simp only [OnlyN]
            go_wp2
            go_roundw
            case rel => exact ⟨k + 1, by omega, by push_cast; rfl, ⟨_, HGN.out, H10.out⟩⟩
            case measure => simp [intOf]; omega
          · obtain rfl : k = 3 := by omega
            obtain ⟨G, hG, hGS⟩ := HK.out
            have HN2 : Aside (∃ G, Grp l n G (g + 1) 0 ∧ Sat E wr (HP.pt bG (.cells (b8s G).toArray 89) * (HP.disk d B * q))) := ⟨G, grp_next hG hlt, hGS⟩
            clear hG hGS HK
            go_wp2
            go_roundw
            case rel => exact ⟨g + 1, by omega, by push_cast; rfl, HN2⟩
            case measure => simp [intOf]; omega
      · obtain rfl : g = n := by omega
        obtain ⟨G, hG, hGS⟩ := HG.out
        have HG := Aside.mk hG
        have HGS := Aside.mk hGS
        clear hG hGS
        have hnm := HQ.out.2.2.2.2.1
        have hfa : (name ++ dot0).size ≤ maxLen := by rw [(dot_size name).1]; exact hnm
        have hfb : (name ++ dot1).size ≤ maxLen := by rw [(dot_size name).2.1]; exact hnm
        have hfc : (name ++ dot2).size ≤ maxLen := by rw [(dot_size name).2.2.1]; exact hnm
        have hfd : (name ++ dotP).size ≤ maxLen := by rw [(dot_size name).2.2.2]; exact hnm
        have HF : Aside (fsS name l = [(name ++ dot0, paysS l g 0), (name ++ dot1, paysS l g 1), (name ++ dot2, paysS l g 2), (name ++ dotP, paysS l g 3)]) := ⟨by unfold fsS; rw [HQ.out.2.2.1, ← HN.out]⟩
        go_wp2_with fail
        refine (stripe_names E _ name _ hnm HGS.out).mono ?_
        rintro e w5 ⟨rfl, h5⟩
        obtain ⟨fa, hfae⟩ : ∃ fa, fa = name ++ dot0 := ⟨_, rfl⟩
        obtain ⟨fb, hfbe⟩ : ∃ fb, fb = name ++ dot1 := ⟨_, rfl⟩
        obtain ⟨fc, hfce⟩ : ∃ fc, fc = name ++ dot2 := ⟨_, rfl⟩
        obtain ⟨fd, hfde⟩ : ∃ fd, fd = name ++ dotP := ⟨_, rfl⟩
        rw [← hfae] at hfa HF ⊢
        rw [← hfbe] at hfb HF ⊢
        rw [← hfce] at hfc HF ⊢
        rw [← hfde] at hfd HF ⊢
        have H5 := Aside.mk h5
        clear h5 HGS hfae hfbe hfce hfde hnm hg hlt HN
        have i0 : ∀ w, (Instr.index 91 (.agg #[.string fa, .string fb, .string fc, .string fd]) (.int .i64 0)).run Tryd.prog w = .ok (.string fa) w := fun w => by kernel_rfl
        have i1 : ∀ w, (Instr.index 91 (.agg #[.string fa, .string fb, .string fc, .string fd]) (.int .i64 1)).run Tryd.prog w = .ok (.string fb) w := fun w => by kernel_rfl
        have i2 : ∀ w, (Instr.index 91 (.agg #[.string fa, .string fb, .string fc, .string fd]) (.int .i64 2)).run Tryd.prog w = .ok (.string fc) w := fun w => by kernel_rfl
        have i3 : ∀ w, (Instr.index 91 (.agg #[.string fa, .string fb, .string fc, .string fd]) (.int .i64 3)).run Tryd.prog w = .ok (.string fd) w := fun w => by kernel_rfl
        have hg31 : g ≤ 1000000000 := hn9
        go_wp2
        go_loopw [84] (fun v84 wr => ∃ (h : Nat) (B' : Dk), h ≤ 4 ∧ v84 = .int .i64 h ∧ Aside (wrT B' gen ((fsS name l).drop h) = wrT B gen (fsS name l)) ∧ Aside (Sat E wr (HP.pt bG (.cells (b8s G).toArray 89) * (HP.disk d B' * q)))) (fun i _ => 4 - (intOf i).toNat)
        case atStart => exact ⟨0, B, by omega, rfl, ⟨rfl⟩, H5⟩
        case round =>
          clear H5
          obtain ⟨h, B', hh, rfl, HA, HX⟩ := hrel
          by_cases hlt : h < 4
          · obtain ⟨f, hf, hff, hix⟩ : ∃ f : ByteArray, f.size ≤ maxLen ∧ (fsS name l).drop h = (f, paysS l g h) :: (fsS name l).drop (h + 1) ∧ ∀ w, (Instr.index 91 (.agg #[.string fa, .string fb, .string fc, .string fd]) (.int .i64 (h : Int))).run Tryd.prog w = .ok (.string f) w := by
              rw [HF.out]
              have hc : h = 0 ∨ h = 1 ∨ h = 2 ∨ h = 3 := by omega
              rcases hc with h0 | h0 | h0 | h0 <;> subst h0
              · exact ⟨fa, hfa, rfl, i0⟩
              · exact ⟨fb, hfb, rfl, i1⟩
              · exact ⟨fc, hfc, rfl, i2⟩
              · exact ⟨fd, hfd, rfl, i3⟩
            rw [hff] at HA
            clear hff
            have hlt2 : (h : Int) < 4 := by omega
            have HW : Aside (wrT B' gen ((f, paysS l g h) :: (fsS name l).drop (h + 1)) = if (wrF B' f gen 0 (paysS l g h)).1 = 0 then wrT (wrF B' f gen 0 (paysS l g h)).2 gen ((fsS name l).drop (h + 1)) else wrF B' f gen 0 (paysS l g h)) := ⟨rfl⟩
            go_wp2
            go_loopw [90] (fun v90 w2 => ∃ (i : Nat) (B2 : Dk), i ≤ g ∧ v90 = .int .i64 i ∧ Aside (wrF B2 f gen i ((paysS l g h).drop i) = wrF B' f gen 0 (paysS l g h)) ∧ Aside (Sat E w2 (HP.pt bG (.cells (b8s G).toArray 89) * (HP.disk d B2 * q)))) (fun i _ => g - (intOf i).toNat)
            case atStart => exact ⟨0, B', by omega, rfl, ⟨rfl⟩, HX⟩
            case round =>
              clear HX
              obtain ⟨i, B2, hi, rfl, HB, HTT⟩ := hrel
              by_cases hin : i < g
              · have hpk := paysS_drop l g h hin
                obtain ⟨z1, z2, z3⟩ := grp_pay HG.out hin hlt
                have HZ := Aside.mk (And.intro z1 (And.intro (payS_length l i h) (payS_bytes HQ.out.2.1 i h)))
                have hgl := HG.out.len
                have rl := run_loadAgg (P := Tryd.prog) agSlot (a := ⟨bG, i * 424 + h * 106, none⟩) (cs := b8s (sec G (4 * i + h))) (by rw [b8s_length]; exact z3) (Sat.ptCells (off := i * 424 + h * 106) (l := b8s (sec G (4 * i + h))) HTT.out (by
                  rw [b8s_length, z3, show i * 424 + h * 106 = 106 * (4 * i + h) by omega]
                  unfold b8s sec
                  rw [List.map_take, List.map_drop]))
                have hin2 : (i : Int) < g := by omega
                rw [hpk] at HB
                clear hpk z1
                generalize sec G (4 * i + h) = S at *
                obtain ⟨p, hp⟩ : ∃ p, p = payS l i h := ⟨_, rfl⟩
                rw [← hp] at HB HZ
                clear hp
                have HN2 : Aside (wrF B2 f gen i (p :: (paysS l g h).drop (i + 1)) = if ¬ FrameOk i gen p.length then (1, B2) else if (B2.write f i (extI f i gen p)).1 = 0 then wrF (B2.write f i (extI f i gen p)).2 f gen (i + 1) ((paysS l g h).drop (i + 1)) else B2.write f i (extI f i gen p)) := ⟨rfl⟩
                rw [HB.out] at HN2
                rw [if_neg (by
                  intro hn
                  exact hn ⟨by omega, by omega, by omega, hgen, HZ.out.2.1⟩)] at HN2
                have HS3 := Aside.mk (And.intro z3 z2)
                clear z2 z3 hgl
                go_wp2_with (first | (refine wpList_load_run rfl rfl rfl rl ?_))
                refine (stripe_payload E _ h S _ hlt HS3.out.1 HS3.out.2 HTT.out).mono ?_
                intro e w6 h6
                obtain ⟨Ap6, c6, m6, R6, rfl, hm6, hm106, hmc6, hcm6, hs6, hc6⟩ := h6
                rw [HZ.out.1] at hm6 hc6
                have H6 := Aside.mk (And.intro hs6 (And.intro hc6 hm6))
                clear hs6 hc6 hm6 rl HTT HS3
                go_wp2_with fail
                refine (ext_frame E _ f i gen Ap6 p m6 c6 _ hf (by omega) hgen H6.out.2.2 hm106 HZ.out.2.2 (fun w' h => ⟨(HQ.out.1 w' h.right.right.right).1, H6.out.2.1 w' _ h⟩) H6.out.1).mono ?_
                rintro e w7 ⟨gI, rfl, h7⟩
                have hIl : (extI f i gen p).length = 128 := extI_length HZ.out.2.1
                obtain ⟨I, hIe⟩ : ∃ I, I = extI f i gen p := ⟨_, rfl⟩
                rw [← hIe] at hIl h7 HN2
                clear hIe
                have H7 : Aside (Sat E w7 (HP.disk d B2 * (HP.pt gI (.cells (b8s I).toArray 152) * (HP.pt bG (.cells (b8s G).toArray 89) * q)))) := ⟨(h7.perm (by ac_rfl : _ = R6 * (HP.disk d B2 * (HP.pt gI (.cells (b8s I).toArray 152) * (HP.pt bG (.cells (b8s G).toArray 89) * q))))).right⟩
                have HIL := Aside.mk hIl
                clear h7 H6 hIl HZ hm106 hmc6 hcm6
                go_wp2_with fail
                refine (disk_write E _ d B2 f i (some ⟨gI, 0, none⟩) I 128 128 _ hf HIL.out (by unfold maxLen; omega) (fun w h => Sat.ptCells (off := 0) h (by rw [List.drop_zero, List.take_length])) H7.out).mono ?_
                rintro e w8 ⟨rfl, h8⟩
                have H8 : Aside (Sat E w8 (HP.pt bG (.cells (b8s G).toArray 89) * (HP.disk d (B2.write f (i : Int) I).2 * q))) := ⟨(h8.perm (by ac_rfl : _ = HP.pt gI (.cells (b8s I).toArray 152) * (HP.pt bG (.cells (b8s G).toArray 89) * (HP.disk d (B2.write f (i : Int) I).2 * q)))).right⟩
                clear h8 H7
                by_cases h0 : (B2.write f (i : Int) I).1 = 0
                · rw [h0]
                  rw [if_pos h0] at HN2
                  generalize (B2.write f (i : Int) I).2 = B3 at *
                  have HX2 : Aside (wrF B3 f gen (i + 1) ((paysS l g h).drop (i + 1)) = wrF B' f gen 0 (paysS l g h)) := ⟨by rw [HN2.out]⟩
                  clear HN2 h0 HB
                  go_wp2
                  go_roundw
                  case rel => exact ⟨i + 1, B3, by omega, by push_cast; rfl, HX2, H8⟩
                  case measure => simp [intOf]; omega
                · rw [if_neg h0] at HN2
                  have HX2 : Aside (storeS A name gen l = B2.write f (i : Int) I) := ⟨by rw [HS.out, ← HA.out, HW.out, HN2.out, if_neg h0]⟩
                  obtain ⟨ec, hec⟩ : ∃ ec, ec = (B2.write f (i : Int) I).1 := ⟨_, rfl⟩
                  rw [← hec] at h0 ⊢
                  have HE := Aside.mk hec
                  clear HN2 hec HB HA HW
                  go_wp2
                  go_ret
                  rw [HX2.out, ← HE.out]
                  exact ⟨rfl, H8.out.right⟩
              · obtain rfl : i = g := by omega
                have hpl : (paysS l i h).drop i = [] := List.drop_eq_nil_of_le (by unfold paysS; rw [List.length_map, List.length_range]; exact Nat.le_refl _)
                rw [hpl] at HB
                clear hpl
                have HB2 : Aside (wrF B' f gen 0 (paysS l i h) = B2.sync f) := ⟨by rw [← HB.out]; rfl⟩
                rw [HB2.out] at HW
                clear HB hix i0 i1 i2 i3
                go_wp2_with fail
                refine (disk_sync E (HP.pt bG (.cells (b8s G).toArray 89) * q) d B2 f _ hf (HTT.out.perm (by ac_rfl))).mono ?_
                rintro e w7 ⟨rfl, h7⟩
                have H7 : Aside (Sat E w7 (HP.pt bG (.cells (b8s G).toArray 89) * (HP.disk d (B2.sync f).2 * q))) := ⟨h7.perm (by ac_rfl)⟩
                clear h7 HTT
                by_cases h0 : (B2.sync f).1 = 0
                · rw [h0]
                  rw [if_pos h0] at HW
                  have HX2 : Aside (wrT (B2.sync f).2 gen ((fsS name l).drop (h + 1)) = wrT B gen (fsS name l)) := ⟨by rw [← HA.out, HW.out]⟩
                  generalize (B2.sync f).2 = B3 at *
                  clear HW HA HB2 h0
                  go_wp2
                  go_roundw
                  case rel => exact ⟨h + 1, B3, by omega, by push_cast; rfl, HX2, H7⟩
                  case measure => simp [intOf]; omega
                · rw [if_neg h0] at HW
                  have HX2 : Aside (storeS A name gen l = B2.sync f) := ⟨by rw [HS.out, ← HA.out, HW.out]⟩
                  obtain ⟨ec, hec⟩ : ∃ ec, ec = (B2.sync f).1 := ⟨_, rfl⟩
                  rw [← hec] at h0 ⊢
                  have HE := Aside.mk hec
                  clear hec HB2 HA HW
                  go_wp2
                  go_ret
                  rw [HX2.out, ← HE.out]
                  exact ⟨rfl, H7.out.right⟩
          · obtain rfl : h = 4 := by omega
            rw [HF.out] at HA
            have HX2 : Aside (storeS A name gen l = (0, B')) := ⟨by rw [HS.out, HF.out, ← HA.out]; rfl⟩
            clear HA i0 i1 i2 i3
            go_wp2
            go_ret
            rw [HX2.out]
            exact ⟨rfl, HX.out.right⟩
  · rw [if_neg h0] at HS
    obtain ⟨ec, hec⟩ : ∃ ec, ec = (dropS A name).1 := ⟨_, rfl⟩
    rw [← hec] at h0 ⊢
    have HE := Aside.mk hec
    clear hec
    go_wp2
    go_ret
    rw [HS.out, HE.out]
    exact ⟨rfl, H2.out⟩
end Go.Proofs.YtjekeggkckgjfaaDoor
/- StripeNeeds: the walk. -/
namespace Go.Proofs.YtjekeggkckgjfaaDoor
open Go.RowKit HP
set_option linter.unusedSimpArgs false
set_option linter.unusedVariables false

theorem stripe_xp : (⟨#[120, 46, 112]⟩ : ByteArray) = stripeF exS 3 := rfl
set_option maxHeartbeats 2000000 in
set_option maxRecDepth 100000 in
theorem stripeNeeds_ok (E : Env) (q : HP) (A0 : Option Addr) (l0 : List Int) (n0 c0 : Nat) (size : Int) (w : World) (hz : wf64 size) (e0 : l0.length = n0) (k0 : n0 ≤ c0) (m0 : c0 ≤ maxLen) (b0 : Bytes l0)
    (hq : ∀ w, Sat E w q → Quarter w ∧ Cells w A0 (b8s l0)) (hw : Sat E w q) :
    Calls Tryd.prog 3 #[.slice A0 n0 c0, .int .i64 size] w fun e w' => e = .returned (.bool true) ∧ Sat E w' q := by
  obtain ⟨m, hm⟩ : ∃ m, m = min n0 1500 := ⟨_, rfl⟩
  have hn0 : (if 1500 < (n0 : Int) then 1500 else (n0 : Int)) = (m : Int) := by split <;> omega
  have hn1 : (min (n0 : Int) 1500).toNat = m := by omega
  obtain ⟨t, ht⟩ : ∃ t, t = l0.take m := ⟨_, rfl⟩
  have htl : t.length = m := by rw [ht, List.length_take]; omega
  have htb : Bytes t := by rw [ht]; exact fun x hx => b0 x (List.mem_of_mem_take hx)
  have htc : ∀ w, Sat E w q → Quarter w ∧ Cells w A0 (b8s t) := fun w h => ⟨(hq w h).1, by
    have := (hq w h).2.take m
    rw [ht]
    unfold b8s at this ⊢
    rw [List.map_take]; exact this⟩
  have hgb := groupsN_bounds m
  have hm5 : m ≤ 1500 := by omega
  obtain ⟨G, hG⟩ : ∃ G, G = groupsN m := ⟨_, rfl⟩
  rw [← hG] at hgb
  have hG5 : 1 ≤ G ∧ G ≤ 5 := by
    refine ⟨hgb.1, ?_⟩
    rw [hG]
    unfold groupsN
    split <;> omega
  obtain ⟨B, hB⟩ := storeS_new (room := 40) (x := exS) (gen := 1) (l := t) fourX (by omega) (by rw [htl, ← hG]; omega) (by rw [htl, ← hG]; omega)
  have HEQ := Aside.mk hB.eq
  have hfr := hB.free
  rw [htl, ← hG] at hfr
  have HFR := Aside.mk hfr
  have hat : (B.at (⟨#[120, 46, 112]⟩ : ByteArray)).length = G := by
    rw [stripe_xp, hB.held 3 (by omega), List.length_map, newCels_length, paysS_length, htl, hG]
  have HAT := Aside.mk (And.intro hat hG)
  obtain ⟨K2, hK2⟩ : ∃ K2, K2 = groupsI size := ⟨_, rfl⟩
  have HQ := Aside.mk (And.intro htc (And.intro hw (And.intro hz (And.intro m0 (And.intro htl (And.intro htb hK2))))))
  have hx3 : exS.size + 2 ≤ maxLen := by show 3 ≤ maxLen; unfold maxLen; omega
  have HX3 := Aside.mk hx3
  have hmc : m ≤ c0 := by omega
  have hmn : m ≤ n0 := by omega
  clear hq hw hz m0 htc htl htb hB hfr hat hK2 hm ht b0 e0 hgb hG hx3
  go_enter Tryd.func3, Tryd.ntmps3
  go_wp2_with fail
  refine (disk_new_ok E q 40 _ ⟨by omega, by omega⟩ HQ.out.2.1).mono ?_
  rintro e w1 ⟨d, rfl, h1⟩
  have H1 := Aside.mk h1
  clear h1
  go_wp2_with fail
  refine (stripe_store E q d (Dk.new 40) exS 1 A0 t m c0 _ HX3.out (by omega) HQ.out.2.2.2.2.1 hmc HQ.out.2.2.2.1 (by omega) HQ.out.2.2.2.2.2.1 HQ.out.1 H1.out).mono ?_
  rintro e w2 ⟨rfl, h2⟩
  rw [HEQ.out] at h2 ⊢
  have H2 := Aside.mk h2
  clear h2 H1
  go_wp2_with fail
  refine (disk_free_ok E q d B _ H2.out).mono ?_
  rintro e w3 ⟨rfl, h3⟩
  rw [HFR.out]
  have H3 := Aside.mk h3
  clear h3 H2
  go_wp2_with fail
  refine (stripe_need m _ (by unfold wf64; omega)).mono ?_
  rintro e w4 ⟨rfl, hw4⟩
  subst w4
  rw [groupsI_nat, ← HAT.out.2]
  go_wp2_with fail
  refine (stripe_need size _ HQ.out.2.2.1).mono ?_
  rintro e w4 ⟨rfl, hw4⟩
  subst w4
  go_wp2_with fail
  refine (ref_need6 size _ HQ.out.2.2.1).mono ?_
  rintro e w4 ⟨rfl, hw4⟩
  subst w4
  rw [← HQ.out.2.2.2.2.2.2]
  go_wp2_with fail
  refine (stripe_groups size _ HQ.out.2.2.1).mono ?_
  rintro e w4 ⟨rfl, hw4⟩
  subst w4
  go_wp2_with fail
  refine (ref_groups size _ HQ.out.2.2.1).mono ?_
  rintro e w4 ⟨rfl, hw4⟩
  subst w4
  rw [← HQ.out.2.2.2.2.2.2]
  go_wp2_with fail
  refine (disk_extents E q d B (⟨#[120, 46, 112]⟩ : ByteArray) _ (by show 3 ≤ maxLen; unfold maxLen; omega) H3.out).mono ?_
  rintro e w4 ⟨rfl, hw4⟩
  subst w4
  rw [HAT.out.1]
  go_wp2_with fail
  refine (stripe_groups m _ (by unfold wf64; omega)).mono ?_
  rintro e w4 ⟨rfl, hw4⟩
  subst w4
  rw [groupsI_nat, ← HAT.out.2]
  go_wp2
  go_ret
  exact ⟨rfl, H3.out.right⟩
end Go.Proofs.YtjekeggkckgjfaaDoor
