/- Texts of one claim, one behind the other: PairLo, LoadP, DiskRo, LostP, Awake5, NobodyW5, Laid, Tied. -/
import Derived.Test.YtnllmkpbnccllaaDoorPn5
import Derived.Lib.SlBytesConst
import Derived.LaidMore
import Derived.Stop.Joined
/- pair.Load. -/
namespace Go.Proofs.YtnllmkpbnccllaaDoor
open Go.RowKit HP
set_option linter.unusedSimpArgs false
set_option linter.unusedVariables false

def extN (A : Dk) (name : ByteArray) : Nat := (halvesL name).foldl (fun m f => max m (A.at f).length) 0
def loadG (A : Dk) (name : ByteArray) (gen : Int) : Nat → Nat → List Int → Option (List Int)
  | _, 0, out => some out
  | i, c + 1, out => if 0 ≤ (getP A name i).1 ∧ (getP A name i).1 = gen then loadG A name gen (i + 1) c (out ++ (getP A name i).2) else none
def loadP (A : Dk) (name : ByteArray) (gen : Int) : Option (List Int) := if extN A name = 0 then none else loadG A name gen 0 (extN A name) []
theorem getF_small {A : Dk} {i : Int} {st : Int × List Int} {f : ByteArray} (h : st.2.length ≤ 106) : (getF A i st f).2.length ≤ 106 := by
  unfold getF
  cases A.cel f i with
  | none => exact h
  | some c =>
    dsimp only
    cases ho : openI c.read f i with
    | none => exact h
    | some x =>
      dsimp only
      split
      · exact h
      · exact (openI_gen (p := x.1) (g := x.2) ho).2
theorem getP_small (A : Dk) (name : ByteArray) (i : Int) : (getP A name i).2.length ≤ 106 := by
  unfold getP halvesL
  exact getF_small (getF_small (Nat.zero_le _))
theorem extN_small {A : Dk} (h : ∀ s, (A.at s).length ≤ 100000) (name : ByteArray) : extN A name ≤ 100000 := by
  unfold extN halvesL
  simp only [List.foldl_cons, List.foldl_nil]
  have := h (name ++ dotA)
  have := h (name ++ dotB)
  omega
def loadEnd (E : Env) (q : HP) (r : Option (List Int)) (e : Ending) (w' : World) : Prop :=
  match r with
  | none => e = .returned (.tuple #[.slice none 0 0, .int .i64 50]) ∧ Sat E w' q
  | some l => ∃ v, e = .returned (.tuple #[v, .int .i64 0]) ∧ Sat E w' (HP.row 5 1 v l.length (b8s l) * q)
set_option maxHeartbeats 2000000 in
set_option maxRecDepth 100000 in
theorem pair_load (E : Env) (q : HP) (d : Nat) (A : Dk) (name : ByteArray) (gen : Int) (w : World) (hname : name.size + 2 ≤ maxLen) (hby : ∀ f ∈ halvesL name, ∀ i c, A.cel f i = some c → Bytes c.read)
    (hq : ∀ w, Sat E w q → Quarter w) (hw : Sat E w (HP.disk d A * q)) :
    Calls Tryd.prog 11 #[.pointer (some ⟨d, 0, none⟩), .string name, .int .i64 gen] w (loadEnd E (HP.disk d A * q) (loadP A name gen)) := by
  have hfa : (name ++ dotA).size ≤ maxLen := by rw [dotA_size]; exact hname
  have hfb : (name ++ dotB).size ≤ maxLen := by rw [dotB_size]; exact hname
  have HF : Aside (halvesL name = [name ++ dotA, name ++ dotB]) := ⟨rfl⟩
  have HSm : Aside (∀ s, (A.at s).length ≤ 100000) := ⟨fun s => at_small hw.disk_fine s⟩
  have HQ := Aside.mk (And.intro hq (And.intro hby hw))
  clear hq hby hw
  go_enter Tryd.func11, Tryd.ntmps11
  go_wp2_with fail
  refine (pair_none E q d A _ HQ.out.2.2).mono ?_
  rintro e w1 ⟨rfl, k1⟩
  have K1 := Aside.mk k1
  clear k1
  go_wp2_with fail
  refine (pair_halves E _ name _ hname K1.out).mono ?_
  rintro e w2 ⟨rfl, k2⟩
  obtain ⟨fa, hfae⟩ : ∃ fa, fa = name ++ dotA := ⟨_, rfl⟩
  obtain ⟨fb, hfbe⟩ : ∃ fb, fb = name ++ dotB := ⟨_, rfl⟩
  rw [← hfae] at hfa HF ⊢
  rw [← hfbe] at hfb HF ⊢
  clear hfae hfbe
  have K2 := Aside.mk k2
  clear k2 K1
  have i0 : ∀ w, (Instr.index 82 (.agg #[.string fa, .string fb]) (.int .i64 0)).run Tryd.prog w = .ok (.string fa) w := fun w => by kernel_rfl
  have i1 : ∀ w, (Instr.index 82 (.agg #[.string fa, .string fb]) (.int .i64 1)).run Tryd.prog w = .ok (.string fb) w := fun w => by kernel_rfl
  go_wp2
  go_loopw [8, 20] (fun v8 v20 wr => ∃ h m : Nat, h ≤ 2 ∧ v20 = .int .i64 h ∧ v8 = .int .i64 m ∧ m ≤ 100000 ∧ Aside (((halvesL name).drop h).foldl (fun m f => max m (A.at f).length) m = extN A name) ∧ Aside (Sat E wr (HP.disk d A * q))) (fun _ i _ => 2 - (intOf i).toNat)
  case atStart => exact ⟨0, 0, by omega, rfl, rfl, by omega, ⟨rfl⟩, K2⟩
  case round =>
    obtain ⟨h, m, hh, rfl, rfl, hm, HM, HS⟩ := hrel
    by_cases hlt : h < 2
    · obtain ⟨f, hf, hff, hix⟩ : ∃ f : ByteArray, f.size ≤ maxLen ∧ (halvesL name).drop h = f :: (halvesL name).drop (h + 1) ∧ ∀ w, (Instr.index 82 (.agg #[.string fa, .string fb]) (.int .i64 (h : Int))).run Tryd.prog w = .ok (.string f) w := by
        rw [HF.out]
        rcases Nat.lt_or_ge h 1 with h0 | h0
        · obtain rfl : h = 0 := by omega
          exact ⟨fa, hfa, rfl, i0⟩
        · obtain rfl : h = 1 := by omega
          exact ⟨fb, hfb, rfl, i1⟩
      rw [hff, List.foldl_cons] at HM
      have hlt2 : (h : Int) < 2 := by omega
      clear hff i0 i1
      go_wp2_with fail
      refine (disk_extents E q d A f _ hf HS.out).mono ?_
      rintro e w3 ⟨rfl, rfl⟩
      have hx := HSm.out f
      obtain ⟨x, hxe⟩ : ∃ x, x = (A.at f).length := ⟨_, rfl⟩
      rw [← hxe] at hx HM ⊢
      clear hxe
      have hmx : (if (x : Int) > (m : Int) then (x : Int) else m) = (max m x : Nat) := by split <;> omega
      obtain ⟨y, hy⟩ : ∃ y, y = max m x := ⟨_, rfl⟩
      have hy2 : y ≤ 100000 := by omega
      rw [← hy] at hmx HM
      have hmx2 : (if m < x then (x : Int) else (m : Int)) = (y : Int) := by split <;> omega
      clear hy
      go_wp2
      go_roundw
      case rel => exact ⟨h + 1, y, by omega, by push_cast; rfl, rfl, hy2, HM, HS⟩
      case measure => simp [intOf]; omega
    · have hh2 : h = 2 := by omega
      subst hh2
      rw [HF.out] at HM
      have HM2 : Aside (extN A name = m) := ⟨HM.out.symm⟩
      clear HM i0 i1
      have HS0 := Aside.mk (HS.out.row_nil 5 1 none)
      go_wp2
      go_loopw [11, 30] (fun v11 v30 wr => ∃ (i : Nat) (out : List Int), i ≤ m ∧ v30 = .int .i64 i ∧ out.length ≤ 106 * i ∧ Aside (loadG A name gen i (m - i) out = loadG A name gen 0 m []) ∧ Aside (Sat E wr (HP.row 5 1 v11 out.length (b8s out) * (HP.disk d A * q)))) (fun _ i _ => m - (intOf i).toNat)
      case atStart => exact ⟨0, [], by omega, rfl, by simp, ⟨rfl⟩, HS0⟩
      case round =>
        obtain ⟨i, out, hi, rfl, ho, HG, HT⟩ := hrel
        by_cases hlt : i < m
        · have hlt2 : (i : Int) < m := by omega
          go_wp2_with fail
          refine (pair_get E (HP.row 5 1 u11 out.length (b8s out) * q) d A name i _ hname (fun f hf c hc => HQ.out.2.1 f hf i c hc) (fun w h => HQ.out.1 _ h.right) HT.out.s2).mono ?_
          rintro e w4 ⟨v, rfl, h4⟩
          have hsm := getP_small A name i
          obtain ⟨j, hj⟩ : ∃ j, m - i = j + 1 := ⟨m - i - 1, by omega⟩
          have HL : Aside (loadG A name gen i (j + 1) out = if 0 ≤ (getP A name i).1 ∧ (getP A name i).1 = gen then loadG A name gen (i + 1) j (out ++ (getP A name i).2) else none) := ⟨rfl⟩
          rw [hj, HL.out] at HG
          clear HL
          have HP0 : Aside (loadP A name gen = loadG A name gen 0 m []) := ⟨by unfold loadP; rw [HM2.out, if_neg (by omega)]⟩
          obtain ⟨⟨best, p⟩, hst⟩ : ∃ st, st = getP A name i := ⟨_, rfl⟩
          rw [← hst] at h4 HG hsm ⊢
          clear hst
          dsimp only at h4 HG hsm
          unfold getEnd
          dsimp only
          by_cases hneg : best < 0
          · rw [if_pos hneg]
            have HX : Aside (loadP A name gen = none) := ⟨by rw [HP0.out, ← HG.out, if_neg (by omega)]⟩
            have H4 := Aside.mk (h4.right.perm (by ac_rfl) : Sat E w4 (HP.row 5 1 u11 out.length (b8s out) * (HP.disk d A * q)))
            clear h4 HG
            go_wp2
            go_ret2
            rw [HX.out]
            exact ⟨rfl, H4.out.right⟩
          · rw [if_neg hneg]
            obtain ⟨Av, cv, rfl, -, -⟩ := h4.row_slice
            by_cases heq : best = gen
            · subst heq
              rw [if_pos ⟨by omega, rfl⟩] at HG
              have h5 : Sat E w4 (HP.row 5 1 u11 out.length (b8s out) * (HP.row 5 1 (.slice Av p.length cv) p.length (b8s p) * (HP.disk d A * q))) := h4.perm (by ac_rfl)
              have H5 := Aside.mk (And.intro h5 (And.intro h4.row_cells (show (b8s p).length = p.length * 1 by rw [b8s_length, Nat.mul_one])))
              clear h4 h5
              obtain ⟨pl, hpl⟩ : ∃ pl, pl = p.length := ⟨_, rfl⟩
              obtain ⟨ol, hol⟩ : ∃ ol, ol = out.length := ⟨_, rfl⟩
              rw [← hpl, ← hol] at H5
              rw [← hpl] at hsm ⊢
              rw [← hol] at ho
              have HO := Aside.mk (And.intro hpl hol)
              clear hpl hol
              go_wp2_with (at_builtin; refine wpList_append_row slB8 rfl rfl (by rfl) (by rfl) H5.out.1 H5.out.2.1 H5.out.2.2 (b8s_one _) (by unfold maxLen; omega) (by omega) (fun v5 w5 hw5 => ?_); obtain ⟨A5, c5, rfl, -, -⟩ := hw5.row_slice; have HW5 := Aside.mk hw5; clear hw5)
              have H6 : Aside (Sat E w5 (HP.row 5 1 (.slice A5 (ol + pl) c5) (out ++ p).length (b8s (out ++ p)) * (HP.disk d A * q))) := ⟨by
                rw [List.length_append, b8s_append, ← HO.out.1, ← HO.out.2]
                exact HW5.out.drop2⟩
              have HG2 : Aside (loadG A name best (i + 1) (m - (i + 1)) (out ++ p) = loadG A name best 0 m []) := ⟨by rw [← HG.out, show m - (i + 1) = j by omega]⟩
              clear HG HW5 H5
              go_wp2
              refine ⟨?_, ?measure⟩
              (repeat apply Exists.intro)
              refine ⟨?rel, rfl⟩
              case rel => exact ⟨i + 1, out ++ p, by omega, by push_cast; rfl, by rw [List.length_append, ← HO.out.1, ← HO.out.2]; omega, HG2, H6⟩
              case measure => simp [intOf]; omega
            · rw [if_neg (fun h => heq h.2)] at HG
              have HX : Aside (loadP A name gen = none) := ⟨by rw [HP0.out, ← HG.out]⟩
              have H4 := Aside.mk (h4.right.perm (by ac_rfl) : Sat E w4 (HP.row 5 1 u11 out.length (b8s out) * (HP.disk d A * q)))
              clear h4 HG
              go_wp2
              go_ret2
              rw [HX.out]
              exact ⟨rfl, H4.out.right⟩
        · have hie : i = m := by omega
          subst hie
          rw [Nat.sub_self] at HG
          have HG2 : Aside (loadG A name gen 0 i [] = some out) := ⟨HG.out.symm⟩
          clear HG
          by_cases hz : i = 0
          · subst hz
            have HX : Aside (loadP A name gen = none) := ⟨by unfold loadP; rw [if_pos HM2.out]⟩
            clear HG2
            go_wp2
            go_ret2
            rw [HX.out]
            exact ⟨rfl, HT.out.right⟩
          · have HX : Aside (loadP A name gen = some out) := ⟨by unfold loadP; rw [HM2.out, if_neg hz]; exact HG2.out⟩
            have hb0 : ((i : Int) == 0) = false := by rw [beq_eq_false_iff_ne]; omega
            have hb1 : ¬ (i : Int) = 0 := by omega
            clear HG2
            go_wp2
            go_ret2
            rw [HX.out]
            exact ⟨_, rfl, HT.out⟩
end Go.Proofs.YtnllmkpbnccllaaDoor
/- What is stored on a new disk is read. -/
namespace Go.Proofs.YtnllmkpbnccllaaDoor
open Go.RowKit HP
set_option linter.unusedSimpArgs false
set_option linter.unusedVariables false

def newCels (f : ByteArray) (gen : Nat) : Nat → List (List Int) → List Cel
  | _, [] => []
  | i, p :: ps => Cel.zero.wrote (extI f i gen p) :: newCels f gen (i + 1) ps
theorem wrF_cels {f : ByteArray} {gen : Nat} (hn : namedB f = true) (hg : (gen : Int) ≤ 4611686018427387904) : ∀ (ps : List (List Int)) (A : Dk) (i : Nat), Sorted A.files → A.fuse = -1 → (A.at f).length = i → (ps.length : Int) ≤ A.free → (∀ p ∈ ps, p.length ≤ 106) → i + ps.length ≤ 2147483647 → 0 < i + ps.length →
    (wrF A f gen i ps).2.at f = (A.at f ++ newCels f gen i ps).map Cel.syncd
  | [], A, i, hs, he, hi, _, _, _, h0 => by
    have hl := at_some (A := A) (f := f) (by rw [hi]; simpa using h0)
    show (A.sync f).2.at f = _
    rw [sync_some hl (goes_ever he), burnt_ever he, at_set hs, if_pos rfl]
    simp [newCels]
  | p :: ps, A, i, hs, he, hi, hf, hp, hm, _ => by
    have hpl := hp p (List.mem_cons_self ..)
    simp only [List.length_cons] at hf hm
    have hfo : FrameOk (i : Int) gen p.length := ⟨by omega, by omega, by omega, hg, hpl⟩
    have hw : A.write f (i : Int) (extI f i gen p) = (0, A.set f (A.at f ++ [Cel.zero.wrote (extI f i gen p)])) := by
      have := write_end (A := A) (f := f) (I := extI f i gen p) hn (extI_length hpl) he (by omega)
      rw [hi] at this
      exact this
    have h1 := set_fresh (A := A) (f := f) (l := A.at f ++ [Cel.zero.wrote (extI f i gen p)]) (m := 1) hs he (by rw [List.length_append]; rfl)
    have hlen : ((A.set f (A.at f ++ [Cel.zero.wrote (extI f i gen p)])).at f).length = i + 1 := by rw [at_set hs, if_pos rfl, List.length_append, hi]; rfl
    have hB := wrF_cels hn hg ps (A.set f (A.at f ++ [Cel.zero.wrote (extI f i gen p)])) (i + 1) h1.sorted h1.fuse hlen (by
      have := h1.size
      show (ps.length : Int) ≤ (A.set f _).room - _
      unfold Dk.free at hf
      have h2 := h1.room
      omega) (fun x hx => hp x (List.mem_cons_of_mem _ hx)) (by omega) (by omega)
    unfold wrF
    rw [if_neg (by simpa using hfo), hw, if_pos rfl, hB, at_set hs, if_pos rfl]
    simp [newCels]
theorem newCels_get {f : ByteArray} {gen : Nat} : ∀ (ps : List (List Int)) (i k : Nat) (p : List Int), ps[k]? = some p → (newCels f gen i ps)[k]? = some (Cel.zero.wrote (extI f (i + k) gen p))
  | [], i, k, p, h => by simp at h
  | q :: ps, i, 0, p, h => by
    simp only [List.getElem?_cons_zero, Option.some.injEq] at h
    subst h
    rfl
  | q :: ps, i, k + 1, p, h => by
    have := newCels_get (f := f) (gen := gen) ps (i + 1) k p (by simpa using h)
    rw [show i + 1 + k = i + (k + 1) by omega] at this
    simpa [newCels] using this
theorem newCels_length {f : ByteArray} {gen : Nat} : ∀ (ps : List (List Int)) (i : Nat), (newCels f gen i ps).length = ps.length
  | [], _ => rfl
  | _ :: ps, i => by
    show (newCels f gen (i + 1) ps).length + 1 = ps.length + 1
    rw [newCels_length ps]
/-- A disk on which both halves hold these pieces, of one generation. -/
structure Holds (B : Dk) (x : ByteArray) (gen : Nat) (ps : List (List Int)) : Prop where
  a : B.at (x ++ dotA) = (newCels (x ++ dotA) gen 0 ps).map Cel.syncd
  b : B.at (x ++ dotB) = (newCels (x ++ dotB) gen 0 ps).map Cel.syncd
theorem held_cel {B : Dk} {f : ByteArray} {gen k : Nat} {ps : List (List Int)} {p : List Int} (h : B.at f = (newCels f gen 0 ps).map Cel.syncd) (hp : ps[k]? = some p) : B.cel f (k : Int) = some (stl (extI f k gen p)) := by
  unfold Dk.cel
  rw [if_pos (by omega), Int.toNat_natCast, h, List.getElem?_map, newCels_get ps 0 k p hp, Nat.zero_add]
  rfl
theorem held_get {B : Dk} {x : ByteArray} {gen k : Nat} {ps : List (List Int)} {p : List Int} (h : Holds B x gen ps) (hg : gen ≤ 4611686018427387904) (hk : k ≤ 2147483647) (hp : ps[k]? = some p) (hl : p.length ≤ 106) : getP B x (k : Int) = ((gen : Int), p) := by
  have oa := openI_extI (f := x ++ dotA) (i := k) hk hg hl
  have ob := openI_extI (f := x ++ dotB) (i := k) hk hg hl
  unfold getP halvesL
  simp only [List.foldl_cons, List.foldl_nil]
  rw [show getF B k (-1, []) (x ++ dotA) = ((gen : Int), p) by simp only [getF, held_cel h.a hp, stl, oa]; rw [if_neg (by show ¬ (gen : Int) ≤ -1; omega)]]
  simp only [getF, held_cel h.b hp, stl, ob]
  rw [if_pos (Int.le_refl _)]
theorem held_loadG {B : Dk} {x : ByteArray} {gen : Nat} {ps : List (List Int)} (h : Holds B x gen ps) (hg : gen ≤ 4611686018427387904) (hm : ps.length ≤ 2147483647) (hl : ∀ p ∈ ps, p.length ≤ 106) : ∀ (c i : Nat) (out : List Int), i + c = ps.length → loadG B x gen i c out = some (out ++ (ps.drop i).flatten)
  | 0, i, out, hi => by
    rw [List.drop_of_length_le (by omega)]
    simp [loadG]
  | c + 1, i, out, hi => by
    have hil : i < ps.length := by omega
    have hg2 := held_get (k := i) h hg (by omega) (List.getElem?_eq_getElem hil) (hl _ (List.getElem_mem hil))
    unfold loadG
    rw [hg2, if_pos ⟨by show (0 : Int) ≤ gen; omega, rfl⟩, held_loadG h hg hm hl c (i + 1) _ (by omega)]
    have e : (ps.drop i).flatten = ps[i] ++ (ps.drop (i + 1)).flatten := by rw [List.drop_eq_getElem_cons hil, List.flatten_cons]
    rw [e, List.append_assoc]
theorem held_load {B : Dk} {x : ByteArray} {gen : Nat} {ps : List (List Int)} (h : Holds B x gen ps) (hg : gen ≤ 4611686018427387904) (h0 : ps ≠ []) (hm : ps.length ≤ 2147483647) (hl : ∀ p ∈ ps, p.length ≤ 106) : loadP B x gen = some ps.flatten := by
  have hn : extN B x = ps.length := by
    unfold extN halvesL
    simp only [List.foldl_cons, List.foldl_nil, h.a, h.b, List.length_map, newCels_length]
    omega
  unfold loadP
  rw [hn, if_neg (fun h => h0 (List.eq_nil_of_length_eq_zero h)), held_loadG h hg hm hl _ 0 [] (by omega)]
  simp
theorem pieces_flat (l : List Int) : ∀ (m k : Nat), 106 * (k + m) ≥ l.length → ((List.range' k m).map (piece l)).flatten = l.drop (106 * k)
  | 0, k, h => by
    rw [List.drop_of_length_le (by simpa using h)]
    rfl
  | m + 1, k, h => by
    have ih := pieces_flat l m (k + 1) (by omega)
    rw [List.range'_succ, List.map_cons, List.flatten_cons, ih]
    unfold piece
    rw [show 106 * (k + 1) = 106 * k + 106 by omega, ← List.drop_drop, List.take_append_drop]
theorem piecesI_flat (l : List Int) : (piecesI l).flatten = l := by
  unfold piecesI
  by_cases h : l.length = 0
  · rw [if_pos h, List.eq_nil_of_length_eq_zero h]; rfl
  · rw [if_neg h, List.range_eq_range', pieces_flat l _ 0 (by unfold chunkN; omega)]
    rfl
/-- A text stored on a new disk: what both halves hold. -/
theorem store_held {room : Int} {l : List Int} {gen : Nat} (hg : (gen : Int) ≤ 4611686018427387904) (hr : needI l.length ≤ room) (hl : (piecesI l).length ≤ 2147483647) : Holds (storeP (Dk.new room) exS gen l).2 exS gen (piecesI l) ∧ Sorted (storeP (Dk.new room) exS gen l).2.files := by
  obtain ⟨p1, p2, -, p4⟩ := pieces_count (l := l)
  have hd : dropP (Dk.new room) exS = (0, Dk.new room) := by simp [dropP, dropL, halvesL, Dk.at, Dk.new, lk_nil]
  have hs0 : Sorted (Dk.new room).files := List.Pairwise.nil
  have hz : sizeF (Dk.new room).files = 0 := rfl
  have c1 : ((piecesI l).length : Int) ≤ (Dk.new room).free := by show _ ≤ room - (0 : Nat); omega
  obtain ⟨B1, h1, f1, -⟩ := wrF_fresh (f := exS ++ dotA) twoEx.na hg (piecesI l) (Dk.new room) 0 hs0 rfl rfl c1 p4 (by omega) (by omega)
  have g1 := wrF_cels (f := exS ++ dotA) twoEx.na hg (piecesI l) (Dk.new room) 0 hs0 rfl rfl c1 p4 (by omega) (by omega)
  have hr1 : B1.room = room := f1.room
  have c2 : ((piecesI l).length : Int) ≤ B1.free := by
    have := f1.size
    unfold Dk.free
    omega
  have hb0 : (B1.at (exS ++ dotB)).length = 0 := by rw [f1.others _ twoEx.ne]; rfl
  obtain ⟨B2, h2, f2, -⟩ := wrF_fresh (f := exS ++ dotB) twoEx.nb hg (piecesI l) B1 0 f1.sorted f1.fuse hb0 c2 p4 (by omega) (by omega)
  have g2 := wrF_cels (f := exS ++ dotB) twoEx.nb hg (piecesI l) B1 0 f1.sorted f1.fuse hb0 c2 p4 (by omega) (by omega)
  have hst : storeP (Dk.new room) exS gen l = (0, B2) := by
    unfold storeP
    rw [hd, if_pos rfl]
    unfold wrP halvesL
    simp only [wrL, h1, h2, if_pos rfl]
    rfl
  rw [h1] at g1
  rw [h2] at g2
  rw [hst]
  refine ⟨⟨?_, ?_⟩, f2.sorted⟩
  · rw [f2.others _ (Ne.symm twoEx.ne)]
    exact g1
  · rw [List.eq_nil_of_length_eq_zero hb0, List.nil_append] at g2
    exact g2
theorem store_holds {room : Int} {l : List Int} {gen : Nat} (hg : (gen : Int) ≤ 4611686018427387904) (hr : needI l.length ≤ room) (hl : (piecesI l).length ≤ 2147483647) : Holds (storeP (Dk.new room) exS gen l).2 exS gen (piecesI l) := (store_held hg hr hl).1
theorem store_load {room : Int} {l : List Int} {gen : Nat} (hg : (gen : Int) ≤ 4611686018427387904) (hr : needI l.length ≤ room) (hl : (piecesI l).length ≤ 2147483647) : loadP (storeP (Dk.new room) exS gen l).2 exS gen = some l := by
  obtain ⟨p1, p2, -, p4⟩ := pieces_count (l := l)
  rw [held_load (store_holds hg hr hl) (by omega) (fun h => by rw [h] at p2; simp at p2) hl p4, piecesI_flat]
end Go.Proofs.YtnllmkpbnccllaaDoor
/- (*Disk).Rot. -/
namespace Go.Proofs.YtnllmkpbnccllaaDoor
open Go.RowKit HP
set_option linter.unusedSimpArgs false
set_option linter.unusedVariables false

/-- Two bytes xored. -/
def xorB (a b : Int) : Int := bits .xor .u8 a b
def xorAt (l : List Int) (k : Nat) (m : Int) : List Int := l.set k (xorB (l.getD k 0) m)
theorem xorAt_length (l : List Int) (k : Nat) (m : Int) : (xorAt l k m).length = l.length := List.length_set
def Cel.rotd (c : Cel) (k : Nat) (m : Int) : Cel := if c.waits then { c with durable := xorAt c.durable k m } else { c with read := xorAt c.read k m, durable := xorAt c.durable k m }
theorem Cel.rotd_fine {c : Cel} (h : c.Fine) (k : Nat) (m : Int) : (c.rotd k m).Fine := by
  unfold Cel.rotd
  split
  · exact ⟨h.1, (xorAt_length _ _ _).trans h.2.1, h.2.2.1, h.2.2.2⟩
  · exact ⟨(xorAt_length _ _ _).trans h.1, (xorAt_length _ _ _).trans h.2.1, h.2.2.1, h.2.2.2⟩
def Dk.rot (A : Dk) (s : ByteArray) (i at_ m : Int) : Int × Dk :=
  match A.cel s i with
  | none => (30, A)
  | some c => if at_ < 0 ∨ 128 ≤ at_ then (1, A) else (0, A.set s ((A.at s).set i.toNat (c.rotd at_.toNat m)))
theorem celAt_some {fs : List Fil} {s : ByteArray} {i : Int} {x : Nat × Cel} (h : celAt fs s i = some x) : ∃ (j : Nat) (f : Fil) (k : Nat), fs[j]? = some f ∧ f.name = s ∧ i = (k : Int) ∧ f.cels[k]? = some x := by
  unfold celAt at h
  cases hf : fs.find? (fun f => decide (f.name = s)) with
  | none => rw [hf] at h; cases h
  | some f =>
    rw [hf] at h
    dsimp only at h
    split at h
    · rename_i hi
      obtain ⟨j, hj⟩ := List.getElem?_of_mem (List.mem_of_find?_eq_some hf)
      have hn := List.find?_some hf
      simp only [decide_eq_true_eq] at hn
      exact ⟨j, f, i.toNat, hj, hn, by omega, h⟩
    · cases h
section
variable {E : Env} {q : HP} {w : World} {b : Nat} {c : Cel}
theorem cel_byte_read (h : Sat E w (HP.cel b c * q)) (hf : c.Fine) {k : Nat} (hk : k < 128) : w.cell? ⟨b, k, none⟩ = some (.int .u8 (c.read.getD k 0)) := by
  have := (cel_read h hf).some_ k (.int .u8 (c.read.getD k 0)) (by
    unfold b8s
    rw [List.getElem?_map, List.getElem?_eq_getElem (by rw [hf.1]; exact hk)]
    simp [List.getD, hf.1, hk])
  rw [addr_add, Nat.zero_add] at this
  exact this
theorem cel_byte_durable (h : Sat E w (HP.cel b c * q)) (hf : c.Fine) {k : Nat} (hk : k < 128) : w.cell? ⟨b, 128 + k, none⟩ = some (.int .u8 (c.durable.getD k 0)) := by
  have := (cel_durable h hf).some_ k (.int .u8 (c.durable.getD k 0)) (by
    unfold b8s
    rw [List.getElem?_map, List.getElem?_eq_getElem (by rw [hf.2.1]; exact hk)]
    simp [List.getD, hf.2.1, hk])
  rw [addr_add] at this
  exact this
theorem b8s_set (l : List Int) (k : Nat) (x : Int) : (b8s l).set k (.int .u8 x) = b8s (l.set k x) := by unfold b8s; rw [List.map_set]
theorem cel_set_read (h : Sat E w (HP.cel b c * q)) (hf : c.Fine) {k : Nat} (hk : k < 128) (x : Int) : Sat E (w.setCell ⟨b, k, none⟩ (.int .u8 x)) (HP.cel b { c with read := c.read.set k x } * q) := by
  have h1 : Sat E w (HP.pt b (.cells c.vals.toArray 100) * q) := h
  have h2 := h1.set (i := k) (.int .u8 x)
  have e : c.vals.toArray.setIfInBounds k (.int .u8 x) = ({ c with read := c.read.set k x } : Cel).vals.toArray := by
    rw [List.setIfInBounds_toArray]
    congr 1
    unfold Cel.vals
    rw [List.set_append_left _ _ (by rw [b8s_length, hf.1]; exact hk), b8s_set]
  rw [e] at h2
  exact h2
theorem cel_set_durable (h : Sat E w (HP.cel b c * q)) (hf : c.Fine) {k : Nat} (hk : k < 128) (x : Int) : Sat E (w.setCell ⟨b, 128 + k, none⟩ (.int .u8 x)) (HP.cel b { c with durable := c.durable.set k x } * q) := by
  have h1 : Sat E w (HP.pt b (.cells c.vals.toArray 100) * q) := h
  have h2 := h1.set (i := 128 + k) (.int .u8 x)
  have e : c.vals.toArray.setIfInBounds (128 + k) (.int .u8 x) = ({ c with durable := c.durable.set k x } : Cel).vals.toArray := by
    rw [List.setIfInBounds_toArray]
    congr 1
    unfold Cel.vals
    rw [List.set_append_right _ _ (by rw [b8s_length, hf.1]; omega), b8s_length, hf.1, Nat.add_sub_cancel_left, List.set_append_left _ _ (by rw [b8s_length, hf.2.1]; exact hk), b8s_set]
  rw [e] at h2
  exact h2
end
set_option maxHeartbeats 2000000 in
set_option maxRecDepth 100000 in
theorem disk_rot (E : Env) (q : HP) (d : Nat) (A : Dk) (name : ByteArray) (i at_ mask : Int) (w : World) (hn : name.size ≤ maxLen) (hw : Sat E w (HP.disk d A * q)) :
    Calls Tryd.prog 20 #[.pointer (some ⟨d, 0, none⟩), .string name, .int .i64 i, .int .i64 at_, .int .u8 mask] w fun e w' => e = .returned (.int .i64 (A.rot name i at_ mask).1) ∧ Sat E w' (HP.disk d (A.rot name i at_ mask).2 * q) := by
  obtain ⟨m, es, clock, fs, hv, hd⟩ := hw.disk_open
  have HF : Aside (A.rot name i at_ mask = match A.cel name i with
    | none => (30, A)
    | some c => if at_ < 0 ∨ 128 ≤ at_ then (1, A) else (0, A.set name ((A.at name).set i.toNat (c.rotd at_.toNat mask)))) := ⟨rfl⟩
  rw [← celAt_view hv] at HF
  clear hw
  go_enter Tryd.func20, Tryd.ntmps20
  go_wp2_with fail
  refine (disk_none E _ d _ _ m w (dk_parts hd)).mono ?_
  rintro e w1 ⟨rfl, rfl⟩
  go_wp2_with fail
  refine (disk_at E q d _ _ m es clock fs name i _ hn hv.map hd).mono ?_
  rintro e w2 ⟨rfl, rfl⟩
  rw [cellAt_eq]
  cases hx : celAt fs name i with
  | none =>
    rw [hx] at HF
    have HT : Aside (A.rot name i at_ mask = (30, A) ∧ Sat E w2 (HP.disk d A * q)) := ⟨HF.out, Sat.disk_close hv hd⟩
    clear HF hx hd hv
    go_wp2
    go_ret
    rw [HT.out.1]
    exact ⟨rfl, HT.out.2⟩
  | some x =>
    rw [hx] at HF
    obtain ⟨j, f, k, hj, hname, hik, hk⟩ := celAt_some hx
    have hxf : x.2.Fine := hv.cel_fine (List.mem_of_getElem? hj) (List.mem_of_getElem? hk)
    obtain ⟨r, hr1, -, hr3⟩ := take_cel hv hd hj hk
    have hat : A.at name = f.cs := by
      unfold Dk.at
      rw [← hv.same, ← hname, lkF_at hv.nodup hj]; rfl
    have HD : Aside (Sat E w2 (HP.disk d A * q)) := ⟨Sat.disk_close hv hd⟩
    have HR : Aside (∀ w' c', c'.Fine → Sat E w' (HP.cel x.1 c' * r) → Sat E w' (HP.disk d (A.set name ((A.at name).set i.toNat c')) * q)) := ⟨fun w' c' hc h => by
      have := hr3 w' c' hc h
      rw [hat, hik, Int.toNat_natCast, ← hname]
      exact this⟩
    obtain ⟨bk, c⟩ := x
    dsimp only [Option.map_some] at *
    clear hx hd hv hr3 hj hk hname hik hat
    by_cases h0 : at_ < 0
    · have HT : Aside (A.rot name i at_ mask = (1, A)) := ⟨by rw [HF.out]; simp [h0]⟩
      clear HF hr1 hxf HR
      go_wp2
      go_ret
      rw [HT.out]
      exact ⟨rfl, HD.out⟩
    · by_cases h8 : 128 ≤ at_
      · have HT : Aside (A.rot name i at_ mask = (1, A)) := ⟨by rw [HF.out]; simp [h8]⟩
        clear HF hr1 hxf HR
        go_wp2
        go_ret
        rw [HT.out]
        exact ⟨rfl, HD.out⟩
      · obtain ⟨n, rfl⟩ := Int.eq_ofNat_of_zero_le (Int.not_lt.1 h0)
        have hn8 : n < 128 := by omega
        have HT : Aside (A.rot name i n mask = (0, A.set name ((A.at name).set i.toNat (c.rotd n mask)))) := ⟨by rw [HF.out]; simp only [if_neg (show ¬ ((n : Int) < 0 ∨ 128 ≤ (n : Int)) by omega), Int.toNat_natCast]⟩
        have cw := cel_waits hr1 hxf
        have hn1 : (n : Int) < 128 := by omega
        have hn0 : (0 : Int) ≤ (n : Int) := by omega
        cases hcw : c.waits with
        | true =>
          rw [hcw] at cw
          have g2 := cel_byte_durable hr1 hxf hn8
          have f2 := cel_thaw hr1 (128 + n)
          have h9 := cel_set_durable (hr1.drew) hxf hn8 (xorB (c.durable.getD n 0) mask)
          have HH := Aside.mk (HR.out _ _ (Cel.rotd_fine hxf n mask) (by
            have e : c.rotd n mask = { c with durable := c.durable.set n (xorB (c.durable.getD n 0) mask) } := by unfold Cel.rotd xorAt; rw [if_pos hcw]
            rw [e]; exact h9))
          clear HF HR HD hr1 hxf hcw h9
          generalize c.durable.getD n 0 = y at *
          unfold xorB at HH
          go_wp2
          refine region_R [11] [] (fun _ => True) #[false, false, false, false, false, false, false, false, false, false, false, false] (by kernel_rfl) rfl rfl ?_
          refine wpR_rd 0 #[true, false, false, false, false, false, false, false, false, false, false, false] rfl onlyN_noPanic (by kernel_rfl) (fun K hK => ?_); (go_simp; try go_bits); refine hK _ ?_; clear hK K
          refine wpR_rd 1 #[true, true, false, false, false, false, false, false, false, false, false, false] rfl onlyN_noPanic (by kernel_rfl) (fun K hK => ?_); (go_simp; try go_bits); refine hK _ ?_; clear hK K
          refine wpR_rd 2 #[true, true, true, false, false, false, false, false, false, false, false, false] rfl onlyN_noPanic (by kernel_rfl) (fun K hK => ?_); (go_simp; try go_bits); refine hK _ ?_; clear hK K
          refine wpR_rd 3 #[true, true, true, true, false, false, false, false, false, false, false, false] rfl onlyN_noPanic (by kernel_rfl) (fun K hK => ?_); (go_simp; try go_bits); refine hK _ ?_; clear hK K
          refine wpR_rd 4 #[true, true, true, true, true, false, false, false, false, false, false, false] rfl onlyN_noPanic (by kernel_rfl) (fun K hK => ?_); (go_simp; try go_bits); refine hK _ ?_; clear hK K
          refine wpR_rd 5 #[true, true, true, true, true, true, false, false, false, false, false, false] rfl onlyN_noPanic (by kernel_rfl) (fun K hK => ?_); (go_simp; try go_bits); refine hK _ ?_; clear hK K
          refine wpR_rd 6 #[true, true, true, true, true, true, true, false, false, false, false, false] rfl onlyN_noPanic (by kernel_rfl) (fun K hK => ?_); (go_simp; try go_bits); refine hK _ ?_; clear hK K
          refine wpR_rd 7 #[true, true, true, true, true, true, true, true, false, false, false, false] rfl onlyN_noPanic (by kernel_rfl) (fun K hK => ?_); (go_simp; try go_bits); refine hK _ ?_; clear hK K
          refine wpR_rd 8 #[true, true, true, true, true, true, true, true, true, false, false, false] rfl onlyN_noPanic (by kernel_rfl) (fun K hK => ?_); (go_simp; try go_bits); refine hK _ ?_; clear hK K
          refine wpR_rd 9 #[true, true, true, true, true, true, true, true, true, true, false, false] rfl onlyN_noPanic (by kernel_rfl) (fun K hK => ?_); (go_simp; try go_bits); refine hK _ ?_; clear hK K
          refine wpR_rd 10 #[true, true, true, true, true, true, true, true, true, true, true, false] rfl onlyN_noPanic (by kernel_rfl) (fun K hK => ?_); (go_simp; try go_bits); refine hK _ ?_; clear hK K
          refine wpR_eff #[true, true, true, true, true, true, true, true, true, true, true, true] (i := 11) rfl (by kernel_rfl) (fun K hK => ?_)
          go_simp; refine hK _ _ ?_; clear hK K
          refine wpR_done (by kernel_rfl) ?_ _
          simp only [OnlyN]
          go_wp2
          go_ret
          rw [HT.out]
          exact ⟨rfl, HH.out⟩
        | false =>
          rw [hcw] at cw
          have g2 := cel_byte_read hr1 hxf hn8
          have f2 := cel_thaw hr1 n
          have h9 := (cel_set_read hr1 hxf hn8 (xorB (c.read.getD n 0) mask)).drew
          have hxf1 : ({ c with read := c.read.set n (xorB (c.read.getD n 0) mask) } : Cel).Fine := ⟨List.length_set.trans hxf.1, hxf.2.1, hxf.2.2.1, hxf.2.2.2⟩
          have HX := Aside.mk (And.intro h9 hxf1)
          have HR2 : Aside (∀ w', Sat E w' (HP.cel bk { c with read := c.read.set n (xorB (c.read.getD n 0) mask), durable := c.durable.set n (xorB (c.durable.getD n 0) mask) } * r) → Sat E w' (HP.disk d (A.set name ((A.at name).set i.toNat (c.rotd n mask))) * q)) := ⟨fun w' h => HR.out w' _ (Cel.rotd_fine hxf n mask) (by
            have e : c.rotd n mask = { c with read := c.read.set n (xorB (c.read.getD n 0) mask), durable := c.durable.set n (xorB (c.durable.getD n 0) mask) } := by unfold Cel.rotd xorAt; rw [if_neg (by rw [hcw]; decide)]
            rw [e]; exact h)⟩
          clear HF HR HD hr1 hxf hcw h9 hxf1
          obtain ⟨y, hy⟩ : ∃ y, y = c.read.getD n 0 := ⟨_, rfl⟩
          simp only [← hy] at g2 HX HR2
          clear hy
          unfold xorB at HX
          go_wp2
          refine region_R [11] [] (fun _ => True) #[false, false, false, false, false, false, false, false, false, false, false, false] (by kernel_rfl) rfl rfl ?_
          refine wpR_rd 0 #[true, false, false, false, false, false, false, false, false, false, false, false] rfl onlyN_noPanic (by kernel_rfl) (fun K hK => ?_); (go_simp; try go_bits); refine hK _ ?_; clear hK K
          refine wpR_rd 1 #[true, true, false, false, false, false, false, false, false, false, false, false] rfl onlyN_noPanic (by kernel_rfl) (fun K hK => ?_); (go_simp; try go_bits); refine hK _ ?_; clear hK K
          refine wpR_rd 2 #[true, true, true, false, false, false, false, false, false, false, false, false] rfl onlyN_noPanic (by kernel_rfl) (fun K hK => ?_); (go_simp; try go_bits); refine hK _ ?_; clear hK K
          refine wpR_rd 3 #[true, true, true, true, false, false, false, false, false, false, false, false] rfl onlyN_noPanic (by kernel_rfl) (fun K hK => ?_); (go_simp; try go_bits); refine hK _ ?_; clear hK K
          refine wpR_rd 4 #[true, true, true, true, true, false, false, false, false, false, false, false] rfl onlyN_noPanic (by kernel_rfl) (fun K hK => ?_); (go_simp; try go_bits); refine hK _ ?_; clear hK K
          refine wpR_rd 5 #[true, true, true, true, true, true, false, false, false, false, false, false] rfl onlyN_noPanic (by kernel_rfl) (fun K hK => ?_); (go_simp; try go_bits); refine hK _ ?_; clear hK K
          refine wpR_rd 6 #[true, true, true, true, true, true, true, false, false, false, false, false] rfl onlyN_noPanic (by kernel_rfl) (fun K hK => ?_); (go_simp; try go_bits); refine hK _ ?_; clear hK K
          refine wpR_rd 7 #[true, true, true, true, true, true, true, true, false, false, false, false] rfl onlyN_noPanic (by kernel_rfl) (fun K hK => ?_); (go_simp; try go_bits); refine hK _ ?_; clear hK K
          refine wpR_rd 8 #[true, true, true, true, true, true, true, true, true, false, false, false] rfl onlyN_noPanic (by kernel_rfl) (fun K hK => ?_); (go_simp; try go_bits); refine hK _ ?_; clear hK K
          refine wpR_rd 9 #[true, true, true, true, true, true, true, true, true, true, false, false] rfl onlyN_noPanic (by kernel_rfl) (fun K hK => ?_); (go_simp; try go_bits); refine hK _ ?_; clear hK K
          refine wpR_rd 10 #[true, true, true, true, true, true, true, true, true, true, true, false] rfl onlyN_noPanic (by kernel_rfl) (fun K hK => ?_); (go_simp; try go_bits); refine hK _ ?_; clear hK K
          refine wpR_eff #[true, true, true, true, true, true, true, true, true, true, true, true] (i := 11) rfl (by kernel_rfl) (fun K hK => ?_)
          go_simp; refine hK _ _ ?_; clear hK K
          refine wpR_done (by kernel_rfl) ?_ _
          simp only [OnlyN]
          obtain ⟨h9, hxf1⟩ := HX.out
          obtain ⟨w5, hw5⟩ : ∃ w5, w5 = (w2.setCell ⟨bk, n, none⟩ (.int .u8 (bits .xor .u8 y mask))).drew := ⟨_, rfl⟩
          rw [← hw5] at h9 ⊢
          clear hw5 HX cw g2 f2 
          have g2 := cel_byte_durable h9 hxf1 hn8
          have f2 := cel_thaw h9 (128 + n)
          have h10 := cel_set_durable (h9.drew) hxf1 hn8 (xorB (c.durable.getD n 0) mask)
          have HH := Aside.mk (HR2.out _ h10)
          clear HR2 h9 hxf1 h10
          dsimp only at g2
          generalize c.durable.getD n 0 = y at *
          unfold xorB at HH
          go_wp2
          refine region_R [11] [] (fun _ => True) #[false, false, false, false, false, false, false, false, false, false, false, false] (by kernel_rfl) rfl rfl ?_
          refine wpR_rd 0 #[true, false, false, false, false, false, false, false, false, false, false, false] rfl onlyN_noPanic (by kernel_rfl) (fun K hK => ?_); (go_simp; try go_bits); refine hK _ ?_; clear hK K
          refine wpR_rd 1 #[true, true, false, false, false, false, false, false, false, false, false, false] rfl onlyN_noPanic (by kernel_rfl) (fun K hK => ?_); (go_simp; try go_bits); refine hK _ ?_; clear hK K
          refine wpR_rd 2 #[true, true, true, false, false, false, false, false, false, false, false, false] rfl onlyN_noPanic (by kernel_rfl) (fun K hK => ?_); (go_simp; try go_bits); refine hK _ ?_; clear hK K
          refine wpR_rd 3 #[true, true, true, true, false, false, false, false, false, false, false, false] rfl onlyN_noPanic (by kernel_rfl) (fun K hK => ?_); (go_simp; try go_bits); refine hK _ ?_; clear hK K
          refine wpR_rd 4 #[true, true, true, true, true, false, false, false, false, false, false, false] rfl onlyN_noPanic (by kernel_rfl) (fun K hK => ?_); (go_simp; try go_bits); refine hK _ ?_; clear hK K
          refine wpR_rd 5 #[true, true, true, true, true, true, false, false, false, false, false, false] rfl onlyN_noPanic (by kernel_rfl) (fun K hK => ?_); (go_simp; try go_bits); refine hK _ ?_; clear hK K
          refine wpR_rd 6 #[true, true, true, true, true, true, true, false, false, false, false, false] rfl onlyN_noPanic (by kernel_rfl) (fun K hK => ?_); (go_simp; try go_bits); refine hK _ ?_; clear hK K
          refine wpR_rd 7 #[true, true, true, true, true, true, true, true, false, false, false, false] rfl onlyN_noPanic (by kernel_rfl) (fun K hK => ?_); (go_simp; try go_bits); refine hK _ ?_; clear hK K
          refine wpR_rd 8 #[true, true, true, true, true, true, true, true, true, false, false, false] rfl onlyN_noPanic (by kernel_rfl) (fun K hK => ?_); (go_simp; try go_bits); refine hK _ ?_; clear hK K
          refine wpR_rd 9 #[true, true, true, true, true, true, true, true, true, true, false, false] rfl onlyN_noPanic (by kernel_rfl) (fun K hK => ?_); (go_simp; try go_bits); refine hK _ ?_; clear hK K
          refine wpR_rd 10 #[true, true, true, true, true, true, true, true, true, true, true, false] rfl onlyN_noPanic (by kernel_rfl) (fun K hK => ?_); (go_simp; try go_bits); refine hK _ ?_; clear hK K
          refine wpR_eff #[true, true, true, true, true, true, true, true, true, true, true, true] (i := 11) rfl (by kernel_rfl) (fun K hK => ?_)
          go_simp; refine hK _ _ ?_; clear hK K
          refine wpR_done (by kernel_rfl) ?_ _
          simp only [OnlyN]
          go_wp2
          go_ret
          rw [HT.out]
          exact ⟨rfl, HH.out⟩
end Go.Proofs.YtnllmkpbnccllaaDoor
/- PairLost, the plain part: an extent of which one byte is turned is not right. -/
namespace Go.Proofs.YtnllmkpbnccllaaDoor
open Go.RowKit HP
set_option linter.unusedSimpArgs false
set_option linter.unusedVariables false

theorem xor_cancel {x y z : Nat} (h : x ^^^ z = y ^^^ z) : x = y := by
  have h := congrArg (· ^^^ z) h
  simpa only [Nat.xor_assoc, Nat.xor_self, Nat.xor_zero] using h
theorem quarterN_top : ∀ i : Nat, i < 4 → quarterN i / 1073741824 = i
  | 0, _ => rfl
  | 1, _ => rfl
  | 2, _ => rfl
  | 3, _ => rfl
  | n + 4, h => by omega
theorem crcQ_top {r : Nat} (h : r < 4294967296) : crcQ r / 1073741824 = r % 4 := by
  have h1 : crcQ r >>> 30 = r % 4 := by
    unfold crcQ
    rw [Nat.shiftRight_xor_distrib, Nat.shiftRight_eq_div_pow, Nat.shiftRight_eq_div_pow]
    rw [show r / 4 / 2 ^ 30 = 0 by omega, Nat.zero_xor]
    exact quarterN_top _ (by omega)
  rwa [Nat.shiftRight_eq_div_pow] at h1
theorem crcQ_inj {a b : Nat} (ha : a < 4294967296) (hb : b < 4294967296) (h : crcQ a = crcQ b) : a = b := by
  have h1 := crcQ_top ha
  have h2 := crcQ_top hb
  rw [h, h2] at h1
  unfold crcQ at h
  rw [← h1] at h
  have := xor_cancel h
  omega
theorem crcI_inj {a b : Nat} (ha : a < 4294967296) (hb : b < 4294967296) : ∀ k, crcI k a = crcI k b → a = b
  | 0, h => h
  | k + 1, h => crcI_inj ha hb k (crcQ_inj (crcI_lt ha k) (crcI_lt hb k) h)
theorem crcB_inj {r s x y : Nat} (hr : r < 4294967296) (hs : s < 4294967296) (hx : x < 256) (hy : y < 256) (h : crcB r x = crcB s y) : r ^^^ x = s ^^^ y := crcI_inj (xor_lt32 hr (by omega)) (xor_lt32 hs (by omega)) 4 h
theorem crcL_inj : ∀ {l : List Int}, Bytes l → ∀ {r s : Nat}, r < 4294967296 → s < 4294967296 → crcL r l = crcL s l → r = s
  | [], _, r, s, _, _, h => h
  | x :: l, hl, r, s, hr, hs, h => by
    have hx := hl x (List.mem_cons_self ..)
    have h1 := crcL_inj (fun y hy => hl y (List.mem_cons_of_mem _ hy)) (crcB_lt hr (by omega)) (crcB_lt hs (by omega)) h
    exact xor_cancel (crcB_inj hr hs (by omega) (by omega) h1)
theorem crcL_set : ∀ {l : List Int}, Bytes l → ∀ {r k : Nat} {y : Int}, r < 4294967296 → k < l.length → 0 ≤ y → y ≤ 255 → crcL r (l.set k y) = crcL r l → y = l.getD k 0
  | [], _, r, k, y, _, hk, _, _, _ => by simp at hk
  | x :: l, hl, r, 0, y, hr, hk, h0, h1, h => by
    have hx := hl x (List.mem_cons_self ..)
    have h2 := crcL_inj (fun y hy => hl y (List.mem_cons_of_mem _ hy)) (crcB_lt (x := y.toNat) hr (by omega)) (crcB_lt (x := x.toNat) hr (by omega)) h
    have h3 := crcB_inj hr hr (by omega) (by omega) h2
    rw [Nat.xor_comm r, Nat.xor_comm r] at h3
    have h4 := xor_cancel h3
    show y = x
    omega
  | x :: l, hl, r, k + 1, y, hr, hk, h0, h1, h => by
    have hx := hl x (List.mem_cons_self ..)
    have := crcL_set (fun y hy => hl y (List.mem_cons_of_mem _ hy)) (k := k) (y := y) (crcB_lt (x := x.toNat) hr (by omega)) (by simpa using hk) h0 h1 h
    simpa using this
theorem crcSum_set {l : List Int} (hl : Bytes l) {k : Nat} {y : Int} (hk : k < l.length) (h0 : 0 ≤ y) (h1 : y ≤ 255) (h : crcSum (l.set k y) = crcSum l) : y = l.getD k 0 := by
  unfold crcSum crcMore at h
  rw [Nat.xor_comm 4294967295 (crcL _ _), Nat.xor_comm 4294967295 (crcL _ _)] at h
  exact crcL_set hl (by decide) hk h0 h1 (xor_cancel h)
/-- The last four bytes are the sum of all ahead of them. -/
def SumOk (b : List Int) : Prop := b.length = 128 ∧ b.drop 124 = putI (crcSum (b.take 124)) 4
theorem extI_sumOk {f : ByteArray} {i g : Nat} {p : List Int} (h : p.length ≤ 106) : SumOk (extI f i g p) := by
  refine ⟨extI_length h, ?_⟩
  unfold extI
  rw [List.drop_left' (extH_length h), List.take_left' (extH_length h)]
theorem openI_sumOk {b : List Int} {f : ByteArray} {i : Int} {x : List Int × Nat} (h : openI b f i = some x) : SumOk b := by
  obtain ⟨p, g⟩ := x
  have hl := (openI_gen h).2
  unfold openI at h
  split at h
  · cases h
  · split at h
    · cases h
    · split at h
      · cases h
      · rename_i h1 h2 h3
        simp only [Option.some.injEq, Prod.mk.injEq] at h
        obtain ⟨h4, h5⟩ := h
        rw [h4, h5] at h3
        rw [← Decidable.of_not_not h3]
        exact extI_sumOk hl
theorem sumOk_set {o : List Int} (ho : SumOk o) (hb : Bytes o) {k : Nat} {y : Int} (hk : k < 128) (h0 : 0 ≤ y) (h1 : y ≤ 255) (hne : y ≠ o.getD k 0) : ¬ SumOk (o.set k y) := by
  rintro ⟨-, h⟩
  obtain ⟨hl, hs⟩ := ho
  have bt : Bytes (o.take 124) := fun x hx => hb x (List.mem_of_mem_take hx)
  by_cases hk2 : k < 124
  · have e1 : (o.set k y).drop 124 = o.drop 124 := by
      apply List.ext_getElem?
      intro j
      rw [List.getElem?_drop, List.getElem?_drop, List.getElem?_set_ne (by omega)]
    have e2 : (o.set k y).take 124 = (o.take 124).set k y := by rw [List.take_set]
    rw [e1, e2, hs] at h
    have h2 := congrArg getN h
    have l1 : Bytes ((o.take 124).set k y) := fun x hx => by
      rcases List.mem_or_eq_of_mem_set hx with hx | rfl
      · exact bt x hx
      · omega
    rw [getN_putI 4 _ (crcSum_lt bt), getN_putI 4 _ (crcSum_lt l1)] at h2
    have := crcSum_set bt (k := k) (y := y) (by rw [List.length_take]; omega) h0 h1 h2.symm
    apply hne
    rw [this]
    simp only [List.getD, List.getElem?_take, if_pos hk2]
  · have e2 : (o.set k y).take 124 = o.take 124 := by
      apply List.ext_getElem?
      intro j
      rw [List.getElem?_take, List.getElem?_take]
      split
      · rw [List.getElem?_set_ne (by omega)]
      · rfl
    rw [e2, ← hs] at h
    have h2 := congrArg (fun l => l[k - 124]?) h
    simp only [List.getElem?_drop] at h2
    rw [show 124 + (k - 124) = k by omega, List.getElem?_set_self (by omega)] at h2
    apply hne
    simp [List.getD, ← h2]
theorem xorB_byte {a m : Int} (h0 : 0 ≤ a) (h1 : a ≤ 255) (h2 : 0 ≤ m) (h3 : m ≤ 255) : 0 ≤ xorB a m ∧ xorB a m ≤ 255 := by
  unfold xorB
  rw [u8_xor a m h0 (by omega) h2 (by omega)]
  have := Nat.xor_lt_two_pow (n := 8) (x := a.toNat) (y := m.toNat) (by omega) (by omega)
  omega
theorem xorB_ne {a m : Int} (h0 : 0 ≤ a) (h1 : a ≤ 255) (h2 : 0 < m) (h3 : m ≤ 255) : xorB a m ≠ a := by
  unfold xorB
  rw [u8_xor a m h0 (by omega) (by omega) (by omega)]
  intro h
  have h4 : a.toNat ^^^ m.toNat = a.toNat := by omega
  have h5 : m.toNat ^^^ a.toNat = 0 ^^^ a.toNat := by rw [Nat.xor_comm, h4, Nat.zero_xor]
  have := xor_cancel h5
  omega
theorem getD_byte {l : List Int} (h : Bytes l) (k : Nat) : 0 ≤ l.getD k 0 ∧ l.getD k 0 ≤ 255 := by
  unfold List.getD
  cases hk : l[k]? with
  | none => simp
  | some x => exact h x (List.mem_of_getElem? hk)
theorem xorAt_bytes {l : List Int} (h : Bytes l) {k : Nat} {m : Int} (h2 : 0 ≤ m) (h3 : m ≤ 255) : Bytes (xorAt l k m) := fun x hx => by
  rcases List.mem_or_eq_of_mem_set hx with hx | rfl
  · exact h x hx
  · exact xorB_byte (getD_byte h k).1 (getD_byte h k).2 h2 h3
theorem openI_xorAt {f e : ByteArray} {i g : Nat} {j : Int} {p : List Int} (hp : p.length ≤ 106) (bp : Bytes p) {k : Nat} {m : Int} (hk : k < 128) (h2 : 0 < m) (h3 : m ≤ 255) : openI (xorAt (extI f i g p) k m) e j = none := by
  have hb := extI_bytes (name := f) (index := i) (gen := g) hp bp
  have hd := getD_byte hb k
  have hx := xorB_byte hd.1 hd.2 (by omega : 0 ≤ m) h3
  cases h : openI (xorAt (extI f i g p) k m) e j with
  | none => rfl
  | some x => exact absurd (openI_sumOk h) (sumOk_set (extI_sumOk hp) hb hk hx.1 hx.2 (xorB_ne hd.1 hd.2 h2 h3))
theorem held_bytes {B : Dk} {x : ByteArray} {gen : Nat} {ps : List (List Int)} (h : Holds B x gen ps) (hl : ∀ p ∈ ps, p.length ≤ 106) (hb : ∀ p ∈ ps, Bytes p) : ∀ f ∈ halvesL x, ∀ i c, B.cel f i = some c → Bytes c.read := by
  have key : ∀ f, B.at f = (newCels f gen 0 ps).map Cel.syncd → ∀ i c, B.cel f i = some c → Bytes c.read := by
    intro f hf i c hc
    have hc2 := hc
    unfold Dk.cel at hc
    split at hc
    · rename_i h0
      rw [hf, List.getElem?_map] at hc
      have hlt : i.toNat < ps.length := by
        refine Nat.lt_of_not_le fun hn => ?_
        rw [List.getElem?_eq_none (by rw [newCels_length]; omega)] at hc
        cases hc
      have hg := held_cel (k := i.toNat) hf (List.getElem?_eq_getElem hlt)
      rw [show ((i.toNat : Nat) : Int) = i by omega, hc2] at hg
      cases hg
      exact extI_bytes (hl _ (List.getElem_mem hlt)) (hb _ (List.getElem_mem hlt))
    · cases hc
  intro f hf
  rcases List.mem_cons.1 hf with rfl | hf
  · exact key _ h.a
  · rcases List.mem_cons.1 hf with rfl | hf
    · exact key _ h.b
    · cases hf
theorem loadG_lost {A : Dk} {x : ByteArray} {gen : Int} : ∀ (c i k : Nat) (out : List Int), i ≤ k → k < i + c → (getP A x k).1 < 0 → loadG A x gen i c out = none
  | 0, i, k, out, h1, h2, _ => by omega
  | c + 1, i, k, out, h1, h2, h => by
    unfold loadG
    by_cases hk : i = k
    · subst hk
      rw [if_neg (by omega)]
    · split
      · exact loadG_lost c (i + 1) k _ (by omega) (by omega) h
      · rfl
theorem loadP_lost {A : Dk} {x : ByteArray} {gen : Int} {k : Nat} (hk : k < extN A x) (h : (getP A x k).1 < 0) : loadP A x gen = none := by
  unfold loadP
  split
  · rfl
  · exact loadG_lost _ 0 k [] (by omega) (by omega) h
theorem rot_at {A : Dk} {f : ByteArray} {k t : Nat} {m : Int} {I : List Int} (hc : A.cel f k = some (stl I)) (ht : t < 128) : A.rot f k t m = (0, A.set f ((A.at f).set k ⟨xorAt I t m, xorAt I t m, I, I, false⟩)) := by
  unfold Dk.rot
  rw [hc]
  dsimp only
  rw [if_neg (by omega), Int.toNat_natCast, Int.toNat_natCast]
  rfl
theorem getF_none {A : Dk} {i : Int} {f : ByteArray} {st : Int × List Int} {c : Cel} (hc : A.cel f i = some c) (h : openI c.read f i = none) : getF A i st f = st := by
  unfold getF
  rw [hc]
  dsimp only
  rw [h]
theorem cel_set_self {A : Dk} (hs : Sorted A.files) {f : ByteArray} {k : Nat} {c d : Cel} (hc : A.cel f k = some c) : (A.set f ((A.at f).set k d)).cel f k = some d := by
  unfold Dk.cel at hc ⊢
  rw [if_pos (by omega), Int.toNat_natCast] at hc ⊢
  rw [at_set hs, if_pos rfl, List.getElem?_set_self]
  exact (List.getElem?_eq_some_iff.1 hc).1
theorem cel_set_bytes {A : Dk} (hs : Sorted A.files) {f : ByteArray} {k : Nat} {d : Cel} (hd : Bytes d.read) (g : ByteArray) (hb : ∀ i c, A.cel g i = some c → Bytes c.read) : ∀ i c, (A.set f ((A.at f).set k d)).cel g i = some c → Bytes c.read := by
  intro i c hc
  unfold Dk.cel at hc
  split at hc
  · rename_i h0
    rw [at_set hs] at hc
    split at hc
    · rename_i hgf
      subst hgf
      rcases List.mem_or_eq_of_mem_set (List.mem_of_getElem? hc) with hm | rfl
      · obtain ⟨j, hj⟩ := List.getElem?_of_mem hm
        exact hb (j : Int) c (by unfold Dk.cel; rw [if_pos (by omega), Int.toNat_natCast]; exact hj)
      · exact hd
    · exact hb i c (by unfold Dk.cel; rw [if_pos h0]; exact hc)
  · cases hc
structure LostEnd (B : Dk) (x : ByteArray) (k : Nat) : Prop where
  got : (getP B x k).1 < 0
  load : ∀ gen, loadP B x gen = none
  bytes : ∀ f ∈ halvesL x, ∀ i c, B.cel f i = some c → Bytes c.read
/-- With one byte turned in both, the piece is lost. -/
theorem rot_lost {B : Dk} {x : ByteArray} {gen : Nat} {ps : List (List Int)} (h : Holds B x gen ps) (hs : Sorted B.files) (hne : x ++ dotA ≠ x ++ dotB) (hl : ∀ p ∈ ps, p.length ≤ 106) (hb : ∀ p ∈ ps, Bytes p) {k t : Nat} (hk : k < ps.length) (ht : t < 128) {m n : Int} (hm : 0 < m) (hm2 : m ≤ 255) (hn : 0 < n) (hn2 : n ≤ 255) :
    LostEnd ((B.rot (x ++ dotA) k t m).2.rot (x ++ dotB) k t n).2 x k := by
  have hp := List.getElem?_eq_getElem hk
  have lp := hl _ (List.getElem_mem hk)
  have bp := hb _ (List.getElem_mem hk)
  have hB := held_bytes h hl hb
  generalize ps[k] = p at hp lp bp
  have ca := held_cel h.a hp
  have cb := held_cel h.b hp
  have bIa := xorAt_bytes (extI_bytes (name := x ++ dotA) (index := k) (gen := gen) lp bp) (k := t) (m := m) (by omega) hm2
  have bIb := xorAt_bytes (extI_bytes (name := x ++ dotB) (index := k) (gen := gen) lp bp) (k := t) (m := n) (by omega) hn2
  rw [rot_at ca ht]
  dsimp only
  obtain ⟨da, hda⟩ : ∃ da : Cel, da = ⟨xorAt (extI (x ++ dotA) k gen p) t m, xorAt (extI (x ++ dotA) k gen p) t m, extI (x ++ dotA) k gen p, extI (x ++ dotA) k gen p, false⟩ := ⟨_, rfl⟩
  have hs1 : Sorted (B.set (x ++ dotA) ((B.at (x ++ dotA)).set k da)).files := sorted_put _ _ hs
  have cb1 : (B.set (x ++ dotA) ((B.at (x ++ dotA)).set k da)).cel (x ++ dotB) k = some (stl (extI (x ++ dotB) k gen p)) := by
    unfold Dk.cel at cb ⊢
    rw [at_set hs, if_neg hne]
    exact cb
  have ca1 : (B.set (x ++ dotA) ((B.at (x ++ dotA)).set k da)).cel (x ++ dotA) k = some da := cel_set_self hs ca
  have rd : da.read = xorAt (extI (x ++ dotA) k gen p) t m := by rw [hda]
  have hB1 : ∀ f ∈ halvesL x, ∀ i c, (B.set (x ++ dotA) ((B.at (x ++ dotA)).set k da)).cel f i = some c → Bytes c.read := fun f hf => cel_set_bytes hs (by rw [rd]; exact bIa) f (hB f hf)
  have la1 : ((B.set (x ++ dotA) ((B.at (x ++ dotA)).set k da)).at (x ++ dotA)).length = ps.length := by
    rw [at_set hs, if_pos rfl, List.length_set, h.a, List.length_map, newCels_length]
  rw [← hda]
  clear hda
  generalize B.set (x ++ dotA) ((B.at (x ++ dotA)).set k da) = B1 at *
  rw [rot_at cb1 ht]
  dsimp only
  obtain ⟨db, hdb⟩ : ∃ db : Cel, db = ⟨xorAt (extI (x ++ dotB) k gen p) t n, xorAt (extI (x ++ dotB) k gen p) t n, extI (x ++ dotB) k gen p, extI (x ++ dotB) k gen p, false⟩ := ⟨_, rfl⟩
  have rdb : db.read = xorAt (extI (x ++ dotB) k gen p) t n := by rw [hdb]
  rw [← hdb]
  clear hdb
  have cb2 : (B1.set (x ++ dotB) ((B1.at (x ++ dotB)).set k db)).cel (x ++ dotB) k = some db := cel_set_self hs1 cb1
  have ca2 : (B1.set (x ++ dotB) ((B1.at (x ++ dotB)).set k db)).cel (x ++ dotA) k = some da := by
    unfold Dk.cel at ca1 ⊢
    rw [at_set hs1, if_neg (Ne.symm hne)]
    exact ca1
  have hg : getP (B1.set (x ++ dotB) ((B1.at (x ++ dotB)).set k db)) x k = (-1, []) := by
    unfold getP halvesL
    simp only [List.foldl_cons, List.foldl_nil]
    rw [getF_none ca2 (by rw [rd]; exact openI_xorAt lp bp ht hm hm2), getF_none cb2 (by rw [rdb]; exact openI_xorAt lp bp ht hn hn2)]
  have he : k < extN (B1.set (x ++ dotB) ((B1.at (x ++ dotB)).set k db)) x := by
    unfold extN halvesL
    simp only [List.foldl_cons, List.foldl_nil]
    rw [at_set hs1, if_neg (Ne.symm hne), la1]
    omega
  refine ⟨by rw [hg]; decide, fun gen => loadP_lost he (by rw [hg]; decide), fun f hf => cel_set_bytes hs1 (by rw [rdb]; exact bIb) f (hB1 f hf)⟩
end Go.Proofs.YtnllmkpbnccllaaDoor
/- A text is stored on a new disk, and read: awake of layer 5. -/
namespace Go.Proofs.YtnllmkpbnccllaaDoor
open Go.RowKit HP
set_option linter.unusedSimpArgs false
set_option linter.unusedVariables false

theorem piecesI_mem {l : List Int} {p : List Int} (h : p ∈ piecesI l) : ∀ x ∈ p, x ∈ l := fun x hx => by
  have : x ∈ (piecesI l).flatten := List.mem_flatten.2 ⟨p, h, hx⟩
  rwa [piecesI_flat] at this
theorem piecesI_bytes {l : List Int} (hb : Bytes l) : ∀ p ∈ piecesI l, Bytes p := fun p hp x hx => hb x (piecesI_mem hp x hx)
structure StoreEnd (room : Int) (gen : Nat) (l : List Int) (B : Dk) : Prop where
  eq : storeP (Dk.new room) exS gen l = (0, B)
  held : Holds B exS gen (piecesI l)
  sorted : Sorted B.files
  load : loadP B exS gen = some l
  bytes : ∀ f ∈ halvesL exS, ∀ i c, B.cel f i = some c → Bytes c.read
theorem store_end {room : Int} {l : List Int} {gen : Nat} (hg : (gen : Int) ≤ 4611686018427387904) (hr : needI l.length ≤ room) (hl : (piecesI l).length ≤ 2147483647) (hb : Bytes l) : ∃ B, StoreEnd room gen l B := by
  obtain ⟨B, h1, h2, h3⟩ := store_new hg hr hl
  obtain ⟨h4, h5⟩ := store_held hg hr hl
  have h6 := store_load hg hr hl
  rw [h1] at h4 h5 h6
  exact ⟨B, h1, h4, h5, h6, held_bytes h4 (pieces_count (l := l)).2.2.2 (piecesI_bytes hb)⟩
set_option maxHeartbeats 2000000 in
set_option maxRecDepth 100000 in
theorem awake5_ok (E : Env) (q : HP) (w : World) (hq : ∀ w, Sat E w q → Quarter w) (hw : Sat E w q) :
    Calls Tryd.prog 17 #[] w fun e w' => e = .returned (.bool true) ∧ Sat E w' q := by
  have hx3 : exS.size + 2 ≤ maxLen := by show 3 ≤ maxLen; unfold maxLen; omega
  have HX3 := Aside.mk hx3
  have hb2 : Bytes [97, 98] := by intro x hx; simp at hx; omega
  obtain ⟨B, hB⟩ := store_end (room := 10) (l := [97, 98]) (gen := 1) (by omega) (by decide) (by decide) hb2
  have HB := Aside.mk hB
  have HQ := Aside.mk (And.intro hq hw)
  have HB2 := Aside.mk hb2
  clear hx3 hB hq hw hb2
  go_enter Tryd.func17, Tryd.ntmps17
  go_wp2_with fail
  refine (disk_new_ok E q 10 _ ⟨by omega, by omega⟩ HQ.out.2).mono ?_
  rintro e w1 ⟨d, rfl, h1⟩
  have h2 := h1.alloc (.cells #[.int .u8 97, .int .u8 98] 5 (2, 3))
  have H2 : Aside (Sat E (w1.alloc (.cells #[.int .u8 97, .int .u8 98] 5 (2, 3))) (HP.disk d (Dk.new 10) * (HP.pt w1.heap.size (.cells (b8s [97, 98]).toArray 5 (2, 3)) * q))) := ⟨h2.perm (by ac_rfl)⟩
  have HQ2 : Aside (∀ w, Sat E w (HP.pt w1.heap.size (.cells (b8s [97, 98]).toArray 5 (2, 3)) * q) → Quarter w ∧ Cells w (some ⟨w1.heap.size, 0, none⟩) (b8s [97, 98])) := ⟨fun w h => ⟨HQ.out.1 w h.right, h.ptCells rfl⟩⟩
  have cv : (convert 22 22 (.slice (some ⟨w1.heap.size, 0, none⟩) 2 2)).run Tryd.prog (w1.alloc (.cells #[.int .u8 97, .int .u8 98] 5)) = .ok (.slice (some ⟨w1.heap.size, 0, none⟩) 2 2) (w1.alloc (.cells #[.int .u8 97, .int .u8 98] 5 (2, 3))) := Lib.run_convert_bytes_const w1 _ _ #[.int .u8 97, .int .u8 98] 2 2 Tryd.underlying22 Tryd.underlying5
  have HL : Aside ((2 : Nat) ≤ maxLen) := ⟨by unfold maxLen; omega⟩
  clear h1 h2
  go_wp2_with fail
  refine (pair_store E _ d (Dk.new 10) exS 1 (some ⟨w1.heap.size, 0, none⟩) [97, 98] 2 2 _ HX3.out (by omega) rfl (by omega) HL.out (by omega) HB2.out HQ2.out H2.out).mono ?_
  rintro e w2 ⟨rfl, h2⟩
  rw [HB.out.eq] at h2 ⊢
  have H3 : Aside (Sat E w2 (HP.disk d B * q)) := ⟨h2.perm (by ac_rfl : _ = HP.pt w1.heap.size (.cells (b8s [97, 98]).toArray 5 (2, 3)) * (HP.disk d B * q)) |>.right⟩
  clear h2 H2 HQ2
  go_wp2_with fail
  refine (pair_load E q d B exS 1 _ HX3.out HB.out.bytes HQ.out.1 H3.out).mono ?_
  intro e w3 h3
  have hld : loadP B exS 1 = some [97, 98] := HB.out.load
  rw [hld] at h3
  obtain ⟨v, rfl, h3⟩ := h3
  obtain ⟨Av, cv, rfl, -, -⟩ := h3.row_slice
  have e0 : (convert 22 9 (.slice Av 2 cv)).run Tryd.prog w3 = .ok (.string ⟨#[97, 98]⟩) w3 := run_string (P := Tryd.prog) (c := cv) Tryd.underlying22 Tryd.underlying5 Tryd.underlying9 h3.row_cells
  have H4 := Aside.mk h3
  clear h3 H3
  go_wp2
  go_ret
  exact ⟨rfl, H4.out.right.right⟩
end Go.Proofs.YtnllmkpbnccllaaDoor
/- PairNobody: the walk. -/
namespace Go.Proofs.YtnllmkpbnccllaaDoor
open Go.RowKit HP
set_option linter.unusedSimpArgs false
set_option linter.unusedVariables false

set_option maxHeartbeats 4000000 in
set_option maxRecDepth 100000 in
theorem pairNobody_ok (E : Env) (q : HP) (x0 x1 x2 x3 x4 y0 y1 y2 y3 y4 y5 y6 y7 : Value) (w : World) (hq : ∀ w, Sat E w q → Quarter w) (hw : Sat E w q) :
    Calls Tryd.prog 3 #[.agg #[x0, x1, x2, x3, x4, y0, y1, y2, y3, y4, y5, y6, y7]] w fun e w' => e = .returned (.bool true) ∧ Sat E w' q := by
  have h1 := ((hw.alloc (.cells #[x0, x1, x2, x3, x4, y0, y1, y2, y3, y4, y5, y6, y7] 27)).alloc (.cells #[.int .i64 0, .map none, .int .i64 0] 31)).alloc (.cells #[.pointer none, .pointer (some ⟨w.heap.size + 1, 0, none⟩)] 28)
  have hz : (w.alloc (.cells #[x0, x1, x2, x3, x4, y0, y1, y2, y3, y4, y5, y6, y7] 27)).heap.size = w.heap.size + 1 := by simp
  have hz2 : ((w.alloc (.cells #[x0, x1, x2, x3, x4, y0, y1, y2, y3, y4, y5, y6, y7] 27)).alloc (.cells #[.int .i64 0, .map none, .int .i64 0] 31)).heap.size = w.heap.size + 1 + 1 := by simp
  rw [hz, hz2] at h1
  have HQ := Aside.mk hq
  have H1 := Aside.mk h1
  clear hq hw h1 hz hz2
  go_enter Tryd.func3, Tryd.ntmps3
  go_wp2
  go_loopw [18] (fun v18 wr => ∃ k : Nat, k ≤ 2 ∧ v18 = .int .i64 k ∧ Aside (Sat E wr (HP.pt (w.heap.size + 1 + 1) (.cells #[.pointer none, .pointer (some ⟨w.heap.size + 1, 0, none⟩)] 28) * (HP.pt (w.heap.size + 1) (.cells #[.int .i64 0, .map none, .int .i64 0] 31) * (HP.pt w.heap.size (.cells #[x0, x1, x2, x3, x4, y0, y1, y2, y3, y4, y5, y6, y7] 27) * q))))) (fun i _ => 2 - (intOf i).toNat)
  case atStart => exact ⟨0, by omega, rfl, H1⟩
  case round =>
    obtain ⟨k, hk, rfl, HS⟩ := hrel
    by_cases hlt : k < 2
    · have hlt2 : (k : Int) < 2 := by omega
      obtain ⟨p, hp, HN⟩ : ∃ p, wr.cell? ⟨w.heap.size + 1 + 1, k, none⟩ = some p ∧ Aside (∀ w', Sat E w' (HP.pt (w.heap.size + 1 + 1) (.cells #[.pointer none, .pointer (some ⟨w.heap.size + 1, 0, none⟩)] 28) * (HP.pt (w.heap.size + 1) (.cells #[.int .i64 0, .map none, .int .i64 0] 31) * (HP.pt w.heap.size (.cells #[x0, x1, x2, x3, x4, y0, y1, y2, y3, y4, y5, y6, y7] 27) * q))) → NoDisk p w') := by
        rcases Nat.lt_or_ge k 1 with h0 | h0
        · obtain rfl : k = 0 := by omega
          have := HS.out.cell 0
          exact ⟨_, this, ⟨fun w' _ => disk_none_nil w'⟩⟩
        · obtain rfl : k = 1 := by omega
          have := HS.out.cell 1
          exact ⟨_, this, ⟨fun w' h => disk_none_new E _ _ w' h.s2⟩⟩
      have g1 : wr.cell? ⟨w.heap.size, 1, none⟩ = some x1 := HS.out.right.right.cell 1
      have g2 : wr.cell? ⟨w.heap.size, 2, none⟩ = some x2 := HS.out.right.right.cell 2
      have g3 : wr.cell? ⟨w.heap.size, 3, none⟩ = some x3 := HS.out.right.right.cell 3
      have g4 : wr.cell? ⟨w.heap.size, 4, none⟩ = some x4 := HS.out.right.right.cell 4
      go_wp2_with fail
      refine (pnone_load p x3 x2 _ (HN.out _ HS.out)).mono ?_
      rintro e w1 ⟨rfl, hw1⟩; subst w1
      go_wp2_with fail
      refine (pnone_get p x3 x1 _ (HN.out _ HS.out)).mono ?_
      rintro e w1 ⟨rfl, hw1⟩; subst w1
      go_wp2_with fail
      refine (pnone_mend p x3 x1 _ (HN.out _ HS.out)).mono ?_
      rintro e w1 ⟨rfl, hw1⟩; subst w1
      have HD : Aside (Sat E wr.drew (HP.pt (w.heap.size + 1 + 1) (.cells #[.pointer none, .pointer (some ⟨w.heap.size + 1, 0, none⟩)] 28) * (HP.pt (w.heap.size + 1) (.cells #[.int .i64 0, .map none, .int .i64 0] 31) * (HP.pt w.heap.size (.cells #[x0, x1, x2, x3, x4, y0, y1, y2, y3, y4, y5, y6, y7] 27) * q)))) := ⟨HS.out.drew⟩
      have H6 : Aside (Sat E (wr.alloc (.cells #[.int .i64 2, .int .i64 2, .int .i64 2, .int .i64 2, .int .i64 2, .int .i64 2] 33)).drew (HP.pt wr.heap.size (.cells (Array.replicate 6 (.int .i64 2)) 33) * (HP.pt (w.heap.size + 1 + 1) (.cells #[.pointer none, .pointer (some ⟨w.heap.size + 1, 0, none⟩)] 28) * (HP.pt (w.heap.size + 1) (.cells #[.int .i64 0, .map none, .int .i64 0] 31) * (HP.pt w.heap.size (.cells #[x0, x1, x2, x3, x4, y0, y1, y2, y3, y4, y5, y6, y7] 27) * q))))) := ⟨(HS.out.alloc (.cells #[.int .i64 2, .int .i64 2, .int .i64 2, .int .i64 2, .int .i64 2, .int .i64 2] 33)).drew⟩
      clear hp HS
      go_wp2
      refine region_R [10, 20, 24, 25] [10, 20] (fun w => w = wr.drew) #[false, false, false, false, false, false, false, false, false, false, false, false, false, false, false, false, false, false, false, false, false, false, false, false, false, false, false, false] (by kernel_rfl) rfl rfl ?_
      refine wpR_pu 0 #[true, false, false, false, false, false, false, false, false, false, false, false, false, false, false, false, false, false, false, false, false, false, false, false, false, false, false, false] rfl onlyN_noPanic (by kernel_rfl) (fun K hK => ?_); (go_simp; try go_bits); refine hK _ ?_; clear hK K
      refine wpR_pu 1 #[true, true, false, false, false, false, false, false, false, false, false, false, false, false, false, false, false, false, false, false, false, false, false, false, false, false, false, false] rfl onlyN_noPanic (by kernel_rfl) (fun K hK => ?_); (go_simp; try go_bits); refine hK _ ?_; clear hK K
      refine wpR_pu 2 #[true, true, true, false, false, false, false, false, false, false, false, false, false, false, false, false, false, false, false, false, false, false, false, false, false, false, false, false] rfl onlyN_noPanic (by kernel_rfl) (fun K hK => ?_); (go_simp; try go_bits); refine hK _ ?_; clear hK K
      refine wpR_rd 3 #[true, true, true, true, false, false, false, false, false, false, false, false, false, false, false, false, false, false, false, false, false, false, false, false, false, false, false, false] rfl onlyN_noPanic (by kernel_rfl) (fun K hK => ?_); (go_simp; try go_bits); refine hK _ ?_; clear hK K
      refine wpR_rd 4 #[true, true, true, true, true, false, false, false, false, false, false, false, false, false, false, false, false, false, false, false, false, false, false, false, false, false, false, false] rfl onlyN_noPanic (by kernel_rfl) (fun K hK => ?_); (go_simp; try go_bits); refine hK _ ?_; clear hK K
      refine wpR_rd 5 #[true, true, true, true, true, true, false, false, false, false, false, false, false, false, false, false, false, false, false, false, false, false, false, false, false, false, false, false] rfl onlyN_noPanic (by kernel_rfl) (fun K hK => ?_); (go_simp; try go_bits); refine hK _ ?_; clear hK K
      refine wpR_rd 6 #[true, true, true, true, true, true, true, false, false, false, false, false, false, false, false, false, false, false, false, false, false, false, false, false, false, false, false, false] rfl onlyN_noPanic (by kernel_rfl) (fun K hK => ?_); (go_simp; try go_bits); refine hK _ ?_; clear hK K
      refine wpR_rd 7 #[true, true, true, true, true, true, true, true, false, false, false, false, false, false, false, false, false, false, false, false, false, false, false, false, false, false, false, false] rfl onlyN_noPanic (by kernel_rfl) (fun K hK => ?_); (go_simp; try go_bits); refine hK _ ?_; clear hK K
      refine wpR_rd 8 #[true, true, true, true, true, true, true, true, true, false, false, false, false, false, false, false, false, false, false, false, false, false, false, false, false, false, false, false] rfl onlyN_noPanic (by kernel_rfl) (fun K hK => ?_); (go_simp; try go_bits); refine hK _ ?_; clear hK K
      refine wpR_rd 9 #[true, true, true, true, true, true, true, true, true, true, false, false, false, false, false, false, false, false, false, false, false, false, false, false, false, false, false, false] rfl onlyN_noPanic (by kernel_rfl) (fun K hK => ?_); (go_simp; try go_bits); refine hK _ ?_; clear hK K
      refine wpR_pu 11 #[true, true, true, true, true, true, true, true, true, true, false, true, false, false, false, false, false, false, false, false, false, false, false, false, false, false, false, false] rfl onlyN_noPanic (by kernel_rfl) (fun K hK => ?_); (go_simp; try go_bits); refine hK _ ?_; clear hK K
      refine wpR_pu 12 #[true, true, true, true, true, true, true, true, true, true, false, true, true, false, false, false, false, false, false, false, false, false, false, false, false, false, false, false] rfl onlyN_noPanic (by kernel_rfl) (fun K hK => ?_); (go_simp; try go_bits); refine hK _ ?_; clear hK K
      refine wpR_held (i := 13) (v := x3) #[true, true, true, true, true, true, true, true, true, true, false, true, true, true, false, false, false, false, false, false, false, false, false, false, false, false, false, false] rfl onlyN_noPanic (by kernel_rfl) rfl (.inl ⟨rfl, fun w' hT => ?_⟩) ?_
      · subst hT; go_simp
      simp only [Act.put, List.setIfInBounds_toArray, List.set_cons_zero, List.set_cons_succ]
      refine wpR_pu 14 #[true, true, true, true, true, true, true, true, true, true, false, true, true, true, true, false, false, false, false, false, false, false, false, false, false, false, false, false] rfl onlyN_noPanic (by kernel_rfl) (fun K hK => ?_); (go_simp; try go_bits); refine hK _ ?_; clear hK K
      refine wpR_held (i := 15) (v := x1) #[true, true, true, true, true, true, true, true, true, true, false, true, true, true, true, true, false, false, false, false, false, false, false, false, false, false, false, false] rfl onlyN_noPanic (by kernel_rfl) rfl (.inl ⟨rfl, fun w' hT => ?_⟩) ?_
      · subst hT; go_simp
      simp only [Act.put, List.setIfInBounds_toArray, List.set_cons_zero, List.set_cons_succ]
      refine wpR_pu 16 #[true, true, true, true, true, true, true, true, true, true, false, true, true, true, true, true, true, false, false, false, false, false, false, false, false, false, false, false] rfl onlyN_noPanic (by kernel_rfl) (fun K hK => ?_); (go_simp; try go_bits); refine hK _ ?_; clear hK K
      refine wpR_held (i := 17) (v := x2) #[true, true, true, true, true, true, true, true, true, true, false, true, true, true, true, true, true, true, false, false, false, false, false, false, false, false, false, false] rfl onlyN_noPanic (by kernel_rfl) rfl (.inl ⟨rfl, fun w' hT => ?_⟩) ?_
      · subst hT; go_simp
      simp only [Act.put, List.setIfInBounds_toArray, List.set_cons_zero, List.set_cons_succ]
      refine wpR_pu 18 #[true, true, true, true, true, true, true, true, true, true, false, true, true, true, true, true, true, true, true, false, false, false, false, false, false, false, false, false] rfl onlyN_noPanic (by kernel_rfl) (fun K hK => ?_); (go_simp; try go_bits); refine hK _ ?_; clear hK K
      refine wpR_held (i := 19) (v := x4) #[true, true, true, true, true, true, true, true, true, true, false, true, true, true, true, true, true, true, true, true, false, false, false, false, false, false, false, false] rfl onlyN_noPanic (by kernel_rfl) rfl (.inl ⟨rfl, fun w' hT => ?_⟩) ?_
      · subst hT; go_simp
      simp only [Act.put, List.setIfInBounds_toArray, List.set_cons_zero, List.set_cons_succ]
      refine wpR_pu 21 #[true, true, true, true, true, true, true, true, true, true, false, true, true, true, true, true, true, true, true, true, false, true, false, false, false, false, false, false] rfl onlyN_noPanic (by kernel_rfl) (fun K hK => ?_); (go_simp; try go_bits); refine hK _ ?_; clear hK K
      refine wpR_pu 22 #[true, true, true, true, true, true, true, true, true, true, false, true, true, true, true, true, true, true, true, true, false, true, true, false, false, false, false, false] rfl onlyN_noPanic (by kernel_rfl) (fun K hK => ?_); (go_simp; try go_bits); refine hK _ ?_; clear hK K
      refine wpR_held (i := 23) (v := x3) #[true, true, true, true, true, true, true, true, true, true, false, true, true, true, true, true, true, true, true, true, false, true, true, true, false, false, false, false] rfl onlyN_noPanic (by kernel_rfl) rfl (.inl ⟨rfl, fun w' hT => ?_⟩) ?_
      · subst hT; go_simp
      simp only [Act.put, List.setIfInBounds_toArray, List.set_cons_zero, List.set_cons_succ]
      refine wpR_pu 27 #[true, true, true, true, true, true, true, true, true, true, false, true, true, true, true, true, true, true, true, true, false, true, true, true, false, false, false, true] rfl onlyN_noPanic (by kernel_rfl) (fun K hK => ?_); (go_simp; try go_bits); refine hK _ ?_; clear hK K
      refine wpR_keep #[true, true, true, true, true, true, true, true, true, true, true, true, true, true, true, true, true, true, true, true, false, true, true, true, false, false, false, true] (i := 10) rfl (by kernel_rfl) (fun K hK => ?_)
      go_simp; refine (pnone_store p x3 x2 x4 _ (HN.out _ HD.out)).mono ?_; rintro e w5 ⟨rfl, hw5⟩; subst w5; refine hK _ _ rfl ?_; clear hK K
      refine wpR_keep #[true, true, true, true, true, true, true, true, true, true, true, true, true, true, true, true, true, true, true, true, true, true, true, true, false, false, false, true] (i := 20) rfl (by kernel_rfl) (fun K hK => ?_)
      go_simp; refine (pnone_put p x3 x1 x2 x4 _ (HN.out _ HD.out)).mono ?_; rintro e w5 ⟨rfl, hw5⟩; subst w5; refine hK _ _ rfl ?_; clear hK K
      refine wpR_eff #[true, true, true, true, true, true, true, true, true, true, true, true, true, true, true, true, true, true, true, true, true, true, true, true, true, false, false, true] (i := 24) rfl (by kernel_rfl) (fun K hK => ?_)
      go_simp; refine (pnone_drop p x3 _ (HN.out _ HD.out)).mono ?_; rintro e w5 ⟨rfl, hw5⟩; subst w5; refine hK _ _ ?_; clear hK K
      refine wpR_eff #[true, true, true, true, true, true, true, true, true, true, true, true, true, true, true, true, true, true, true, true, true, true, true, true, true, true, false, true] (i := 25) rfl (by kernel_rfl) (fun K hK => ?_)
      go_simp; refine hK _ _ ?_; clear hK K
      refine wpR_rd 26 #[true, true, true, true, true, true, true, true, true, true, true, true, true, true, true, true, true, true, true, true, true, true, true, true, true, true, true, true] rfl onlyN_noPanic (by kernel_rfl) (fun K hK => ?_); (go_simp; try go_bits); refine hK _ ?_; clear hK K
      refine wpR_done (by kernel_rfl) ?_ _
      simp only [OnlyN]
      clear g1 g2 g3 g4 HD HN
      obtain ⟨b, hb⟩ : ∃ b, b = wr.heap.size := ⟨_, rfl⟩
      rw [← hb] at H6 ⊢
      clear hb
      go_wp2
      go_loopw [77] (fun v77 wi => ∃ j : Nat, j ≤ 6 ∧ v77 = .int .i64 j ∧ Aside (Sat E wi (HP.pt b (.cells (Array.replicate 6 (.int .i64 2)) 33) * (HP.pt (w.heap.size + 1 + 1) (.cells #[.pointer none, .pointer (some ⟨w.heap.size + 1, 0, none⟩)] 28) * (HP.pt (w.heap.size + 1) (.cells #[.int .i64 0, .map none, .int .i64 0] 31) * (HP.pt w.heap.size (.cells #[x0, x1, x2, x3, x4, y0, y1, y2, y3, y4, y5, y6, y7] 27) * q)))))) (fun i _ => 6 - (intOf i).toNat)
      case atStart => exact ⟨0, by omega, rfl, H6⟩
      case round =>
        obtain ⟨j, hj, rfl, HI⟩ := hrel
        by_cases hjl : j < 6
        · have hjl2 : (j : Int) < 6 := by omega
          have gj : wr.cell? ⟨b, j, none⟩ = some (.int .i64 2) := by
            rw [HI.out.cell j, Array.getElem?_replicate, if_pos hjl]
          go_wp2
          go_roundw
          case rel => exact ⟨j + 1, by omega, by push_cast; rfl, HI⟩
          case measure => simp [intOf]; omega
        · obtain rfl : j = 6 := by omega
          have HS2 := Aside.mk HI.out.right
          go_wp2
          go_roundw
          case rel => exact ⟨k + 1, by omega, by push_cast; rfl, HS2⟩
          case measure => simp [intOf]; omega
    · obtain rfl : k = 2 := by omega
      go_wp2_with fail
      refine (awake5_ok E _ _ (fun w h => HQ.out w h.right.right.right) HS.out).mono ?_
      rintro e w2 ⟨rfl, h2⟩
      go_wp2
      go_ret
      exact ⟨rfl, h2.right.right.right⟩
end Go.Proofs.YtnllmkpbnccllaaDoor
/- The listed table: what the condition gives a walk; the door's own heap meets it. -/
namespace Go.Proofs.YtnllmkpbnccllaaDoor
open Go.ChangeShapes Go.WideShapes Go.ChangeAt Go.WideMaps Go.WideElems Go.RowKit HP
set_option linter.unusedVariables false

def laidAll : List (String × DataW Unit) := [("dryrot/crc.quarter", Rows.laid_dryrot_crc_quarter)]
theorem gQuarter : Tryd.prog.globalNamed "dryrot/crc.quarter" = some 0 := by kernel_rfl
theorem tQuarter : (Tryd.prog.globals[0]?).map (·.type) = some 198 := by kernel_rfl
theorem door_met (os : Os) (args : Array Value) : laidMetH Tryd.prog laidAll ((World.doorLaid Tryd.prog 400 os).forCall (fun _ _ => 0) ⟨#[], args, []⟩).memory :=
  laidMetH_of_parts3 (fuel := 8) (laidMet_of_run' 8 (by kernel_rfl) (by kernel_rfl)) (by kernel_rfl) (by kernel_rfl)
theorem quarter_of_laid {W : World} (h : laidMetH Tryd.prog laidAll W) : Quarter W := by
  rw [MakeChecks.laidMetH_plain _ _ _ (by kernel_rfl)] at h
  obtain ⟨ps, ⟨g0, t0, cs0, f0, p0, q0, hg0, ht0, hv0, hd0, _, _⟩, _, _⟩ := h
  obtain rfl := Option.some.inj (gQuarter.symm.trans hg0)
  obtain rfl := Option.some.inj (tQuarter.symm.trans ht0)
  obtain ⟨xs, m1, rfl, hx1, hlen, hn3, hel⟩ := DataW.trod_array Tryd.underlying198 hd0
  have c3 : Tryd.prog.cellsOf 155 = 1 := by kernel_rfl
  simp only [Prod.mk.injEq, DataW.agg.injEq, Rows.laid_dryrot_crc_quarter] at hx1
  intro i hi
  have hi' := hel i hi
  rw [c3, Nat.mul_one] at hi'
  have hxl : i < xs.length := by omega
  rw [List.getElem?_eq_getElem hxl] at hi'
  obtain ⟨k, e1, e2, _⟩ := DataW.trod_int Tryd.underlying155 hi'
  have e3 : (xs.map (·.1))[i]? = some (DataW.lit (.int .u32 k)) := by
    rw [List.getElem?_map, List.getElem?_eq_getElem hxl]
    simp [e2]
  rw [← hx1.1] at e3
  have hk : k = quarterN i := by
    match i, hi with
    | 0, _ => simpa [quarterN] using e3.symm
    | 1, _ => simpa [quarterN] using e3.symm
    | 2, _ => simpa [quarterN] using e3.symm
    | 3, _ => simpa [quarterN] using e3.symm
  have e4 := World.var?_cell hg0 hv0 i
  have e5 : cs0.toList[i]? = some (.int .u32 k) := by
    have := congrArg (fun l => l[0]?) e1
    simpa [List.getElem?_take] using this
  rw [Array.getElem?_toList, hk] at e5
  rw [← e5, ← e4]
end Go.Proofs.YtnllmkpbnccllaaDoor
/- What the laws' cards share. -/
namespace Go.Proofs.YtnllmkpbnccllaaDoor
open Go.ChangeShapes Go.WideShapes Go.ChangeAt Go.RowKit HP
set_option linter.unusedVariables false

theorem old_carry {E : Env} {W w : World} (h : Sat E w (HP.old W)) : ∀ k, k < W.heap.size → w.heap[k]? = W.heap[k]? := fun k hk => Sat.old_block (p := HP.emp) (by rw [HP.mul_emp]; exact h) k hk
theorem quarter_old {E : Env} {W w : World} (hQ : Quarter W) (h : Sat E w (HP.old W)) : Quarter w := fun i hi => by
  rw [World.cell?_of_block (w := W) (old_carry h _ (World.block_lt_of_cell? W _ (hQ i hi)))]
  exact hQ i hi
theorem trodAll_five {H : Type} {enc : TypeId × Value → H} {P : Program} {w : World} {base : Nat} {spare : Nat → Bool} {held : Bool} {t t' t'' t3 t4 : TypeId} {args : Array Value} {ds : List (DataW H)} {ps : List MemPlace} (h : DataW.TrodAll enc P w base spare held [t, t', t'', t3, t4] args.toList ds ps) :
    ∃ v v' v'' v3 v4 d d' d'' d3 d4 p p' p'' p3 p4, args = #[v, v', v'', v3, v4] ∧ ds = [d, d', d'', d3, d4] ∧ ps = p ++ p' ++ p'' ++ p3 ++ p4 ∧ DataW.Trod enc P w base spare held t v d p ∧ DataW.Trod enc P w base spare held t' v' d' p' ∧ DataW.Trod enc P w base spare held t'' v'' d'' p'' ∧ DataW.Trod enc P w base spare held t3 v3 d3 p3 ∧ DataW.Trod enc P w base spare held t4 v4 d4 p4 := by
  obtain ⟨v, vs, d, ds', p, q, hargs, rfl, rfl, hd, hrest⟩ := trodAll_cons h
  obtain ⟨v', vs', d', ds'', p', q', rfl, rfl, rfl, hd', hrest'⟩ := trodAll_cons hrest
  obtain ⟨v'', vs'', d'', ds''', p'', q'', rfl, rfl, rfl, hd'', hrest''⟩ := trodAll_cons hrest'
  obtain ⟨v3, vs3, d3, ds3, p3, q3, rfl, rfl, rfl, hd3, hrest3⟩ := trodAll_cons hrest''
  obtain ⟨v4, vs4, d4, ds4, p4, q4, rfl, rfl, rfl, hd4, hrest4⟩ := trodAll_cons hrest3
  obtain ⟨rfl, rfl, rfl⟩ := trodAll_nil hrest4
  exact ⟨v, v', v'', v3, v4, d, d', d'', d3, d4, p, p', p'', p3, p4, by cases args; simp_all, rfl, by simp, hd, hd', hd'', hd3, hd4⟩
theorem rdB_at : (rdSl (rdInt .u8)).At Tryd.prog 22 := rdSl_at (n := 1) Tryd.underlying22 (by kernel_rfl) (rdInt_at Tryd.underlying5)
end Go.Proofs.YtnllmkpbnccllaaDoor
