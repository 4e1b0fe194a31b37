/- Texts of one claim, one behind the other: LoadP, LostP, StP, AppZ, StR, StS, StL, StX, StY, StN, StPm, LeftZ. -/
import Derived.Test.YtnpinegpajbkeaaDoorNo5
import Derived.Lib.AppendZerosOnto
/- What is stored on a new disk is read. -/
namespace Go.Proofs.YtnpinegpajbkeaaDoor
open Go.RowKit HP
set_option linter.unusedSimpArgs false
set_option linter.unusedVariables false

theorem held_loadG {B : Dk} {x : ByteArray} {gen : Nat} {ps : List (List Int)} (h : Holds B x gen ps) (hg : gen ≤ 4611686018427387904) (hm : ps.length ≤ 2147483647) (hl : ∀ p ∈ ps, p.length ≤ 106) : ∀ (c i : Nat) (out : List Int), i + c = ps.length → loadG B x gen i c out = some (out ++ (ps.drop i).flatten)
  | 0, i, out, hi => by
    rw [List.drop_of_length_le (by omega)]
    simp [loadG]
  | c + 1, i, out, hi => by
    have hil : i < ps.length := by omega
    have hg2 := held_get (k := i) h hg (by omega) (List.getElem?_eq_getElem hil) (hl _ (List.getElem_mem hil))
    unfold loadG
    rw [hg2, if_pos ⟨by show (0 : Int) ≤ gen; omega, rfl⟩, held_loadG h hg hm hl c (i + 1) _ (by omega)]
    have e : (ps.drop i).flatten = ps[i] ++ (ps.drop (i + 1)).flatten := by rw [List.drop_eq_getElem_cons hil, List.flatten_cons]
    rw [e, List.append_assoc]
theorem held_load {B : Dk} {x : ByteArray} {gen : Nat} {ps : List (List Int)} (h : Holds B x gen ps) (hg : gen ≤ 4611686018427387904) (h0 : ps ≠ []) (hm : ps.length ≤ 2147483647) (hl : ∀ p ∈ ps, p.length ≤ 106) : loadP B x gen = some ps.flatten := by
  have hn : extN B x = ps.length := by
    unfold extN halvesL
    simp only [List.foldl_cons, List.foldl_nil, h.a, h.b, List.length_map, newCels_length]
    omega
  unfold loadP
  rw [hn, if_neg (fun h => h0 (List.eq_nil_of_length_eq_zero h)), held_loadG h hg hm hl _ 0 [] (by omega)]
  simp
theorem pieces_flat (l : List Int) : ∀ (m k : Nat), 106 * (k + m) ≥ l.length → ((List.range' k m).map (piece l)).flatten = l.drop (106 * k)
  | 0, k, h => by
    rw [List.drop_of_length_le (by simpa using h)]
    rfl
  | m + 1, k, h => by
    have ih := pieces_flat l m (k + 1) (by omega)
    rw [List.range'_succ, List.map_cons, List.flatten_cons, ih]
    unfold piece
    rw [show 106 * (k + 1) = 106 * k + 106 by omega, ← List.drop_drop, List.take_append_drop]
theorem piecesI_flat (l : List Int) : (piecesI l).flatten = l := by
  unfold piecesI
  by_cases h : l.length = 0
  · rw [if_pos h, List.eq_nil_of_length_eq_zero h]; rfl
  · rw [if_neg h, List.range_eq_range', pieces_flat l _ 0 (by unfold chunkN; omega)]
    rfl
/-- A text stored on a new disk: what both halves hold. -/
theorem store_held {room : Int} {l : List Int} {gen : Nat} (hg : (gen : Int) ≤ 4611686018427387904) (hr : needI l.length ≤ room) (hl : (piecesI l).length ≤ 2147483647) : Holds (storeP (Dk.new room) exS gen l).2 exS gen (piecesI l) ∧ Sorted (storeP (Dk.new room) exS gen l).2.files := by
  obtain ⟨p1, p2, -, p4⟩ := pieces_count (l := l)
  have hd : dropP (Dk.new room) exS = (0, Dk.new room) := by simp [dropP, dropL, halvesL, Dk.at, Dk.new, lk_nil]
  have hs0 : Sorted (Dk.new room).files := List.Pairwise.nil
  have hz : sizeF (Dk.new room).files = 0 := rfl
  have c1 : ((piecesI l).length : Int) ≤ (Dk.new room).free := by show _ ≤ room - (0 : Nat); omega
  obtain ⟨B1, h1, f1, -⟩ := wrF_fresh (f := exS ++ dotA) twoEx.na hg (piecesI l) (Dk.new room) 0 hs0 rfl rfl c1 p4 (by omega) (by omega)
  have g1 := wrF_cels (f := exS ++ dotA) twoEx.na hg (piecesI l) (Dk.new room) 0 hs0 rfl rfl c1 p4 (by omega) (by omega)
  have hr1 : B1.room = room := f1.room
  have c2 : ((piecesI l).length : Int) ≤ B1.free := by
    have := f1.size
    unfold Dk.free
    omega
  have hb0 : (B1.at (exS ++ dotB)).length = 0 := by rw [f1.others _ twoEx.ne]; rfl
  obtain ⟨B2, h2, f2, -⟩ := wrF_fresh (f := exS ++ dotB) twoEx.nb hg (piecesI l) B1 0 f1.sorted f1.fuse hb0 c2 p4 (by omega) (by omega)
  have g2 := wrF_cels (f := exS ++ dotB) twoEx.nb hg (piecesI l) B1 0 f1.sorted f1.fuse hb0 c2 p4 (by omega) (by omega)
  have hst : storeP (Dk.new room) exS gen l = (0, B2) := by
    unfold storeP
    rw [hd, if_pos rfl]
    unfold wrP halvesL
    simp only [wrL, h1, h2, if_pos rfl]
    rfl
  rw [h1] at g1
  rw [h2] at g2
  rw [hst]
  refine ⟨⟨?_, ?_⟩, f2.sorted⟩
  · rw [f2.others _ (Ne.symm twoEx.ne)]
    exact g1
  · rw [List.eq_nil_of_length_eq_zero hb0, List.nil_append] at g2
    exact g2
theorem store_holds {room : Int} {l : List Int} {gen : Nat} (hg : (gen : Int) ≤ 4611686018427387904) (hr : needI l.length ≤ room) (hl : (piecesI l).length ≤ 2147483647) : Holds (storeP (Dk.new room) exS gen l).2 exS gen (piecesI l) := (store_held hg hr hl).1
theorem store_load {room : Int} {l : List Int} {gen : Nat} (hg : (gen : Int) ≤ 4611686018427387904) (hr : needI l.length ≤ room) (hl : (piecesI l).length ≤ 2147483647) : loadP (storeP (Dk.new room) exS gen l).2 exS gen = some l := by
  obtain ⟨p1, p2, -, p4⟩ := pieces_count (l := l)
  rw [held_load (store_holds hg hr hl) (by omega) (fun h => by rw [h] at p2; simp at p2) hl p4, piecesI_flat]
end Go.Proofs.YtnpinegpajbkeaaDoor
/- PairLost, the plain part: an extent of which one byte is turned is not right. -/
namespace Go.Proofs.YtnpinegpajbkeaaDoor
open Go.RowKit HP
set_option linter.unusedSimpArgs false
set_option linter.unusedVariables false

theorem xor_cancel {x y z : Nat} (h : x ^^^ z = y ^^^ z) : x = y := by
  have h := congrArg (· ^^^ z) h
  simpa only [Nat.xor_assoc, Nat.xor_self, Nat.xor_zero] using h
theorem quarterN_top : ∀ i : Nat, i < 4 → quarterN i / 1073741824 = i
  | 0, _ => rfl
  | 1, _ => rfl
  | 2, _ => rfl
  | 3, _ => rfl
  | n + 4, h => by omega
theorem crcQ_top {r : Nat} (h : r < 4294967296) : crcQ r / 1073741824 = r % 4 := by
  have h1 : crcQ r >>> 30 = r % 4 := by
    unfold crcQ
    rw [Nat.shiftRight_xor_distrib, Nat.shiftRight_eq_div_pow, Nat.shiftRight_eq_div_pow]
    rw [show r / 4 / 2 ^ 30 = 0 by omega, Nat.zero_xor]
    exact quarterN_top _ (by omega)
  rwa [Nat.shiftRight_eq_div_pow] at h1
theorem crcQ_inj {a b : Nat} (ha : a < 4294967296) (hb : b < 4294967296) (h : crcQ a = crcQ b) : a = b := by
  have h1 := crcQ_top ha
  have h2 := crcQ_top hb
  rw [h, h2] at h1
  unfold crcQ at h
  rw [← h1] at h
  have := xor_cancel h
  omega
theorem crcI_inj {a b : Nat} (ha : a < 4294967296) (hb : b < 4294967296) : ∀ k, crcI k a = crcI k b → a = b
  | 0, h => h
  | k + 1, h => crcI_inj ha hb k (crcQ_inj (crcI_lt ha k) (crcI_lt hb k) h)
theorem crcB_inj {r s x y : Nat} (hr : r < 4294967296) (hs : s < 4294967296) (hx : x < 256) (hy : y < 256) (h : crcB r x = crcB s y) : r ^^^ x = s ^^^ y := crcI_inj (xor_lt32 hr (by omega)) (xor_lt32 hs (by omega)) 4 h
theorem crcL_inj : ∀ {l : List Int}, Bytes l → ∀ {r s : Nat}, r < 4294967296 → s < 4294967296 → crcL r l = crcL s l → r = s
  | [], _, r, s, _, _, h => h
  | x :: l, hl, r, s, hr, hs, h => by
    have hx := hl x (List.mem_cons_self ..)
    have h1 := crcL_inj (fun y hy => hl y (List.mem_cons_of_mem _ hy)) (crcB_lt hr (by omega)) (crcB_lt hs (by omega)) h
    exact xor_cancel (crcB_inj hr hs (by omega) (by omega) h1)
theorem crcL_set : ∀ {l : List Int}, Bytes l → ∀ {r k : Nat} {y : Int}, r < 4294967296 → k < l.length → 0 ≤ y → y ≤ 255 → crcL r (l.set k y) = crcL r l → y = l.getD k 0
  | [], _, r, k, y, _, hk, _, _, _ => by simp at hk
  | x :: l, hl, r, 0, y, hr, hk, h0, h1, h => by
    have hx := hl x (List.mem_cons_self ..)
    have h2 := crcL_inj (fun y hy => hl y (List.mem_cons_of_mem _ hy)) (crcB_lt (x := y.toNat) hr (by omega)) (crcB_lt (x := x.toNat) hr (by omega)) h
    have h3 := crcB_inj hr hr (by omega) (by omega) h2
    rw [Nat.xor_comm r, Nat.xor_comm r] at h3
    have h4 := xor_cancel h3
    show y = x
    omega
  | x :: l, hl, r, k + 1, y, hr, hk, h0, h1, h => by
    have hx := hl x (List.mem_cons_self ..)
    have := crcL_set (fun y hy => hl y (List.mem_cons_of_mem _ hy)) (k := k) (y := y) (crcB_lt (x := x.toNat) hr (by omega)) (by simpa using hk) h0 h1 h
    simpa using this
theorem crcSum_set {l : List Int} (hl : Bytes l) {k : Nat} {y : Int} (hk : k < l.length) (h0 : 0 ≤ y) (h1 : y ≤ 255) (h : crcSum (l.set k y) = crcSum l) : y = l.getD k 0 := by
  unfold crcSum crcMore at h
  rw [Nat.xor_comm 4294967295 (crcL _ _), Nat.xor_comm 4294967295 (crcL _ _)] at h
  exact crcL_set hl (by decide) hk h0 h1 (xor_cancel h)
/-- The last four bytes are the sum of all ahead of them. -/
def SumOk (b : List Int) : Prop := b.length = 128 ∧ b.drop 124 = putI (crcSum (b.take 124)) 4
theorem extI_sumOk {f : ByteArray} {i g : Nat} {p : List Int} (h : p.length ≤ 106) : SumOk (extI f i g p) := by
  refine ⟨extI_length h, ?_⟩
  unfold extI
  rw [List.drop_left' (extH_length h), List.take_left' (extH_length h)]
theorem openI_sumOk {b : List Int} {f : ByteArray} {i : Int} {x : List Int × Nat} (h : openI b f i = some x) : SumOk b := by
  obtain ⟨p, g⟩ := x
  have hl := (openI_gen h).2
  unfold openI at h
  split at h
  · cases h
  · split at h
    · cases h
    · split at h
      · cases h
      · rename_i h1 h2 h3
        simp only [Option.some.injEq, Prod.mk.injEq] at h
        obtain ⟨h4, h5⟩ := h
        rw [h4, h5] at h3
        rw [← Decidable.of_not_not h3]
        exact extI_sumOk hl
theorem sumOk_set {o : List Int} (ho : SumOk o) (hb : Bytes o) {k : Nat} {y : Int} (hk : k < 128) (h0 : 0 ≤ y) (h1 : y ≤ 255) (hne : y ≠ o.getD k 0) : ¬ SumOk (o.set k y) := by
  rintro ⟨-, h⟩
  obtain ⟨hl, hs⟩ := ho
  have bt : Bytes (o.take 124) := fun x hx => hb x (List.mem_of_mem_take hx)
  by_cases hk2 : k < 124
  · have e1 : (o.set k y).drop 124 = o.drop 124 := by
      apply List.ext_getElem?
      intro j
      rw [List.getElem?_drop, List.getElem?_drop, List.getElem?_set_ne (by omega)]
    have e2 : (o.set k y).take 124 = (o.take 124).set k y := by rw [List.take_set]
    rw [e1, e2, hs] at h
    have h2 := congrArg getN h
    have l1 : Bytes ((o.take 124).set k y) := fun x hx => by
      rcases List.mem_or_eq_of_mem_set hx with hx | rfl
      · exact bt x hx
      · omega
    rw [getN_putI 4 _ (crcSum_lt bt), getN_putI 4 _ (crcSum_lt l1)] at h2
    have := crcSum_set bt (k := k) (y := y) (by rw [List.length_take]; omega) h0 h1 h2.symm
    apply hne
    rw [this]
    simp only [List.getD, List.getElem?_take, if_pos hk2]
  · have e2 : (o.set k y).take 124 = o.take 124 := by
      apply List.ext_getElem?
      intro j
      rw [List.getElem?_take, List.getElem?_take]
      split
      · rw [List.getElem?_set_ne (by omega)]
      · rfl
    rw [e2, ← hs] at h
    have h2 := congrArg (fun l => l[k - 124]?) h
    simp only [List.getElem?_drop] at h2
    rw [show 124 + (k - 124) = k by omega, List.getElem?_set_self (by omega)] at h2
    apply hne
    simp [List.getD, ← h2]
theorem xorB_byte {a m : Int} (h0 : 0 ≤ a) (h1 : a ≤ 255) (h2 : 0 ≤ m) (h3 : m ≤ 255) : 0 ≤ xorB a m ∧ xorB a m ≤ 255 := by
  unfold xorB
  rw [u8_xor a m h0 (by omega) h2 (by omega)]
  have := Nat.xor_lt_two_pow (n := 8) (x := a.toNat) (y := m.toNat) (by omega) (by omega)
  omega
theorem xorB_ne {a m : Int} (h0 : 0 ≤ a) (h1 : a ≤ 255) (h2 : 0 < m) (h3 : m ≤ 255) : xorB a m ≠ a := by
  unfold xorB
  rw [u8_xor a m h0 (by omega) (by omega) (by omega)]
  intro h
  have h4 : a.toNat ^^^ m.toNat = a.toNat := by omega
  have h5 : m.toNat ^^^ a.toNat = 0 ^^^ a.toNat := by rw [Nat.xor_comm, h4, Nat.zero_xor]
  have := xor_cancel h5
  omega
theorem getD_byte {l : List Int} (h : Bytes l) (k : Nat) : 0 ≤ l.getD k 0 ∧ l.getD k 0 ≤ 255 := by
  unfold List.getD
  cases hk : l[k]? with
  | none => simp
  | some x => exact h x (List.mem_of_getElem? hk)
theorem xorAt_bytes {l : List Int} (h : Bytes l) {k : Nat} {m : Int} (h2 : 0 ≤ m) (h3 : m ≤ 255) : Bytes (xorAt l k m) := fun x hx => by
  rcases List.mem_or_eq_of_mem_set hx with hx | rfl
  · exact h x hx
  · exact xorB_byte (getD_byte h k).1 (getD_byte h k).2 h2 h3
theorem openI_xorAt {f e : ByteArray} {i g : Nat} {j : Int} {p : List Int} (hp : p.length ≤ 106) (bp : Bytes p) {k : Nat} {m : Int} (hk : k < 128) (h2 : 0 < m) (h3 : m ≤ 255) : openI (xorAt (extI f i g p) k m) e j = none := by
  have hb := extI_bytes (name := f) (index := i) (gen := g) hp bp
  have hd := getD_byte hb k
  have hx := xorB_byte hd.1 hd.2 (by omega : 0 ≤ m) h3
  cases h : openI (xorAt (extI f i g p) k m) e j with
  | none => rfl
  | some x => exact absurd (openI_sumOk h) (sumOk_set (extI_sumOk hp) hb hk hx.1 hx.2 (xorB_ne hd.1 hd.2 h2 h3))
theorem held_bytes {B : Dk} {x : ByteArray} {gen : Nat} {ps : List (List Int)} (h : Holds B x gen ps) (hl : ∀ p ∈ ps, p.length ≤ 106) (hb : ∀ p ∈ ps, Bytes p) : ∀ f ∈ halvesL x, ∀ i c, B.cel f i = some c → Bytes c.read := by
  have key : ∀ f, B.at f = (newCels f gen 0 ps).map Cel.syncd → ∀ i c, B.cel f i = some c → Bytes c.read := by
    intro f hf i c hc
    have hc2 := hc
    unfold Dk.cel at hc
    split at hc
    · rename_i h0
      rw [hf, List.getElem?_map] at hc
      have hlt : i.toNat < ps.length := by
        refine Nat.lt_of_not_le fun hn => ?_
        rw [List.getElem?_eq_none (by rw [newCels_length]; omega)] at hc
        cases hc
      have hg := held_cel (k := i.toNat) hf (List.getElem?_eq_getElem hlt)
      rw [show ((i.toNat : Nat) : Int) = i by omega, hc2] at hg
      cases hg
      exact extI_bytes (hl _ (List.getElem_mem hlt)) (hb _ (List.getElem_mem hlt))
    · cases hc
  intro f hf
  rcases List.mem_cons.1 hf with rfl | hf
  · exact key _ h.a
  · rcases List.mem_cons.1 hf with rfl | hf
    · exact key _ h.b
    · cases hf
theorem loadG_lost {A : Dk} {x : ByteArray} {gen : Int} : ∀ (c i k : Nat) (out : List Int), i ≤ k → k < i + c → (getP A x k).1 < 0 → loadG A x gen i c out = none
  | 0, i, k, out, h1, h2, _ => by omega
  | c + 1, i, k, out, h1, h2, h => by
    unfold loadG
    by_cases hk : i = k
    · subst hk
      rw [if_neg (by omega)]
    · split
      · exact loadG_lost c (i + 1) k _ (by omega) (by omega) h
      · rfl
theorem loadP_lost {A : Dk} {x : ByteArray} {gen : Int} {k : Nat} (hk : k < extN A x) (h : (getP A x k).1 < 0) : loadP A x gen = none := by
  unfold loadP
  split
  · rfl
  · exact loadG_lost _ 0 k [] (by omega) (by omega) h
theorem rot_at {A : Dk} {f : ByteArray} {k t : Nat} {m : Int} {I : List Int} (hc : A.cel f k = some (stl I)) (ht : t < 128) : A.rot f k t m = (0, A.set f ((A.at f).set k ⟨xorAt I t m, xorAt I t m, I, I, false⟩)) := by
  unfold Dk.rot
  rw [hc]
  dsimp only
  rw [if_neg (by omega), Int.toNat_natCast, Int.toNat_natCast]
  rfl
theorem getF_none {A : Dk} {i : Int} {f : ByteArray} {st : Int × List Int} {c : Cel} (hc : A.cel f i = some c) (h : openI c.read f i = none) : getF A i st f = st := by
  unfold getF
  rw [hc]
  dsimp only
  rw [h]
theorem cel_set_self {A : Dk} (hs : Sorted A.files) {f : ByteArray} {k : Nat} {c d : Cel} (hc : A.cel f k = some c) : (A.set f ((A.at f).set k d)).cel f k = some d := by
  unfold Dk.cel at hc ⊢
  rw [if_pos (by omega), Int.toNat_natCast] at hc ⊢
  rw [at_set hs, if_pos rfl, List.getElem?_set_self]
  exact (List.getElem?_eq_some_iff.1 hc).1
theorem cel_set_bytes {A : Dk} (hs : Sorted A.files) {f : ByteArray} {k : Nat} {d : Cel} (hd : Bytes d.read) (g : ByteArray) (hb : ∀ i c, A.cel g i = some c → Bytes c.read) : ∀ i c, (A.set f ((A.at f).set k d)).cel g i = some c → Bytes c.read := by
  intro i c hc
  unfold Dk.cel at hc
  split at hc
  · rename_i h0
    rw [at_set hs] at hc
    split at hc
    · rename_i hgf
      subst hgf
      rcases List.mem_or_eq_of_mem_set (List.mem_of_getElem? hc) with hm | rfl
      · obtain ⟨j, hj⟩ := List.getElem?_of_mem hm
        exact hb (j : Int) c (by unfold Dk.cel; rw [if_pos (by omega), Int.toNat_natCast]; exact hj)
      · exact hd
    · exact hb i c (by unfold Dk.cel; rw [if_pos h0]; exact hc)
  · cases hc
structure LostEnd (B : Dk) (x : ByteArray) (k : Nat) : Prop where
  got : (getP B x k).1 < 0
  load : ∀ gen, loadP B x gen = none
  bytes : ∀ f ∈ halvesL x, ∀ i c, B.cel f i = some c → Bytes c.read
/-- With one byte turned in both, the piece is lost. -/
theorem rot_lost {B : Dk} {x : ByteArray} {gen : Nat} {ps : List (List Int)} (h : Holds B x gen ps) (hs : Sorted B.files) (hne : x ++ dotA ≠ x ++ dotB) (hl : ∀ p ∈ ps, p.length ≤ 106) (hb : ∀ p ∈ ps, Bytes p) {k t : Nat} (hk : k < ps.length) (ht : t < 128) {m n : Int} (hm : 0 < m) (hm2 : m ≤ 255) (hn : 0 < n) (hn2 : n ≤ 255) :
    LostEnd ((B.rot (x ++ dotA) k t m).2.rot (x ++ dotB) k t n).2 x k := by
  have hp := List.getElem?_eq_getElem hk
  have lp := hl _ (List.getElem_mem hk)
  have bp := hb _ (List.getElem_mem hk)
  have hB := held_bytes h hl hb
  generalize ps[k] = p at hp lp bp
  have ca := held_cel h.a hp
  have cb := held_cel h.b hp
  have bIa := xorAt_bytes (extI_bytes (name := x ++ dotA) (index := k) (gen := gen) lp bp) (k := t) (m := m) (by omega) hm2
  have bIb := xorAt_bytes (extI_bytes (name := x ++ dotB) (index := k) (gen := gen) lp bp) (k := t) (m := n) (by omega) hn2
  rw [rot_at ca ht]
  dsimp only
  obtain ⟨da, hda⟩ : ∃ da : Cel, da = ⟨xorAt (extI (x ++ dotA) k gen p) t m, xorAt (extI (x ++ dotA) k gen p) t m, extI (x ++ dotA) k gen p, extI (x ++ dotA) k gen p, false⟩ := ⟨_, rfl⟩
  have hs1 : Sorted (B.set (x ++ dotA) ((B.at (x ++ dotA)).set k da)).files := sorted_put _ _ hs
  have cb1 : (B.set (x ++ dotA) ((B.at (x ++ dotA)).set k da)).cel (x ++ dotB) k = some (stl (extI (x ++ dotB) k gen p)) := by
    unfold Dk.cel at cb ⊢
    rw [at_set hs, if_neg hne]
    exact cb
  have ca1 : (B.set (x ++ dotA) ((B.at (x ++ dotA)).set k da)).cel (x ++ dotA) k = some da := cel_set_self hs ca
  have rd : da.read = xorAt (extI (x ++ dotA) k gen p) t m := by rw [hda]
  have hB1 : ∀ f ∈ halvesL x, ∀ i c, (B.set (x ++ dotA) ((B.at (x ++ dotA)).set k da)).cel f i = some c → Bytes c.read := fun f hf => cel_set_bytes hs (by rw [rd]; exact bIa) f (hB f hf)
  have la1 : ((B.set (x ++ dotA) ((B.at (x ++ dotA)).set k da)).at (x ++ dotA)).length = ps.length := by
    rw [at_set hs, if_pos rfl, List.length_set, h.a, List.length_map, newCels_length]
  rw [← hda]
  clear hda
  generalize B.set (x ++ dotA) ((B.at (x ++ dotA)).set k da) = B1 at *
  rw [rot_at cb1 ht]
  dsimp only
  obtain ⟨db, hdb⟩ : ∃ db : Cel, db = ⟨xorAt (extI (x ++ dotB) k gen p) t n, xorAt (extI (x ++ dotB) k gen p) t n, extI (x ++ dotB) k gen p, extI (x ++ dotB) k gen p, false⟩ := ⟨_, rfl⟩
  have rdb : db.read = xorAt (extI (x ++ dotB) k gen p) t n := by rw [hdb]
  rw [← hdb]
  clear hdb
  have cb2 : (B1.set (x ++ dotB) ((B1.at (x ++ dotB)).set k db)).cel (x ++ dotB) k = some db := cel_set_self hs1 cb1
  have ca2 : (B1.set (x ++ dotB) ((B1.at (x ++ dotB)).set k db)).cel (x ++ dotA) k = some da := by
    unfold Dk.cel at ca1 ⊢
    rw [at_set hs1, if_neg (Ne.symm hne)]
    exact ca1
  have hg : getP (B1.set (x ++ dotB) ((B1.at (x ++ dotB)).set k db)) x k = (-1, []) := by
    unfold getP halvesL
    simp only [List.foldl_cons, List.foldl_nil]
    rw [getF_none ca2 (by rw [rd]; exact openI_xorAt lp bp ht hm hm2), getF_none cb2 (by rw [rdb]; exact openI_xorAt lp bp ht hn hn2)]
  have he : k < extN (B1.set (x ++ dotB) ((B1.at (x ++ dotB)).set k db)) x := by
    unfold extN halvesL
    simp only [List.foldl_cons, List.foldl_nil]
    rw [at_set hs1, if_neg (Ne.symm hne), la1]
    omega
  refine ⟨by rw [hg]; decide, fun gen => loadP_lost he (by rw [hg]; decide), fun f hf => cel_set_bytes hs1 (by rw [rdb]; exact bIb) f (hB1 f hf)⟩
end Go.Proofs.YtnpinegpajbkeaaDoor
/- stripe, the plain part: groups of slots. -/
namespace Go.Proofs.YtnpinegpajbkeaaDoor
open Go.RowKit HP
set_option linter.unusedSimpArgs false
set_option linter.unusedVariables false

def partI (l : List Int) (e : Nat) : List Int := (l.drop (105 * e)).take 105
def zipX (a b : List Int) : List Int := List.zipWith xorB a b
def parI (l : List Int) (g : Nat) : Nat → List Int
  | 0 => List.replicate 106 0
  | k + 1 => zipX (parI l g k) (slotI (partI l (3 * g + k)))
def sec (G : List Int) (s : Nat) : List Int := (G.drop (106 * s)).take 106
def splS (G : List Int) (s : Nat) (S : List Int) : List Int := G.take (106 * s) ++ S ++ G.drop (106 * s + 106)
def payS (l : List Int) (g k : Nat) : List Int := if k = 3 then parI l g 3 else partI l (3 * g + k)
def paysS (l : List Int) (n k : Nat) : List (List Int) := (List.range n).map fun g => payS l g k
def stripeF (x : ByteArray) (k : Nat) : ByteArray := if k = 0 then x ++ dot0 else if k = 1 then x ++ dot1 else if k = 2 then x ++ dot2 else x ++ dotP
def groupsN (m : Nat) : Nat := if m = 0 then 1 else (m - 1) / 105 / 3 + 1
def wrT (A : Dk) (gen : Nat) : List (ByteArray × List (List Int)) → Int × Dk
  | [] => (0, A)
  | (f, ps) :: r => if (wrF A f gen 0 ps).1 = 0 then wrT (wrF A f gen 0 ps).2 gen r else wrF A f gen 0 ps
def fsS (name : ByteArray) (l : List Int) : List (ByteArray × List (List Int)) :=
  [(name ++ dot0, paysS l (groupsN l.length) 0), (name ++ dot1, paysS l (groupsN l.length) 1), (name ++ dot2, paysS l (groupsN l.length) 2), (name ++ dotP, paysS l (groupsN l.length) 3)]
def storeS (A : Dk) (name : ByteArray) (gen : Nat) (l : List Int) : Int × Dk := if (dropS A name).1 = 0 then wrT (dropS A name).2 gen (fsS name l) else dropS A name
theorem groupsI_nat (m : Nat) : groupsI m = (groupsN m : Int) := by
  unfold groupsI groupsN
  by_cases h : m = 0
  · subst h; rfl
  · rw [if_neg (by omega), if_neg h]
    omega
theorem groupsN_bounds (m : Nat) : 1 ≤ groupsN m ∧ 315 * (groupsN m - 1) ≤ m ∧ m ≤ 315 * groupsN m := by
  unfold groupsN
  split <;> omega
theorem partI_length (l : List Int) (e : Nat) : (partI l e).length = min 105 (l.length - 105 * e) := by
  unfold partI
  rw [List.length_take, List.length_drop]
theorem partI_le (l : List Int) (e : Nat) : (partI l e).length ≤ 105 := by rw [partI_length]; omega
theorem partI_bytes {l : List Int} (hb : Bytes l) (e : Nat) : Bytes (partI l e) := fun x hx => hb x (List.mem_of_mem_drop (List.mem_of_mem_take hx))
theorem zipX_length (a b : List Int) : (zipX a b).length = min a.length b.length := by unfold zipX; rw [List.length_zipWith]
theorem parI_length (l : List Int) (g : Nat) : ∀ k, (parI l g k).length = 106
  | 0 => List.length_replicate ..
  | k + 1 => by rw [parI, zipX_length, parI_length, slotI_length (partI_le _ _)]; omega
theorem zipX_bytes {a b : List Int} (ha : Bytes a) (hb : Bytes b) : Bytes (zipX a b) := by
  intro x hx
  unfold zipX at hx
  obtain ⟨i, hi, rfl⟩ := List.mem_iff_getElem.1 hx
  rw [List.getElem_zipWith]
  have h1 := ha _ (List.getElem_mem (by rw [List.length_zipWith] at hi; omega : i < a.length))
  have h2 := hb _ (List.getElem_mem (by rw [List.length_zipWith] at hi; omega : i < b.length))
  exact xorB_byte h1.1 h1.2 h2.1 h2.2
theorem parI_bytes {l : List Int} (hb : Bytes l) (g : Nat) : ∀ k, Bytes (parI l g k)
  | 0 => fun x hx => by rw [List.eq_of_mem_replicate hx]; omega
  | k + 1 => zipX_bytes (parI_bytes hb g k) (slotI_bytes (partI_le _ _) (partI_bytes hb _))
theorem payS_length (l : List Int) (g k : Nat) : (payS l g k).length ≤ 106 := by
  unfold payS
  split
  · rw [parI_length]; omega
  · have := partI_le l (3 * g + k); omega
theorem payS_bytes {l : List Int} (hb : Bytes l) (g k : Nat) : Bytes (payS l g k) := by
  unfold payS
  split
  · exact parI_bytes hb g 3
  · exact partI_bytes hb _
theorem payI_slot {p : List Int} (h : p.length ≤ 105) {k : Nat} (hk : k ≠ 3) : payI k (slotI p) = p := by
  unfold payI slotI
  rw [if_neg hk]
  simp
theorem slotI_head (p : List Int) : (slotI p).headD 0 = (p.length : Int) := rfl
theorem sec_get {G : List Int} {s j : Nat} (h : 106 * s + 106 ≤ G.length) : (sec G s)[j]? = if j < 106 then G[106 * s + j]? else none := by
  unfold sec
  rw [List.getElem?_take]
  split
  · rw [List.getElem?_drop]
  · rfl
theorem sec_length {G : List Int} {s : Nat} (h : 106 * s + 106 ≤ G.length) : (sec G s).length = 106 := by
  unfold sec
  rw [List.length_take, List.length_drop]
  omega
theorem spl_length {G S : List Int} {s : Nat} (hS : S.length = 106) (h : 106 * s + 106 ≤ G.length) : (splS G s S).length = G.length := by
  unfold splS
  rw [List.length_append, List.length_append, List.length_take, List.length_drop, hS]
  omega
theorem spl_get {G S : List Int} {s : Nat} (hS : S.length = 106) (h : 106 * s + 106 ≤ G.length) (j : Nat) : (splS G s S)[j]? = if 106 * s ≤ j ∧ j < 106 * s + 106 then S[j - 106 * s]? else G[j]? := by
  unfold splS
  rw [List.append_assoc, List.getElem?_append, List.length_take, Nat.min_eq_left (by omega)]
  by_cases h1 : j < 106 * s
  · rw [if_pos h1, if_neg (by omega), List.getElem?_take, if_pos h1]
  · rw [if_neg h1, List.getElem?_append, hS]
    by_cases h2 : j - 106 * s < 106
    · rw [if_pos h2, if_pos (by omega)]
    · rw [if_neg h2, if_neg (by omega), List.getElem?_drop]
      congr 1
      omega
theorem sec_spl {G S : List Int} {s s' : Nat} (hS : S.length = 106) (h : 106 * s + 106 ≤ G.length) (h' : 106 * s' + 106 ≤ G.length) : sec (splS G s S) s' = if s = s' then S else sec G s' := by
  apply List.ext_getElem?
  intro j
  rw [sec_get (by rw [spl_length hS h]; exact h'), spl_get hS h]
  by_cases hj : j < 106
  · rw [if_pos hj]
    by_cases e : s = s'
    · subst e
      rw [if_pos (by omega), if_pos rfl]
      congr 1
      omega
    · rw [if_neg (by omega), if_neg e, sec_get h', if_pos hj]
  · rw [if_neg hj]
    split
    · rw [List.getElem?_eq_none (by omega)]
    · rw [sec_get h', if_neg hj]
theorem sec_mix {G O : List Int} {s s' : Nat} (hO : O.length = 106) (h : 106 * s + 106 ≤ G.length) (h' : 106 * s' + 106 ≤ G.length) : sec (mixN G (106 * s) O 106) s' = if s = s' then zipX (sec G s) O else sec G s' := by
  apply List.ext_getElem?
  intro j
  rw [sec_get (by rw [mixN_length]; exact h')]
  by_cases hj : j < 106
  · rw [if_pos hj]
    by_cases e : s = s'
    · subst e
      rw [if_pos rfl, mixN_in G (106 * s) O 106 j hj h]
      unfold zipX
      have hs : (sec G s)[j]? = some (G.getD (106 * s + j) 0) := by
        rw [sec_get h, if_pos hj, List.getD_eq_getElem?_getD, List.getElem?_eq_getElem (by omega)]; rfl
      have ho : O[j]? = some (O.getD j 0) := by rw [List.getD_eq_getElem?_getD, List.getElem?_eq_getElem (by omega)]; rfl
      rw [List.getElem?_zipWith, hs, ho]
    · rw [if_neg e, sec_get h', if_pos hj]
      rcases Nat.lt_or_ge s s' with h1 | h1
      · exact mixN_ge _ _ _ _ _ (by omega)
      · exact mixN_lt _ _ _ _ _ (by omega)
  · rw [if_neg hj]
    split
    · rw [List.getElem?_eq_none (by rw [zipX_length, sec_length h, hO]; omega)]
    · rw [sec_get h', if_neg hj]
/-- The groups, so far. -/
structure Grp (l : List Int) (n : Nat) (G : List Int) (g k : Nat) : Prop where
  len : G.length = 424 * n
  slots : ∀ g' k', g' < n → k' < 3 → (g' < g ∨ g' = g ∧ k' < k) → sec G (4 * g' + k') = slotI (partI l (3 * g' + k'))
  par : ∀ g', g' < n → sec G (4 * g' + 3) = parI l g' (if g' < g then 3 else if g' = g then k else 0)
theorem grp_start (l : List Int) (n : Nat) : Grp l n (List.replicate (424 * n) 0) 0 0 := by
  refine ⟨List.length_replicate .., fun g' k' _ _ h => by omega, fun g' hg => ?_⟩
  have : (if g' < 0 then 3 else if g' = 0 then 0 else 0) = 0 := by split <;> (try split) <;> omega
  rw [this]
  unfold sec parI
  rw [List.drop_replicate, List.take_replicate, Nat.min_eq_left (by omega)]
theorem grp_step {l G : List Int} {n g k : Nat} (h : Grp l n G g k) (hg : g < n) (hk : k < 3) : Grp l n (mixN (splS G (4 * g + k) (slotI (partI l (3 * g + k)))) (106 * (4 * g + 3)) (slotI (partI l (3 * g + k))) 106) g (k + 1) := by
  have hS := slotI_length (partI_le l (3 * g + k))
  have hl := h.len
  have i1 : 106 * (4 * g + k) + 106 ≤ G.length := by omega
  have i2 : 106 * (4 * g + 3) + 106 ≤ G.length := by omega
  have l1 := spl_length hS i1
  refine ⟨by rw [mixN_length, l1, hl], fun g' k' hg' hk' ho => ?_, fun g' hg' => ?_⟩
  · rw [sec_mix hS (by rw [l1]; exact i2) (by rw [l1]; omega), if_neg (by omega), sec_spl hS i1 (by omega)]
    by_cases e : 4 * g + k = 4 * g' + k'
    · obtain rfl : g' = g := by omega
      obtain rfl : k' = k := by omega
      rw [if_pos rfl]
    · rw [if_neg e]
      exact h.slots g' k' hg' hk' (by omega)
  · by_cases e : g' = g
    · subst e
      rw [sec_mix hS (by rw [l1]; exact i2) (by rw [l1]; exact i2), if_pos rfl, sec_spl hS i1 i2, if_neg (by omega), h.par g' hg']
      simp only [Nat.lt_irrefl, if_false, if_true]
      rfl
    · rw [sec_mix hS (by rw [l1]; exact i2) (by rw [l1]; omega), if_neg (by omega), sec_spl hS i1 (by omega), if_neg (by omega), h.par g' hg']
      simp only [e, if_false]
theorem grp_next {l G : List Int} {n g : Nat} (h : Grp l n G g 3) (hg : g < n) : Grp l n G (g + 1) 0 := by
  refine ⟨h.len, fun g' k' hg' hk' ho => h.slots g' k' hg' hk' (by omega), fun g' hg' => ?_⟩
  rw [h.par g' hg']
  congr 1
  split
  · rw [if_pos (by omega)]
  · split
    · rw [if_pos (by omega)]
    · rw [if_neg (by omega)]
      split <;> rfl
theorem grp_pay {l G : List Int} {n g k : Nat} (h : Grp l n G n 0) (hg : g < n) (hk : k < 4) : payI k (sec G (4 * g + k)) = payS l g k ∧ (k ≠ 3 → 0 ≤ (sec G (4 * g + k)).headD 0 ∧ (sec G (4 * g + k)).headD 0 ≤ 105) ∧ (sec G (4 * g + k)).length = 106 := by
  have hl := h.len
  refine ⟨?_, fun h3 => ?_, sec_length (by omega)⟩
  · by_cases h3 : k = 3
    · subst h3
      unfold payI payS
      rw [if_pos rfl, if_pos rfl, h.par g hg, if_pos hg]
    · rw [h.slots g k hg (by omega) (by omega), payI_slot (partI_le _ _) h3]
      unfold payS
      rw [if_neg h3]
  · rw [h.slots g k hg (by omega) (by omega), slotI_head]
    have := partI_le l (3 * g + k)
    omega
end Go.Proofs.YtnpinegpajbkeaaDoor
/- 'append(v, make([]T, k)...)' at a row of one's own: the builtin gets the number. -/
namespace Go.Proofs.YtnpinegpajbkeaaDoor
open Go.RowKit HP
set_option linter.unusedSimpArgs false
set_option linter.unusedVariables false

theorem zeros_one (z : Value) (n : Nat) (h : z.cells = #[z]) : Builtin.zeroCells z.cells n = (List.replicate n z).toArray := by
  unfold Builtin.zeroCells
  rw [h]
  apply Array.ext
  · simp
  · intro i h1 h2
    simp [Nat.mod_one]
theorem run_append_zeros {P : Program} {E : Env} {q : HP} {w : World} {v : Value} {n : Nat} {cs : List Value} {e t tn ty : TypeId} {i : TypeInfo} {z : Value} {kq kn : IntKind} {bytes : Nat} (ht : P.underlying t = some (.slice e)) (htn : P.underlying tn = some (.int kn)) (hi : P.info? e = some i) (hz : i.zero = some z)
    (hsize : i.size = 1) (hby : i.bytes = bytes) (hz1 : z.cells = #[z]) (hz2 : z.oneCell' = true)
    (h : Sat E w (row e 1 v n cs * q)) (k : Nat) (h0 : 0 < k) (h63 : n + k ≤ maxLen) (hbytes : (n + k) * bytes ≤ 140737488355328) :
    ∃ v' w', (Builtin.append_ #[t, tn] ty #[v, .int kq k]).run P w = .ok v' w' ∧ Sat E w' (row e 1 v' (n + k) (cs ++ List.replicate k z) * q) := by
  subst hby
  have hsmall : n + k ≤ 9223372036854775807 := by simp only [maxLen] at h63; omega
  have hcl := h.row_cases.1
  rw [Nat.mul_one] at hcl
  have hlen : (cs ++ List.replicate k z).length = n + k := by rw [List.length_append, hcl, List.length_replicate]
  have hkb : k * i.bytes ≤ 140737488355328 := by
    rw [Nat.add_mul] at hbytes
    omega
  have grown : ∀ (old : Nat), old < n + k → Sat E w q →
      Sat E (w.drew.alloc (.cells (cs.toArray ++ Builtin.zeroCells z.cells k ++ Builtin.zeroCells z.cells (grownCap w (n + k) old e - (n + k))) e)) (row e 1 (.slice (some ⟨w.heap.size, 0, none⟩) (n + k) (grownCap w (n + k) old e)) (n + k) (cs ++ List.replicate k z) * q) := by
    intro old ho hq
    have hge := grownCap_ge w (n + k) old e
    have hcm : grownCap w (n + k) old e ≤ maxLen := grownCap_le_maxLen w (n + k) old e h63
    have hs := Sat.row_mk (n := n + k) (cap := grownCap w (n + k) old e) (off := 0) (size := 1) (cs := cs ++ List.replicate k z) (hq.drew.alloc (.cells (cs.toArray ++ Builtin.zeroCells z.cells k ++ Builtin.zeroCells z.cells (grownCap w (n + k) old e - (n + k))) e)) hge hcm ?_ ?_
    · simpa using hs
    · simp only [Array.size_append, List.size_toArray, zeros_one z _ hz1, List.length_replicate, hcl]
      omega
    · rw [zeros_one z _ hz1, zeros_one z _ hz1]
      simp only [Array.toList_append, Nat.zero_mul, List.drop_zero, Nat.mul_one, ← hlen]
      exact List.take_left
  rcases h.row_cases.2 with ⟨B, hv, hn, hq⟩ | ⟨g, off, cap, cur, hv, hnc, hcm, hs, htk, hp⟩
  · subst hv
    subst hn
    have hx : cs = [] := List.eq_nil_of_length_eq_zero hcl
    subst hx
    have hgr := grown 0 (by omega) hq
    cases B with
    | none =>
      have hr := Lib.run_append_nil_zeros (P := P) w t tn ty e i z kq kn ht htn hi hz k h0 (by omega) (by omega) (by omega)
      simp only [Nat.zero_add, List.nil_append, Array.empty_append] at hgr ⊢
      exact ⟨_, _, hr, hgr⟩
    | some b =>
      have hold : (Builtin.firstCells i.size 0 (.slice (some b) 0 0)).run P w.drew = .ok ([] : List Value).toArray w.drew := by
        simp [Builtin.firstCells, loadCells, loadCellsFrom]
      have hr := Lib.run_append_grow_zeros (P := P) w t tn ty e i z kq kn ht htn hi hz (some b) 0 0 [] hold k h0 (by omega) (by omega) (by omega) (by omega) (growslice_fits (by omega) (by simpa using hbytes))
      simp only [Nat.zero_add, List.nil_append, Array.empty_append] at hgr hr ⊢
      exact ⟨_, _, hr, hgr⟩
  · subst hv
    simp only [Nat.mul_one] at hs htk h ⊢
    have hcells : ∀ j u, cs[j]? = some u → w.cell? ((⟨g, off, none⟩ : Addr).add j) = some u := h.row_cells.some_
    by_cases hroom : n + k ≤ cap
    · have hfit : off + n + (List.replicate k z).length ≤ cur.size := by rw [List.length_replicate]; omega
      have hst := run_storeCells_at P g (off + n) e (List.replicate k z) 0 cur w hp.get (by simpa using hfit) (fun u hu => by rw [List.eq_of_mem_replicate hu]; exact hz2)
      simp only [Nat.add_zero] at hst
      have hneg : ¬ ((k : Int) < 0) := by omega
      have hk63 : IntKind.i64.wrap (k : Int) = k := by rw [IntKind.wrap_i64]; omega
      have h48i : ¬ (281474976710656 < (k : Int) * (i.bytes : Int)) := by
        rw [← Int.natCast_mul]
        omega
      have hkn : k ≠ 0 := by omega
      refine ⟨.slice (some ⟨g, off, none⟩) (n + k) cap, w.setRow g (cur.toList.take (off + n) ++ List.replicate k z ++ cur.toList.drop (off + n + (List.replicate k z).length)).toArray, ?_, ?_⟩
      · simp [Builtin.append_, run_underlying ht, run_underlying htn, sizeOf, typeInfo, zeroValue, hi, hz, asInt, asIntOf, hk63, hneg, h48i, hsize, hkn, hroom, Addr.add_lit, zeros_one z _ hz1, hst]
      · have ht' := hp.turn (w' := w.setRow g (cur.toList.take (off + n) ++ List.replicate k z ++ cur.toList.drop (off + n + (List.replicate k z).length)).toArray) (o' := .cells (cur.toList.take (off + n) ++ List.replicate k z ++ cur.toList.drop (off + n + (List.replicate k z).length)).toArray e) ⟨rfl, rfl, rfl, by simp⟩
          (setRow_heap w g cur _ e _ hp.get) (fun j hj _ => setRow_other w g j _ hj)
        have hm := ht'.row_mk (off := off) (size := 1) (n := n + k) (cap := cap) (cs := cs ++ List.replicate k z) hroom hcm ?_ ?_
        · simpa using hm
        · simp only [List.size_toArray, List.length_append, List.length_take, List.length_drop, Array.length_toList, List.length_replicate]
          omega
        · have := splice_take cur.toList (List.replicate k z) off n (by simpa using hfit)
          rw [htk, List.length_replicate] at this
          simp only [Nat.mul_one, List.length_replicate]
          exact this
    · have hold : (Builtin.firstCells i.size n (.slice (some ⟨g, off, none⟩) n cap)).run P w.drew = .ok cs.toArray w.drew := by
        have := run_firstCells_some (P := P) w.drew i.size n ⟨g, off, none⟩ n cap cs (by rw [hsize, hcl]; omega) (fun j u hj => hcells j u hj)
        exact this
      have hr := Lib.run_append_grow_zeros (P := P) w t tn ty e i z kq kn ht htn hi hz (some ⟨g, off, none⟩) n cap cs hold k h0 (by omega) (by omega) (by omega) (by omega) (growslice_fits (by omega) hbytes)
      exact ⟨_, _, hr, grown cap (by omega) hp.right⟩
theorem wpList_append_zeros {P : Program} {E : Env} {q : HP} {w : World} {v : Value} {n : Nat} {cs : List Value} {e t tn : TypeId} {z : Value} {kq kn : IntKind} {bytes : Nat} {ops : Array Oper} {rest : List Oper} {o : Oper} {a : Act} {Q : Exit → Act → World → Prop} {s x : Operand} (T : SlTy P t e z 1 bytes) (htn : P.underlying tn = some (.int kn)) (hz1 : z.cells = #[z]) (hz2 : z.oneCell' = true) (hgd : o.guard = none)
    (ho : o.op = .call { callee := .builtin .append, args := #[s, x], argTypes := #[t, tn] }) {k : Nat} (hs : a.eval s = v) (hx : a.eval x = .int kq k)
    (h : Sat E w (row e 1 v n cs * q)) (h0 : 0 < k) (h63 : n + k ≤ maxLen) (hbytes : (n + k) * bytes ≤ 140737488355328)
    (hk : ∀ v' w', Sat E w' (row e 1 v' (n + k) (cs ++ List.replicate k z) * q) → wpList P ops Q rest (a.put o.dst v') w') : wpList P ops Q (o :: rest) a w := by
  obtain ⟨i, hi, hz, hsize, hby⟩ := info_parts T.info
  obtain ⟨v', w', hr, h2⟩ := run_append_zeros (P := P) (ty := o.type) (kq := kq) T.under htn hi hz hsize hby hz1 hz2 h k h0 h63 hbytes
  exact Lib.wpList_append_run w hgd s x t tn ho v (.int kq k) hs hx v' w' hr (hk v' w' h2)
theorem run_append_zeros0 {P : Program} {E : Env} {q : HP} {w : World} {v : Value} {n : Nat} {cs : List Value} {e t tn ty : TypeId} {i : TypeInfo} {z : Value} {kq kn : IntKind} {bytes : Nat} (ht : P.underlying t = some (.slice e)) (htn : P.underlying tn = some (.int kn)) (hi : P.info? e = some i) (hz : i.zero = some z)
    (hsize : i.size = 1) (hby : i.bytes = bytes) (h : Sat E w (row e 1 v n cs * q)) : (Builtin.append_ #[t, tn] ty #[v, .int kq 0]).run P w = .ok v w := by
  obtain ⟨A, c, rfl, hnc, hcm⟩ := h.row_slice
  have hw0 : IntKind.i64.wrap 0 = 0 := by rw [IntKind.wrap_i64]; omega
  cases A <;> simp [Builtin.append_, run_underlying ht, run_underlying htn, sizeOf, typeInfo, zeroValue, hi, hz, asInt, asIntOf, hsize, hnc, hw0, storeCells]
theorem wpList_append_zeros_any {P : Program} {E : Env} {q : HP} {w : World} {v : Value} {n : Nat} {cs : List Value} {e t tn : TypeId} {z : Value} {kq kn : IntKind} {bytes : Nat} {ops : Array Oper} {rest : List Oper} {o : Oper} {a : Act} {Q : Exit → Act → World → Prop} {s x : Operand} (T : SlTy P t e z 1 bytes) (htn : P.underlying tn = some (.int kn)) (hz1 : z.cells = #[z]) (hz2 : z.oneCell' = true) (hgd : o.guard = none)
    (ho : o.op = .call { callee := .builtin .append, args := #[s, x], argTypes := #[t, tn] }) {k : Nat} (hs : a.eval s = v) (hx : a.eval x = .int kq k)
    (h : Sat E w (row e 1 v n cs * q)) (h63 : n + k ≤ maxLen) (hbytes : (n + k) * bytes ≤ 140737488355328)
    (hk : ∀ v' w', Sat E w' (row e 1 v' (n + k) (cs ++ List.replicate k z) * q) → wpList P ops Q rest (a.put o.dst v') w') : wpList P ops Q (o :: rest) a w := by
  rcases Nat.eq_zero_or_pos k with h0 | h0
  · subst h0
    obtain ⟨i, hi, hz, hsize, hby⟩ := info_parts T.info
    have hr := run_append_zeros0 (P := P) (ty := o.type) (kq := kq) T.under htn hi hz hsize hby h
    exact Lib.wpList_append_run w hgd s x t tn ho v (.int kq 0) hs hx v w hr (hk v w (by simpa using h))
  · exact wpList_append_zeros T htn hz1 hz2 hgd ho hs hx h h0 h63 hbytes hk
end Go.Proofs.YtnpinegpajbkeaaDoor
/- stripe.read. -/
namespace Go.Proofs.YtnpinegpajbkeaaDoor
open Go.RowKit HP
set_option linter.unusedSimpArgs false
set_option linter.unusedVariables false

theorem results_ct {P : Program} {fn : Func} {t u : Tmp} {ty : TypeId} (h : fn.results = #[.cell t ty, .tmp u]) {tmps : Array Value} {w : World} {a : Addr} {V : Value} (ha : tmps.getD t undef = .pointer (some a)) (hr : (loadVar ty a).run P w = .ok V w) : (results fn tmps).run P w = .ok (.tuple #[V, tmps.getD u undef]) w := by
  have ha' : tmps[t]?.getD undef = .pointer (some a) := by simpa using ha
  unfold results
  rw [h]
  simp [ha', asAddr, hr]
def slotZ : List Int := List.replicate 106 0
def readT (file : Nat) (p : List Int) : List Int × Bool := if file = 3 then (p ++ List.replicate (106 - p.length) 0, decide (p.length = 106)) else (slotI (p.take 105), decide (p.length ≤ 105))
/-- The slot of an extent, and whether it is right. -/
def readS (A : Dk) (f : ByteArray) (file : Nat) (gen i : Int) : List Int × Bool :=
  match A.cel f i with
  | none => (slotZ, false)
  | some c => match openI c.read f i with
    | none => (slotZ, false)
    | some x => if (x.2 : Int) ≠ gen then (slotZ, false) else readT file x.1
theorem readT_length (file : Nat) {p : List Int} (h : p.length ≤ 106) : (readT file p).1.length = 106 := by
  unfold readT
  split
  · simp only [List.length_append, List.length_replicate]; omega
  · exact slotI_length (by rw [List.length_take]; omega)
theorem readS_length (A : Dk) (f : ByteArray) (file : Nat) (gen i : Int) : (readS A f file gen i).1.length = 106 := by
  unfold readS
  split
  · rfl
  · split
    · rfl
    · rename_i x hx
      split
      · rfl
      · exact readT_length file (openI_gen (p := x.1) (g := x.2) hx).2
theorem run_store_slot {E : Env} {q : HP} {w : World} {g : Nat} {Z S : List Int} (hZ : Z.length = 106) (hS : S.length = 106) (h : Sat E w (HP.pt g (.cells (b8s Z).toArray 99) * q)) :
    ∃ w', (storeVar 99 ⟨g, 0, none⟩ (.agg (b8s S).toArray)).run Tryd.prog w = .ok () w' ∧ Sat E w' (HP.pt g (.cells (b8s S).toArray 99) * q) := by
  have r2 := run_storeAgg agSlot (g := g) (off := 0) (cs := b8s S) h.get (by rw [b8s_length]; exact hS) (by simp [b8s_length, hZ]) (b8s_one S)
  have h2 := h.splice (splice (b8s Z).toArray.toList 0 (b8s S))
  have e : splice (b8s Z).toArray.toList 0 (b8s S) = b8s S := by
    unfold splice
    rw [List.take_zero, List.nil_append, Nat.zero_add, List.drop_of_length_le (by simp [b8s_length, hS, hZ]), List.append_nil]
  rw [e] at h2 r2
  exact ⟨_, r2, h2⟩
theorem run_load_slot {E : Env} {q : HP} {w : World} {g : Nat} {S : List Int} (hS : S.length = 106) (h : Sat E w (HP.pt g (.cells (b8s S).toArray 99) * q)) : (loadVar 99 ⟨g, 0, none⟩).run Tryd.prog w = .ok (.agg (b8s S).toArray) w :=
  run_loadAgg agSlot (by rw [b8s_length]; exact hS) (Sat.ptCells (off := 0) (l := b8s S) h (by rw [List.drop_zero, List.take_length]))
theorem run_arraySlot (a : Option Addr) (n c : Nat) (h : 106 ≤ n) (w : World) : (Instr.arrayAt 99 (.slice a n c)).run Tryd.prog w = .ok (.pointer a) w := by
  have : ¬ n < 106 := by omega
  simp [Instr.arrayAt, run_underlying Tryd.underlying99, this]
set_option maxHeartbeats 4000000 in
set_option maxRecDepth 100000 in
theorem stripe_read (E : Env) (q : HP) (d : Nat) (A : Dk) (f : ByteArray) (file : Nat) (gen i : Int) (w : World) (hf : f.size ≤ maxLen) (hfl : file < 4) (hby : ∀ c, A.cel f i = some c → Bytes c.read)
    (hq : ∀ w, Sat E w q → Quarter w) (hw : Sat E w (HP.disk d A * q)) :
    Calls Tryd.prog 84 #[.pointer (some ⟨d, 0, none⟩), .string f, .int .i64 file, .int .i64 gen, .int .i64 i] w fun e w' => e = .returned (.tuple #[.agg (b8s (readS A f file gen i).1).toArray, .bool (readS A f file gen i).2]) ∧ Sat E w' (HP.disk d A * q) := by
  have h0 := hw.alloc (.cells Tryd.zeroCells99 99)
  rw [← zero_slot] at h0
  have H0 : Aside (Sat E (w.alloc (.cells Tryd.zeroCells99 99)) (HP.disk d A * (HP.pt w.heap.size (.cells (b8s slotZ).toArray 99) * q))) := ⟨by rw [← zero_slot]; exact h0.perm (by show HP.pt _ (.cells (b8s slotZ).toArray _) * (HP.disk d A * q) = _; ac_rfl)⟩
  have HQ := Aside.mk (And.intro hq hby)
  have HZL : Aside (slotZ.length = 106) := ⟨List.length_replicate ..⟩
  have hz2 : Tryd.zeroCells99 = (b8s slotZ).toArray := zero_slot.symm
  have HZ2 := Aside.mk hz2
  clear hz2 h0 hw hq hby
  go_enter Tryd.func84, Tryd.ntmps84
  go_wp2_with fail
  refine (disk_read_ok E _ d A f i _ hf H0.out).mono ?_
  intro e w3 h3
  generalize w.heap.size = r at *
  unfold readEnd at h3
  cases hc : A.cel f i with
  | none =>
    rw [hc] at h3
    obtain ⟨rfl, h3⟩ := h3
    have HR : Aside (readS A f file gen i = (slotZ, false)) := ⟨by unfold readS; rw [hc]⟩
    obtain ⟨w4, hr4, h4⟩ := run_store_slot HZL.out HZL.out (h3.perm (by ac_rfl : _ = HP.pt r (.cells (b8s slotZ).toArray 99) * (HP.disk d A * q)))
    have rl := run_load_slot HZL.out h4
    have H4 := Aside.mk h4.right
    rw [← HZ2.out] at hr4
    clear h3 h4 hc
    go_wp2_with (first | (refine wpList_store_run rfl rfl rfl rfl rfl hr4 ?_))
    refine bodyPost_ret (results_ct rfl rfl rl) rfl ?_
    rw [HR.out]
    exact ⟨rfl, H4.out⟩
  | some cl =>
    rw [hc] at h3
    obtain ⟨vr, rfl, h3⟩ := h3
    have hbr := HQ.out.2 cl hc
    obtain ⟨Ar, cr, rfl, hcr, -⟩ := h3.row_slice
    have hl128 : cl.read.length = 128 := by
      have := h3.row_cases.1
      rw [b8s_length] at this
      exact this
    have HR0 : Aside (readS A f file gen i = match openI cl.read f i with
      | none => (slotZ, false)
      | some x => if (x.2 : Int) ≠ gen then (slotZ, false) else readT file x.1) := ⟨by unfold readS; rw [hc]⟩
    have H3 := Aside.mk (And.intro h3 (And.intro hbr hl128))
    clear h3 hbr hl128 hc H0
    go_wp2_with fail
    refine (ext_open E _ f i Ar cl.read 128 cr _ hf H3.out.2.2 hcr H3.out.2.1 (fun w h => ⟨HQ.out.1 _ h.right.right.right, h.row_cells⟩) H3.out.1).mono ?_
    rintro e w4 (⟨ho, rfl, h4⟩ | ⟨p, G, vp, ho, rfl, h4⟩)
    · have HR : Aside (readS A f file gen i = (slotZ, false)) := ⟨by rw [HR0.out, ho]⟩
      obtain ⟨w5, hr5, h5⟩ := run_store_slot HZL.out HZL.out (h4.right.perm (by ac_rfl : _ = HP.pt r (.cells (b8s slotZ).toArray 99) * (HP.disk d A * q)))
      have rl := run_load_slot HZL.out h5
      have H5 := Aside.mk h5.right
      rw [← HZ2.out] at hr5
      clear h4 h5 ho HR0 H3
      go_wp2_with (first | (refine wpList_store_run rfl rfl rfl rfl rfl hr5 ?_))
      refine bodyPost_ret (results_ct rfl rfl rl) rfl ?_
      rw [HR.out]
      exact ⟨rfl, H5.out⟩
    · have hgp := openI_gen ho
      have HR1 : Aside (readS A f file gen i = if (G : Int) ≠ gen then (slotZ, false) else readT file p) := ⟨by rw [HR0.out, ho]⟩
      obtain ⟨Av, cv, rfl, hcv, hmv⟩ := h4.row_slice
      have h5 : Sat E w4 (HP.row 5 1 (.slice Av p.length cv) p.length (b8s p) * (HP.pt r (.cells (b8s slotZ).toArray 99) * (HP.disk d A * q))) := (h4.perm (by ac_rfl : _ = HP.row 5 1 (.slice Ar 128 cr) 128 (b8s cl.read) * (HP.row 5 1 (.slice Av p.length cv) p.length (b8s p) * (HP.pt r (.cells (b8s slotZ).toArray 99) * (HP.disk d A * q))))).right
      clear h4 ho HR0 H3 hcr
      by_cases hG : (G : Int) = gen
      · have HR2 : Aside (readS A f file gen i = readT file p) := ⟨by rw [HR1.out, if_neg (fun h => h hG)]⟩
        obtain ⟨n, hn⟩ : ∃ n, n = p.length := ⟨_, rfl⟩
        have hn6 : n ≤ 106 := by rw [hn]; exact hgp.2
        rw [← hn] at h5 hcv ⊢
        have HN := Aside.mk hn
        have hgg : ((G : Int) == gen) = true := by rw [hG]; exact beq_self_eq_true _
        subst hG
        clear hn hgp HR1
        by_cases h3f : file = 3
        · subst h3f
          have H5 := Aside.mk h5
          clear h5
          obtain ⟨S, hS⟩ : ∃ S, S = p ++ List.replicate (106 - n) 0 := ⟨_, rfl⟩
          have hSl : S.length = 106 := by rw [hS, List.length_append, List.length_replicate, ← HN.out]; omega
          have hcs : b8s p ++ List.replicate (106 - n) (.int .u8 0) = b8s S := by rw [hS]; unfold b8s; rw [List.map_append, List.map_replicate]
          have hn1 : n + (106 - n) = 106 := by omega
          obtain ⟨bb, hbb⟩ : ∃ bb, bb = decide (n = 106) := ⟨_, rfl⟩
          have hb1 : ((n : Int) == 106) = bb := by rw [hbb]; by_cases h : n = 106 <;> simp [h] <;> omega
          have HT : Aside (readT 3 p = (S, bb)) := ⟨by unfold readT; rw [if_pos rfl, hS, hbb, HN.out]⟩
          have HS := Aside.mk (And.intro hSl (And.intro hcs hn1))
          clear hSl hcs hn1 hS hbb
          go_wp2_with (first | (refine wpList_load_run rfl rfl rfl rl6 ?_) | (refine wpList_store_run rfl rfl rfl rfl rfl hr7 ?_) | (at_builtin; refine wpList_append_zeros_any slB8 Tryd.underlying3 (by rfl) (by rfl) rfl rfl (k := 106 - n) (by rfl) (by show Value.int .i64 (106 - (n : Int)) = _; congr 1; omega) H5.out (by unfold maxLen; omega) (by omega) (fun v6 w6 hw6 => ?_); rw [HS.out.2.2, HS.out.2.1] at hw6; obtain ⟨A6, c6, rfl, hc6, hm6⟩ := hw6.row_slice; obtain ⟨a6, rfl, -⟩ := hw6.row_cells.at_ 0 (by rw [b8s_length, HS.out.1]; decide); obtain ⟨g6, o6, rfl⟩ := slice_addr hw6.row_cells rfl (k := 0) (by rw [b8s_length, HS.out.1]; decide); have ar := run_arraySlot (some ⟨g6, o6, none⟩) 106 c6 (by omega) w6; have rl6 := run_loadAgg (P := Tryd.prog) agSlot (by rw [b8s_length]; exact HS.out.1) hw6.row_cells; obtain ⟨w7, hr7, h7⟩ := run_store_slot HZL.out HS.out.1 hw6.right; have rl7 := run_load_slot HS.out.1 h7; have H7 := Aside.mk h7.right; clear hw6 h7 H5))
          refine bodyPost_ret (results_ct rfl rfl rl7) rfl ?_
          rw [HR2.out, HT.out]
          exact ⟨rfl, H7.out⟩
        · have h3i : ((file : Int) == 3) = false := by rw [beq_eq_false_iff_ne]; omega
          have h3j : ¬ (file : Int) = 3 := by omega
          have H5 := Aside.mk h5
          clear h5
          obtain ⟨m, hm⟩ : ∃ m, m = min n 105 := ⟨_, rfl⟩
          have hm1 : (if 105 < (n : Int) then 105 else (n : Int)) = (m : Int) := by split <;> omega
          have hm2 : min (n : Int) 105 = (m : Int) := by omega
          have hmn : m ≤ n := by omega
          have hm5 : m ≤ 105 := by omega
          have hmc : m ≤ cv := by omega
          obtain ⟨bb, hbb⟩ : ∃ bb, bb = decide (n ≤ 105) := ⟨_, rfl⟩
          have hb1 : decide ((n : Int) ≤ 105) = bb := by rw [hbb]; by_cases h : n ≤ 105 <;> simp [h] <;> omega
          have HT : Aside (readT file p = (slotI (p.take m), bb)) := ⟨by
            unfold readT
            have e : p.take m = p.take 105 := by rw [hm, Nat.min_comm, ← List.take_take, List.take_of_length_le (show p.length ≤ n by rw [HN.out]; exact Nat.le_refl _)]
            rw [if_neg h3f, hbb, ← HN.out, e]⟩
          have HPL : Aside ((p.take m).length = m) := ⟨by rw [List.length_take, ← HN.out]; omega⟩
          have HC : Aside (∀ w', Sat E w' (HP.row 5 1 (.slice Av n cv) n (b8s p) * (HP.pt r (.cells (b8s slotZ).toArray 99) * (HP.disk d A * q))) → Cells w' Av (b8s (p.take m))) := ⟨fun w' h => by
            have := h.row_cells.take m
            unfold b8s at this ⊢
            rw [List.map_take]; exact this⟩
          clear hbb hm
          go_wp2_with fail
          refine (stripe_of E _ Av (p.take m) m cv _ HPL.out hm5 HC.out H5.out).mono ?_
          rintro e w6 ⟨rfl, h6⟩
          have hS := slotI_length (p := p.take m) (by rw [HPL.out]; exact hm5)
          obtain ⟨w7, hr7, h7⟩ := run_store_slot HZL.out hS h6.right
          have rl7 := run_load_slot hS h7
          have H7 := Aside.mk h7.right
          clear h6 h7 H5 hS hm1 hm2
          go_wp2_with (first | (refine wpList_store_run rfl rfl rfl rfl rfl hr7 ?_))
          refine bodyPost_ret (results_ct rfl rfl rl7) rfl ?_
          rw [HR2.out, HT.out]
          exact ⟨rfl, H7.out⟩
      · have HR : Aside (readS A f file gen i = (slotZ, false)) := ⟨by rw [HR1.out, if_pos hG]⟩
        have hgg : ((G : Int) == gen) = false := by rw [beq_eq_false_iff_ne]; exact hG
        obtain ⟨w6, hr6, h6⟩ := run_store_slot HZL.out HZL.out h5.right
        have rl := run_load_slot HZL.out h6
        have H6 := Aside.mk h6.right
        rw [← HZ2.out] at hr6
        clear h5 h6 HR1 hgp hcv hmv
        go_wp2_with (first | (refine wpList_store_run rfl rfl rfl rfl rfl hr6 ?_))
        refine bodyPost_ret (results_ct rfl rfl rl) rfl ?_
        rw [HR.out]
        exact ⟨rfl, H6.out⟩
end Go.Proofs.YtnpinegpajbkeaaDoor
/- stripe.Store. -/
namespace Go.Proofs.YtnpinegpajbkeaaDoor
open Go.RowKit HP
set_option linter.unusedSimpArgs false
set_option linter.unusedVariables false

theorem wpList_make_run {P : Program} {ops : Array Oper} {rest : List Oper} {o : Oper} {a : Act} {w w' : World} {Q : Exit → Act → World → Prop} {t : TypeId} {x y : Operand} {X Y V : Value} (hg : o.guard = none) (ho : o.op = .makeSlice t x y) (hx : a.eval x = X) (hy : a.eval y = Y)
    (hr : (Instr.makeSlice t X Y).run P w = .ok V w') (hk : wpList P ops Q rest (a.put o.dst V) w') : wpList P ops Q (o :: rest) a w := by
  refine wpList_plain hg fun K hK => ?_
  unfold Oper.wp execOp
  simp only [ho, hx, hy, Sem.run_bind, hr, Result.andThen_ok]
  exact hK _ _ hk
theorem info_four : (Tryd.prog.info? 101).map (fun i => (i.zero.map Value.cells, i.size, i.bytes)) = some (some (b8s (List.replicate 424 0)).toArray, 424, 424) := by kernel_rfl
theorem made_zero (k n : Nat) (hk : 0 < k) : (madeCells (b8s (List.replicate k 0)).toArray (n * k)) = (b8s (List.replicate (k * n) 0)).toArray := by
  apply Array.ext
  · simp [size_madeCells, b8s_length, Nat.mul_comm]
  · intro i h1 h2
    have hm : i % k < k := Nat.mod_lt _ hk
    simp [madeCells, b8s, List.getElem!_eq_getElem?_getD, hm]
theorem made_groups (n : Nat) : (madeCells (b8s (List.replicate 424 0)).toArray (n * 424)) = (b8s (List.replicate (424 * n) 0)).toArray := made_zero 424 n (by decide)
theorem run_make_groups {E : Env} {q : HP} {w : World} (h : Sat E w q) (n : Nat) (hn : n ≤ 1000000000) (kl kc : IntKind) :
    ∃ w', (Instr.makeSlice 97 (.int kl n) (.int kc n)).run Tryd.prog w = .ok (.slice (some ⟨w.heap.size, 0, none⟩) n n) w' ∧ Sat E w' (HP.pt w.heap.size (.cells (b8s (List.replicate (424 * n) 0)).toArray 101) * q) := by
  have hinf := info_four
  cases hi : Tryd.prog.info? 101 with
  | none => rw [hi] at hinf; cases hinf
  | some i =>
    rw [hi] at hinf
    simp only [Option.map_some, Option.some.injEq, Prod.mk.injEq] at hinf
    obtain ⟨hz0, hs, hb⟩ := hinf
    cases hz : i.zero with
    | none => rw [hz] at hz0; cases hz0
    | some z =>
      rw [hz] at hz0
      simp only [Option.map_some, Option.some.injEq] at hz0
      have hr := run_make (P := Tryd.prog) w 97 101 i z Tryd.underlying97 hi hz kl kc n n (by omega) (Int.le_refl _) (by rw [hb]; omega) (by omega)
      rw [Int.toNat_natCast, hs, hz0, made_groups] at hr
      exact ⟨_, hr, h.alloc _⟩
def cutA (Ap : Option Addr) (c a : Nat) : Option Addr := if c = a then Ap else Ap.map (·.add a)
theorem run_cut_bytes (w : World) (Ap : Option Addr) (m c a b : Nat) (h1 : a ≤ b) (h2 : b ≤ c) : (Instr.sliceAt 47 (.slice Ap m c) (some (.int .i64 (a : Int))) (some (.int .i64 (b : Int))) none).run Tryd.prog w = .ok (.slice (cutA Ap c a) (b - a) (c - a)) w := by
  have f1 : (0 : Int) ≤ (b : Int) ∧ (b : Int) ≤ (c : Int) := by omega
  have f2 : (0 : Int) ≤ (a : Int) ∧ (a : Int) ≤ (b : Int) := by omega
  have e6 : (sizeOf 5).run Tryd.prog w = .ok 1 w := by kernel_rfl
  simp [Instr.sliceAt, Instr.slice, run_underlying Tryd.underlying47, Instr.sliceBounds, Instr.sliceBound, asIntOf, f1, f2, h1, h2, e6, cutA]
theorem cut_cells {w : World} {Ap : Option Addr} {l : List Int} {c a b : Nat} (h : Cells w Ap (b8s l)) (h1 : a ≤ b) (h2 : b ≤ c) (h3 : b ≤ l.length) : Cells w (cutA Ap c a) (b8s ((l.drop a).take (b - a))) := by
  unfold cutA
  by_cases e : c = a
  · rw [if_pos e, show b - a = 0 by omega, List.take_zero]
    exact Cells.nil _ _
  · rw [if_neg e]
    cases Ap with
    | none =>
      have : l = [] := by
        cases l with
        | nil => rfl
        | cons x l => obtain ⟨a, ha, _⟩ := h.at_ 0 (by simp [b8s]); cases ha
      subst this
      simp only [List.drop_nil, List.take_nil]
      exact Cells.nil _ _
    | some p =>
      have := (h.drop a).take (b - a)
      unfold b8s at this ⊢
      rw [List.map_take, List.map_drop]
      exact this
theorem part_cut (l : List Int) (e m : Nat) (hm : l.length = m) : (l.drop (min (105 * e) m)).take (min (min (105 * e) m + 105) m - min (105 * e) m) = partI l e := by
  unfold partI
  rcases Nat.lt_or_ge m (105 * e) with h | h
  · rw [Nat.min_eq_right (by omega : m ≤ 105 * e), show min (m + 105) m - m = 0 by omega, List.take_zero, List.drop_of_length_le (by omega), List.take_nil]
  · rw [Nat.min_eq_left h]
    rcases Nat.lt_or_ge m (105 * e + 105) with h2 | h2
    · rw [Nat.min_eq_right (by omega), List.take_of_length_le (by rw [List.length_drop]; omega), List.take_of_length_le (by rw [List.length_drop]; omega)]
    · rw [Nat.min_eq_left h2, show 105 * e + 105 - 105 * e = 105 by omega]
theorem paysS_drop (l : List Int) (n k : Nat) {i : Nat} (h : i < n) : (paysS l n k).drop i = payS l i k :: (paysS l n k).drop (i + 1) := by
  unfold paysS
  rw [List.drop_eq_getElem_cons (by simp; omega)]
  simp
theorem splice_b8s (G S : List Int) (s : Nat) (h : S.length = 106) : splice (b8s G).toArray.toList (106 * s) (b8s S) = b8s (splS G s S) := by
  unfold splice splS b8s
  rw [List.length_map, h, List.map_append, List.map_append, List.map_take, List.map_drop]
end Go.Proofs.YtnpinegpajbkeaaDoor
/- stripe.look. -/
namespace Go.Proofs.YtnpinegpajbkeaaDoor
open Go.RowKit HP
set_option linter.unusedSimpArgs false
set_option linter.unusedVariables false

/-- A group's cells: its slots, which of them are right, how many are not. -/
def gCells (G : List Int) (R : List Bool) (n : Nat) : List Value := b8s G ++ (R.map Value.bool ++ [.int .i64 n])
theorem gCells_length {G : List Int} {R : List Bool} (n : Nat) (hG : G.length = 424) (hR : R.length = 4) : (gCells G R n).length = 429 := by
  unfold gCells
  rw [List.length_append, List.length_append, b8s_length, List.length_map, hG, hR]
  rfl
theorem gCells_one (G : List Int) (R : List Bool) (n : Nat) : (gCells G R n).all Value.oneCell' = true := by
  unfold gCells
  rw [List.all_append, b8s_one, Bool.true_and, List.all_append]
  simp [Value.oneCell']
theorem agGrp : AgTy Tryd.prog 118 429 := ⟨⟨_, Tryd.underlying118, rfl⟩, by kernel_rfl⟩
theorem zero_grp : (gCells (List.replicate 424 0) (List.replicate 4 false) 0).toArray = Tryd.zeroCells118 := by kernel_rfl
theorem gCells_right {G : List Int} {R : List Bool} {n k : Nat} {b : Bool} (hG : G.length = 424) (hR : R[k]? = some b) : (gCells G R n).toArray[424 + k]? = some (.bool b) := by
  rw [List.getElem?_toArray]
  unfold gCells
  have hk : k < R.length := (List.getElem?_eq_some_iff.1 hR).1
  rw [List.getElem?_append_right (by rw [b8s_length]; omega), b8s_length, hG, Nat.add_sub_cancel_left, List.getElem?_append_left (by rw [List.length_map]; exact hk), List.getElem?_map, hR]
  rfl
theorem gCells_bad {G : List Int} {R : List Bool} (n : Nat) (hG : G.length = 424) (hR : R.length = 4) : (gCells G R n).toArray[428]? = some (.int .i64 n) := by
  rw [List.getElem?_toArray]
  unfold gCells
  rw [List.getElem?_append_right (by rw [b8s_length]; omega), b8s_length, hG, List.getElem?_append_right (by rw [List.length_map]; omega), List.length_map, hR]
  rfl
theorem gCells_setR {G : List Int} {R : List Bool} {n k : Nat} (b : Bool) (hG : G.length = 424) (hk : k < R.length) : (gCells G R n).toArray.setIfInBounds (424 + k) (.bool b) = (gCells G (R.set k b) n).toArray := by
  rw [List.setIfInBounds_toArray]
  unfold gCells
  rw [List.set_append_right _ _ (by rw [b8s_length]; omega), b8s_length, hG, Nat.add_sub_cancel_left, List.set_append_left _ _ (by rw [List.length_map]; exact hk), List.map_set]
theorem gCells_setN {G : List Int} {R : List Bool} {n : Nat} (m : Nat) (hG : G.length = 424) (hR : R.length = 4) : (gCells G R n).toArray.setIfInBounds 428 (.int .i64 (m : Int)) = (gCells G R m).toArray := by
  rw [List.setIfInBounds_toArray]
  unfold gCells
  rw [List.set_append_right _ _ (by rw [b8s_length]; omega), b8s_length, hG, List.set_append_right _ _ (by rw [List.length_map]; omega), List.length_map, hR]
  rfl
theorem gCells_spl {G S : List Int} {R : List Bool} {n k : Nat} (hG : G.length = 424) (hk : k < 4) (hS : S.length = 106) : splice (gCells G R n) (106 * k) (b8s S) = gCells (splS G k S) R n := by
  unfold splice gCells splS
  rw [b8s_length, hS, List.take_append_of_le_length (by rw [b8s_length]; omega), List.drop_append_of_le_length (by rw [b8s_length]; omega), b8s_append, b8s_append]
  unfold b8s
  simp only [List.map_take, List.map_drop, List.append_assoc]
theorem gCells_sec {G : List Int} {R : List Bool} {n k : Nat} (hG : G.length = 424) (hk : k < 4) : ((gCells G R n).drop (106 * k)).take 106 = b8s (sec G k) := by
  unfold gCells sec
  rw [List.drop_append_of_le_length (by rw [b8s_length]; omega), List.take_append_of_le_length (by rw [List.length_drop, b8s_length]; omega)]
  unfold b8s
  rw [List.map_take, List.map_drop]
def slotOf (A : Dk) (x : ByteArray) (gen i : Int) (k : Nat) : List Int × Bool := readS A (stripeF x k) k gen i
def badN (A : Dk) (x : ByteArray) (gen i : Int) : Nat → Nat
  | 0 => 0
  | k + 1 => badN A x gen i k + (if (slotOf A x gen i k).2 = true then 0 else 1)
theorem badN_le (A : Dk) (x : ByteArray) (gen i : Int) : ∀ k, badN A x gen i k ≤ k
  | 0 => Nat.le_refl _
  | k + 1 => by
    have := badN_le A x gen i k
    rw [badN]
    split <;> omega
/-- What is left of a group, so far. -/
structure Looked (A : Dk) (x : ByteArray) (gen i : Int) (k : Nat) (G : List Int) (R : List Bool) (n : Nat) : Prop where
  len : G.length = 424
  rlen : R.length = 4
  slot : ∀ j, j < k → sec G j = (slotOf A x gen i j).1
  right : ∀ j, j < k → R[j]? = some (slotOf A x gen i j).2
  bad : n = badN A x gen i k
theorem looked_start (A : Dk) (x : ByteArray) (gen i : Int) : Looked A x gen i 0 (List.replicate 424 0) (List.replicate 4 false) 0 := ⟨List.length_replicate .., List.length_replicate .., fun j h => by omega, fun j h => by omega, rfl⟩
theorem looked_step {A : Dk} {x : ByteArray} {gen i : Int} {k : Nat} {G : List Int} {R : List Bool} {n : Nat} (h : Looked A x gen i k G R n) (hk : k < 4) : Looked A x gen i (k + 1) (splS G k (slotOf A x gen i k).1) (R.set k (slotOf A x gen i k).2) (n + (if (slotOf A x gen i k).2 = true then 0 else 1)) := by
  have hS : (slotOf A x gen i k).1.length = 106 := readS_length _ _ _ _ _
  have hl := h.len
  refine ⟨by rw [spl_length hS (by omega), hl], by rw [List.length_set, h.rlen], fun j hj => ?_, fun j hj => ?_, by rw [badN, h.bad]⟩
  · rw [sec_spl hS (by omega) (by omega)]
    split
    · rename_i e
      rw [e]
    · exact h.slot j (by omega)
  · rw [List.getElem?_set]
    by_cases e : k = j
    · subst e
      rw [if_pos rfl, if_pos (by rw [h.rlen]; exact hk)]
    · rw [if_neg e]
      exact h.right j (by omega)
theorem stripeF_0 (x : ByteArray) : stripeF x 0 = x ++ dot0 := rfl
theorem stripeF_1 (x : ByteArray) : stripeF x 1 = x ++ dot1 := rfl
theorem stripeF_2 (x : ByteArray) : stripeF x 2 = x ++ dot2 := rfl
theorem stripeF_3 (x : ByteArray) : stripeF x 3 = x ++ dotP := rfl
end Go.Proofs.YtnpinegpajbkeaaDoor
/- A slot by the others, in plain words. -/
namespace Go.Proofs.YtnpinegpajbkeaaDoor
open Go.RowKit HP
set_option linter.unusedSimpArgs false
set_option linter.unusedVariables false

/-- What the others make of a slot. -/
def xorO (f : Nat → List Int) (k : Nat) : Nat → List Int
  | 0 => List.replicate 106 0
  | j + 1 => if j = k then xorO f k j else zipX (xorO f k j) (f j)
theorem xorO_length {f : Nat → List Int} (h : ∀ j, (f j).length = 106) (k : Nat) : ∀ j, (xorO f k j).length = 106
  | 0 => List.length_replicate ..
  | j + 1 => by
    unfold xorO
    split
    · exact xorO_length h k j
    · rw [zipX_length, xorO_length h k j, h]; omega
theorem xorO_bytes {f : Nat → List Int} (h : ∀ j, Bytes (f j)) (k : Nat) : ∀ j, Bytes (xorO f k j)
  | 0 => fun x hx => by rw [List.eq_of_mem_replicate hx]; omega
  | j + 1 => by
    unfold xorO
    split
    · exact xorO_bytes h k j
    · exact zipX_bytes (xorO_bytes h k j) (h j)
theorem xorO_ext {f g : Nat → List Int} (k : Nat) : ∀ j, (∀ i, i < j → i ≠ k → f i = g i) → xorO f k j = xorO g k j
  | 0, _ => rfl
  | j + 1, h => by
    unfold xorO
    rw [xorO_ext k j fun i hi => h i (by omega)]
    split
    · rfl
    · rename_i hne
      rw [h j (by omega) hne]
def fineS (S : List Int) : Bool := decide (S.headD 0 ≤ 105) && (S.drop (1 + (S.headD 0).toNat)).all fun x => decide (x = 0)
def slotsL (A : Dk) (x : ByteArray) (gen i : Int) (j : Nat) : List Int := (slotOf A x gen i j).1
theorem slotsL_length (A : Dk) (x : ByteArray) (gen i : Int) (j : Nat) : (slotsL A x gen i j).length = 106 := readS_length _ _ _ _ _
def missP (A : Dk) (x : ByteArray) (gen i : Int) (k : Nat) : List Int := xorO (slotsL A x gen i) k 4
def atF (A : Dk) (x : ByteArray) (gen i : Int) (k : Nat) : List Int × Bool :=
  if (slotOf A x gen i k).2 = true then ((slotOf A x gen i k).1, true)
  else if 1 < badN A x gen i 4 then (slotZ, false)
  else (missP A x gen i k, decide (k = 3) || fineS (missP A x gen i k))
theorem mix_zip {L O : List Int} (hL : L.length = 106) (hO : O.length = 106) : mixN L 0 O 106 = zipX L O := by
  have h := sec_mix (G := L) (O := O) (s := 0) (s' := 0) hO (by omega) (by omega)
  rw [if_pos rfl] at h
  have e : ∀ X : List Int, X.length = 106 → sec X 0 = X := fun X hX => by
    unfold sec
    rw [Nat.mul_zero, List.drop_zero, List.take_of_length_le (by omega)]
  rw [Nat.mul_zero] at h
  rw [e _ (by rw [mixN_length]; exact hL), e _ hL] at h
  exact h
end Go.Proofs.YtnpinegpajbkeaaDoor
/- stripe.Mend in plain words; what a slot told by the others is. -/
namespace Go.Proofs.YtnpinegpajbkeaaDoor
open Go.RowKit HP
set_option linter.unusedSimpArgs false
set_option linter.unusedVariables false

/-- An extent written, and its file synced. -/
def mend1 (A : Dk) (f : ByteArray) (i gen : Nat) (p : List Int) : (Bool × Int) × Dk :=
  if (A.write f i (extI f i gen p)).1 = 0 then
    ((decide (((A.write f i (extI f i gen p)).2.sync f).1 = 0), ((A.write f i (extI f i gen p)).2.sync f).1), ((A.write f i (extI f i gen p)).2.sync f).2)
  else ((false, (A.write f i (extI f i gen p)).1), (A.write f i (extI f i gen p)).2)
def firstBad (A : Dk) (x : ByteArray) (gen i : Int) : Option Nat := [0, 1, 2, 3].find? fun k => !(slotOf A x gen i k).2
theorem firstBad_at {A : Dk} {x : ByteArray} {gen i : Int} {k : Nat} (hk : k < 4) (hb : ∀ j, j < k → (slotOf A x gen i j).2 = true) (hr : (slotOf A x gen i k).2 = false) : firstBad A x gen i = some k := by
  unfold firstBad
  have hc : k = 0 ∨ k = 1 ∨ k = 2 ∨ k = 3 := by omega
  rcases hc with h0 | h0 | h0 | h0 <;> subst h0
  · simp [List.find?, hr]
  · simp [List.find?, hr, hb 0 (by omega)]
  · simp [List.find?, hr, hb 0 (by omega), hb 1 (by omega)]
  · simp [List.find?, hr, hb 0 (by omega), hb 1 (by omega), hb 2 (by omega)]
theorem firstBad_none {A : Dk} {x : ByteArray} {gen i : Int} (hb : ∀ j, j < 4 → (slotOf A x gen i j).2 = true) : firstBad A x gen i = none := by
  unfold firstBad
  simp [List.find?, hb 0 (by omega), hb 1 (by omega), hb 2 (by omega), hb 3 (by omega)]
def mendK (A : Dk) (x : ByteArray) (gen i : Int) : Option Nat → (Bool × Int) × Dk
  | none => ((false, 0), A)
  | some k => if (atF A x gen i k).2 = true then mend1 A (stripeF x k) i.toNat gen.toNat (payI k (atF A x gen i k).1) else ((false, 50), A)
def mendS (A : Dk) (x : ByteArray) (gen i : Int) : (Bool × Int) × Dk := if i < 0 ∨ 2147483647 < i then ((false, 1), A) else mendK A x gen i (firstBad A x gen i)
theorem openI_byt {b : List Int} {f : ByteArray} {i : Int} {x : List Int × Nat} (h : openI b f i = some x) (hb : Bytes b) : Bytes x.1 := by
  unfold openI at h
  split at h
  · cases h
  · split at h
    · cases h
    · split at h
      · cases h
      · simp only [Option.some.injEq] at h
        rw [← h]
        exact fun x hx => hb x (List.mem_of_mem_drop (List.mem_of_mem_take hx))
theorem readT_byt {file : Nat} {p : List Int} (h : p.length ≤ 106) (hb : Bytes p) : Bytes (readT file p).1 := by
  unfold readT
  split
  · refine hb.append fun x hx => ?_
    rw [List.eq_of_mem_replicate hx]; omega
  · exact slotI_bytes (by rw [List.length_take]; omega) fun x hx => hb x (List.mem_of_mem_take hx)
theorem readS_byt {A : Dk} {f : ByteArray} {file : Nat} {gen i : Int} (hb : ∀ c, A.cel f i = some c → Bytes c.read) : Bytes (readS A f file gen i).1 := by
  have hz : Bytes slotZ := fun x hx => by rw [List.eq_of_mem_replicate hx]; omega
  unfold readS
  cases hc : A.cel f i with
  | none => exact hz
  | some c =>
    dsimp only
    cases ho : openI c.read f i with
    | none => exact hz
    | some x =>
      dsimp only
      split
      · exact hz
      · exact readT_byt (openI_gen (p := x.1) (g := x.2) ho).2 (openI_byt ho (hb c hc))
theorem readS_gen {A : Dk} {f : ByteArray} {file : Nat} {gen i : Int} (h : (readS A f file gen i).2 = true) : 0 ≤ gen ∧ gen ≤ 4611686018427387904 := by
  unfold readS at h
  cases hc : A.cel f i with
  | none => rw [hc] at h; cases h
  | some c =>
    rw [hc] at h
    dsimp only at h
    cases ho : openI c.read f i with
    | none => rw [ho] at h; cases h
    | some x =>
      rw [ho] at h
      dsimp only at h
      by_cases hg : (x.2 : Int) ≠ gen
      · rw [if_pos hg] at h; cases h
      · have hg2 : (x.2 : Int) = gen := by omega
        have := (openI_gen (p := x.1) (g := x.2) ho).1
        omega
theorem atF_length (A : Dk) (x : ByteArray) (gen i : Int) (k : Nat) : (atF A x gen i k).1.length = 106 := by
  unfold atF
  split
  · exact readS_length _ _ _ _ _
  · split
    · exact List.length_replicate ..
    · exact xorO_length (slotsL_length A x gen i) k 4
theorem atF_byt {A : Dk} {x : ByteArray} {gen i : Int} {k : Nat} (hk : k < 4) (hb : ∀ j, j < 4 → Bytes (slotsL A x gen i j)) : Bytes (atF A x gen i k).1 := by
  unfold atF
  split
  · exact hb k hk
  · split
    · exact fun y hy => by rw [List.eq_of_mem_replicate hy]; omega
    · unfold missP
      have h4 : xorO (slotsL A x gen i) k 4 = xorO (fun j => if j < 4 then slotsL A x gen i j else List.replicate 106 0) k 4 := xorO_ext k 4 fun j hj _ => by rw [if_pos hj]
      rw [h4]
      refine xorO_bytes (fun j => ?_) k 4
      split
      · rename_i h; exact hb j h
      · exact fun y hy => by rw [List.eq_of_mem_replicate hy]; omega
/-- What is told of the others has a generation, and a length. -/
theorem atF_miss {A : Dk} {x : ByteArray} {gen i : Int} {k : Nat} (hk : k < 4) (hr : (slotOf A x gen i k).2 = false) (h : (atF A x gen i k).2 = true) : (0 ≤ gen ∧ gen ≤ 4611686018427387904) ∧ (k ≠ 3 → (atF A x gen i k).1.headD 0 ≤ 105) := by
  have e : atF A x gen i k = if 1 < badN A x gen i 4 then (slotZ, false) else (missP A x gen i k, decide (k = 3) || fineS (missP A x gen i k)) := by
    unfold atF
    rw [if_neg (by rw [hr]; decide)]
  by_cases hb : 1 < badN A x gen i 4
  · rw [e, if_pos hb] at h; cases h
  rw [e, if_neg hb] at h ⊢
  constructor
  · obtain ⟨j, hj, hjr⟩ : ∃ j, j < 4 ∧ (slotOf A x gen i j).2 = true := by
      have h0 : badN A x gen i 4 = (if (slotOf A x gen i 0).2 = true then 0 else 1) + (if (slotOf A x gen i 1).2 = true then 0 else 1) + (if (slotOf A x gen i 2).2 = true then 0 else 1) + (if (slotOf A x gen i 3).2 = true then 0 else 1) := by
        simp only [badN]; omega
      by_cases a0 : (slotOf A x gen i 0).2 = true
      · exact ⟨0, by omega, a0⟩
      by_cases a1 : (slotOf A x gen i 1).2 = true
      · exact ⟨1, by omega, a1⟩
      rw [if_neg a0, if_neg a1] at h0
      omega
    exact readS_gen hjr
  · intro hk3
    rw [decide_eq_false hk3, Bool.false_or] at h
    unfold fineS at h
    simp only [Bool.and_eq_true, decide_eq_true_eq] at h
    exact h.1
end Go.Proofs.YtnpinegpajbkeaaDoor
/- stripe, the plain part: a text stored on a new disk. -/
namespace Go.Proofs.YtnpinegpajbkeaaDoor
open Go.RowKit HP
set_option linter.unusedSimpArgs false
set_option linter.unusedVariables false

/-- Files written whole, one behind the other, on a disk that has none of them. -/
structure FilesEnd (A B : Dk) (gen : Nat) (fs : List (ByteArray × List (List Int))) : Prop where
  sorted : Sorted B.files
  fuse : B.fuse = -1
  room : B.room = A.room
  size : sizeF B.files = sizeF A.files + (fs.map fun x => x.2.length).sum
  others : ∀ t, (∀ x ∈ fs, x.1 ≠ t) → B.at t = A.at t
  held : ∀ x ∈ fs, B.at x.1 = (newCels x.1 gen 0 x.2).map Cel.syncd
theorem wrT_new {gen : Nat} (hg : (gen : Int) ≤ 4611686018427387904) : ∀ (fs : List (ByteArray × List (List Int))) (A : Dk), Sorted A.files → A.fuse = -1 → (∀ x ∈ fs, namedB x.1 = true ∧ A.at x.1 = [] ∧ 0 < x.2.length ∧ x.2.length ≤ 2147483647 ∧ ∀ p ∈ x.2, p.length ≤ 106) → fs.Pairwise (fun x y => x.1 ≠ y.1) → (((fs.map fun x => x.2.length).sum : Nat) : Int) ≤ A.free →
    ∃ B, wrT A gen fs = (0, B) ∧ FilesEnd A B gen fs
  | [], A, hs, he, _, _, _ => ⟨A, rfl, hs, he, rfl, by simp, fun _ _ => rfl, fun x hx => by cases hx⟩
  | (f, ps) :: fs, A, hs, he, hx, hp, hf => by
    obtain ⟨h1, h2, h3, h4, h5⟩ := hx (f, ps) (List.mem_cons_self ..)
    simp only at h1 h2 h3 h4 h5
    simp only [List.map_cons, List.sum_cons] at hf
    obtain ⟨B1, e1, F1, -⟩ := wrF_fresh h1 hg ps A 0 hs he (by rw [h2]; rfl) (by omega) h5 (by omega) (by omega)
    have g1 := wrF_cels h1 hg ps A 0 hs he (by rw [h2]; rfl) (by omega) h5 (by omega) (by omega)
    rw [e1, h2, List.nil_append] at g1
    rw [List.pairwise_cons] at hp
    obtain ⟨B2, e2, F2⟩ := wrT_new hg fs B1 F1.sorted F1.fuse (fun x hx2 => by
      obtain ⟨k1, k2, k3⟩ := hx x (List.mem_cons_of_mem _ hx2)
      exact ⟨k1, by rw [F1.others _ (hp.1 x hx2)]; exact k2, k3⟩) hp.2 (by
        have := F1.size
        have := F1.room
        unfold Dk.free at hf ⊢
        omega)
    refine ⟨B2, ?_, F2.sorted, F2.fuse, F2.room.trans F1.room, ?_, fun t ht => ?_, fun x hx2 => ?_⟩
    · unfold wrT
      rw [e1, if_pos rfl]
      exact e2
    · rw [F2.size, F1.size, List.map_cons, List.sum_cons]
      simp only
      omega
    · rw [F2.others t (fun x hx2 => ht x (List.mem_cons_of_mem _ hx2)), F1.others t (ht (f, ps) (List.mem_cons_self ..))]
    · rcases List.mem_cons.1 hx2 with rfl | hx3
      · rw [F2.others f (fun y hy => Ne.symm (hp.1 y hy))]
        exact g1
      · exact F2.held x hx3
structure FourNames (x : ByteArray) : Prop where
  n0 : namedB (x ++ dot0) = true
  n1 : namedB (x ++ dot1) = true
  n2 : namedB (x ++ dot2) = true
  n3 : namedB (x ++ dotP) = true
  ne : [x ++ dot0, x ++ dot1, x ++ dot2, x ++ dotP].Pairwise (· ≠ ·)
theorem fourX : FourNames exS := ⟨by kernel_rfl, by kernel_rfl, by kernel_rfl, by kernel_rfl, by decide⟩
theorem paysS_length (l : List Int) (n k : Nat) : (paysS l n k).length = n := by unfold paysS; rw [List.length_map, List.length_range]
theorem paysS_mem {l p : List Int} {n k : Nat} (h : p ∈ paysS l n k) : ∃ g, g < n ∧ p = payS l g k := by
  unfold paysS at h
  obtain ⟨g, hg, rfl⟩ := List.mem_map.1 h
  exact ⟨g, List.mem_range.1 hg, rfl⟩

/-- A text that stands on a disk. -/
structure StHas (room : Int) (x : ByteArray) (gen : Nat) (l : List Int) (B : Dk) : Prop where
  eq : storeS (Dk.new room) x gen l = (0, B)
  sorted : Sorted B.files
  fuse : B.fuse = -1
  free : B.free = room - 4 * (groupsN l.length : Int)
  held : ∀ k, k < 4 → B.at (stripeF x k) = (newCels (stripeF x k) gen 0 (paysS l (groupsN l.length) k)).map Cel.syncd
theorem storeS_new {room : Int} {x : ByteArray} {gen : Nat} {l : List Int} (N : FourNames x) (hg : (gen : Int) ≤ 4611686018427387904) (hr : 4 * (groupsN l.length : Int) ≤ room) (hm : groupsN l.length ≤ 2147483647) : ∃ B, StHas room x gen l B := by
  have hb := groupsN_bounds l.length
  have hs0 : Sorted (Dk.new room).files := List.Pairwise.nil
  have hd : dropS (Dk.new room) x = (0, Dk.new room) := rfl
  have hfs : fsS x l = [(x ++ dot0, paysS l (groupsN l.length) 0), (x ++ dot1, paysS l (groupsN l.length) 1), (x ++ dot2, paysS l (groupsN l.length) 2), (x ++ dotP, paysS l (groupsN l.length) 3)] := rfl
  have hsum : ((fsS x l).map fun y => y.2.length).sum = 4 * groupsN l.length := by
    rw [hfs]
    simp only [List.map_cons, List.map_nil, List.sum_cons, List.sum_nil, paysS_length]
    omega
  have hall : ∀ k, ∀ p ∈ paysS l (groupsN l.length) k, p.length ≤ 106 := fun k p hp => by
    obtain ⟨g, -, rfl⟩ := paysS_mem hp
    exact payS_length l g k
  obtain ⟨B, hB, F⟩ := wrT_new hg (fsS x l) (Dk.new room) hs0 rfl (fun y hy => by
    rw [hfs] at hy
    simp only [List.mem_cons, List.not_mem_nil, or_false] at hy
    rcases hy with rfl | rfl | rfl | rfl
    · exact ⟨N.n0, rfl, by simp only [paysS_length]; omega, by simp only [paysS_length]; exact hm, hall 0⟩
    · exact ⟨N.n1, rfl, by simp only [paysS_length]; omega, by simp only [paysS_length]; exact hm, hall 1⟩
    · exact ⟨N.n2, rfl, by simp only [paysS_length]; omega, by simp only [paysS_length]; exact hm, hall 2⟩
    · exact ⟨N.n3, rfl, by simp only [paysS_length]; omega, by simp only [paysS_length]; exact hm, hall 3⟩) (by
      have := N.ne
      rw [hfs]
      simpa using this) (by
      rw [hsum]
      show ((4 * groupsN l.length : Nat) : Int) ≤ room - (0 : Nat)
      omega)
  refine ⟨B, ?_, F.sorted, F.fuse, ?_, fun k hk => ?_⟩
  · unfold storeS
    rw [hd, if_pos rfl]
    exact hB
  · have h1 := F.size
    have h2 := F.room
    rw [hsum] at h1
    have h3 : sizeF (Dk.new room).files = 0 := rfl
    have h4 : (Dk.new room).room = room := rfl
    unfold Dk.free
    omega
  · have hc : k = 0 ∨ k = 1 ∨ k = 2 ∨ k = 3 := by omega
    rw [hfs] at F
    rcases hc with rfl | rfl | rfl | rfl
    · exact F.held (x ++ dot0, paysS l (groupsN l.length) 0) (by simp)
    · exact F.held (x ++ dot1, paysS l (groupsN l.length) 1) (by simp)
    · exact F.held (x ++ dot2, paysS l (groupsN l.length) 2) (by simp)
    · exact F.held (x ++ dotP, paysS l (groupsN l.length) 3) (by simp)
end Go.Proofs.YtnpinegpajbkeaaDoor
/- stripe.Part, the plain part: what is read of slots that a text was stored in. -/
namespace Go.Proofs.YtnpinegpajbkeaaDoor
open Go.RowKit HP
set_option linter.unusedSimpArgs false
set_option linter.unusedVariables false

/-- A part of a text, slot by slot. -/
def partM (at_ : Nat → Nat → List Int × Bool) : Nat → Nat → Nat → List Int → Option (List Int)
  | 0, _, _, out => some out
  | c + 1, fr, en, out =>
    if fr < en then
      if (at_ (fr / 105 / 3) (fr / 105 % 3)).2 = true ∧ ((fr % 105 + min (105 - fr % 105) (en - fr) : Nat) : Int) ≤ (at_ (fr / 105 / 3) (fr / 105 % 3)).1.headD 0 then
        partM at_ c (fr + min (105 - fr % 105) (en - fr)) en (out ++ ((at_ (fr / 105 / 3) (fr / 105 % 3)).1.drop (1 + fr % 105)).take (min (105 - fr % 105) (en - fr)))
      else none
    else some out
theorem part_slot {l : List Int} {e sk nn : Nat} (h : ((sk + nn : Nat) : Int) ≤ (slotI (partI l e)).headD 0) : ((slotI (partI l e)).drop (1 + sk)).take nn = (l.drop (105 * e + sk)).take nn ∧ (0 < nn → 105 * e + sk + nn ≤ l.length) := by
  rw [slotI_head, partI_length] at h
  have hl := partI_length l e
  refine ⟨?_, fun h0 => by omega⟩
  unfold slotI
  rw [Nat.add_comm 1 sk, List.drop_succ_cons, List.drop_append_of_le_length (by omega), List.take_append_of_le_length (by rw [List.length_drop]; omega)]
  unfold partI
  rw [List.drop_take, List.take_take, List.drop_drop, Nat.min_eq_left (by omega)]
/-- What the slots of a text are told as, if they are. -/
structure AtText (l : List Int) (at_ : Nat → Nat → List Int × Bool) : Prop where
  right : ∀ i k, k < 3 → (at_ i k).2 = true → (at_ i k).1 = slotI (partI l (3 * i + k))
theorem partM_sound {l : List Int} {at_ : Nat → Nat → List Int × Bool} (hA : AtText l at_) : ∀ (c fr en : Nat) (out r : List Int), fr ≤ en → en ≤ fr + c → partM at_ c fr en out = some r → r = out ++ (l.drop fr).take (en - fr) ∧ (fr < en → en ≤ l.length)
  | 0, fr, en, out, r, h1, h2, h => by
    obtain rfl : fr = en := by omega
    simp only [partM, Option.some.injEq] at h
    refine ⟨by rw [← h, Nat.sub_self, List.take_zero, List.append_nil], fun h => by omega⟩
  | c + 1, fr, en, out, r, h1, h2, h => by
    unfold partM at h
    split at h
    · rename_i hlt
      split at h
      · rename_i hok
        have hs := hA.right (fr / 105 / 3) (fr / 105 % 3) (Nat.mod_lt _ (by decide)) hok.1
        have he : 3 * (fr / 105 / 3) + fr / 105 % 3 = fr / 105 := by omega
        rw [he] at hs
        rw [hs] at h hok
        obtain ⟨hp, hb⟩ := part_slot hok.2
        have hfr : 105 * (fr / 105) + fr % 105 = fr := by omega
        rw [hfr] at hp hb
        rw [hp] at h
        obtain ⟨nn, hnn⟩ : ∃ nn, nn = min (105 - fr % 105) (en - fr) := ⟨_, rfl⟩
        rw [← hnn] at h hb
        have hn0 : 0 < nn := by omega
        obtain ⟨hr, hl⟩ := partM_sound hA c (fr + nn) en _ r (by omega) (by omega) h
        refine ⟨?_, fun _ => ?_⟩
        · rw [hr, List.append_assoc]
          congr 1
          rw [← List.drop_drop, show en - (fr + nn) = en - fr - nn by omega, show en - fr = nn + (en - fr - nn) by omega, List.take_add]
          rw [show nn + (en - fr - nn) - nn = en - fr - nn by omega]
        · have := hb hn0
          by_cases h3 : fr + nn < en
          · exact hl h3
          · omega
      · cases h
    · rename_i hlt
      obtain rfl : fr = en := by omega
      simp only [Option.some.injEq] at h
      refine ⟨by rw [← h, Nat.sub_self, List.take_zero, List.append_nil], fun h => by omega⟩
theorem partM_whole {l : List Int} {at_ : Nat → Nat → List Int × Bool} (hA : AtText l at_) (hr : ∀ i k, k < 3 → i < groupsN l.length → (at_ i k).2 = true) : ∀ (c fr en : Nat) (out : List Int), fr ≤ en → en ≤ l.length → ∃ r, partM at_ c fr en out = some r
  | 0, fr, en, out, h1, h2 => ⟨_, rfl⟩
  | c + 1, fr, en, out, h1, h2 => by
    have hg := groupsN_bounds l.length
    unfold partM
    split
    · rename_i hlt
      have hk : fr / 105 % 3 < 3 := Nat.mod_lt _ (by decide)
      have hi : fr / 105 / 3 < groupsN l.length := by omega
      have hok := hr (fr / 105 / 3) (fr / 105 % 3) hk hi
      have hs := hA.right _ _ hk hok
      have he : 3 * (fr / 105 / 3) + fr / 105 % 3 = fr / 105 := by omega
      rw [he] at hs
      have hc : ((fr % 105 + min (105 - fr % 105) (en - fr) : Nat) : Int) ≤ (at_ (fr / 105 / 3) (fr / 105 % 3)).1.headD 0 := by
        rw [hs, slotI_head, partI_length]
        omega
      rw [if_pos ⟨hok, hc⟩]
      exact partM_whole hA hr c _ en _ (by omega) h2
    · exact ⟨_, rfl⟩
/-- What is read of a text that is whole. -/
theorem partM_read {l : List Int} {at_ : Nat → Nat → List Int × Bool} (hA : AtText l at_) (hr : ∀ i k, k < 3 → i < groupsN l.length → (at_ i k).2 = true) {fr en : Nat} (h1 : fr ≤ en) (h2 : en ≤ l.length) : partM at_ en fr en [] = some ((l.drop fr).take (en - fr)) := by
  obtain ⟨r, h⟩ := partM_whole hA hr en fr en [] h1 h2
  rw [h, (partM_sound hA en fr en [] r h1 (by omega) h).1, List.nil_append]
theorem partM_beyond {l : List Int} {at_ : Nat → Nat → List Int × Bool} (hA : AtText l at_) {fr en : Nat} (h1 : fr < en) (h2 : l.length < en) : partM at_ en fr en [] = none := by
  cases h : partM at_ en fr en [] with
  | none => rfl
  | some r =>
    have := (partM_sound hA en fr en [] r (by omega) (by omega) h).2 h1
    omega
/-- The slots of a text that stands on a disk. -/
theorem paysS_get (l : List Int) (n k : Nat) {i : Nat} (h : i < n) : (paysS l n k)[i]? = some (payS l i k) := by
  unfold paysS
  rw [List.getElem?_map, List.getElem?_range h]
  rfl
def slotT (l : List Int) (i k : Nat) : List Int := if k = 3 then parI l i 3 else slotI (partI l (3 * i + k))
theorem readT_pay (l : List Int) (i k : Nat) : readT k (payS l i k) = (slotT l i k, true) := by
  unfold readT payS slotT
  by_cases h : k = 3
  · rw [if_pos h, if_pos h, if_pos h, parI_length]
    simp
  · have := partI_le l (3 * i + k)
    rw [if_neg h, if_neg h, if_neg h, List.take_of_length_le this]
    simp [this]
theorem readS_held {B : Dk} {f : ByteArray} {gen i k n : Nat} {l : List Int} (hg : gen ≤ 4611686018427387904) (hn : n ≤ 2147483647) (h : B.at f = (newCels f gen 0 (paysS l n k)).map Cel.syncd) (hi : i < n) : readS B f k gen i = (slotT l i k, true) := by
  unfold readS
  rw [held_cel h (paysS_get l n k hi)]
  dsimp only [stl]
  rw [openI_extI (by omega) hg (payS_length l i k)]
  dsimp only
  rw [if_neg (by simp), readT_pay]
theorem readS_none {B : Dk} {f : ByteArray} {gen i k n : Nat} {l : List Int} (h : B.at f = (newCels f gen 0 (paysS l n k)).map Cel.syncd) (hi : n ≤ i) : readS B f k gen i = (slotZ, false) := by
  have : B.cel f i = none := by
    unfold Dk.cel
    rw [if_pos (by omega), Int.toNat_natCast, h, List.getElem?_eq_none (by rw [List.length_map, newCels_length, paysS_length]; exact hi)]
  unfold readS
  rw [this]
structure StRead (B : Dk) (x : ByteArray) (gen : Nat) (l : List Int) : Prop where
  right : ∀ i k, k < 4 → i < groupsN l.length → slotOf B x gen i k = (slotT l i k, true)
  none : ∀ i k, k < 4 → groupsN l.length ≤ i → slotOf B x gen i k = (slotZ, false)
  bytes : ∀ k, k < 4 → ∀ (i : Int) c, B.cel (stripeF x k) i = some c → Bytes c.read
theorem stRead_of {room : Int} {B : Dk} {x : ByteArray} {gen : Nat} {l : List Int} (h : StHas room x gen l B) (hg : gen ≤ 4611686018427387904) (hn : groupsN l.length ≤ 2147483647) (hb : Bytes l) : StRead B x gen l := by
  refine ⟨fun i k hk hi => readS_held hg hn (h.held k hk) hi, fun i k hk hi => readS_none (h.held k hk) hi, fun k hk i c hc => ?_⟩
  have hc2 := hc
  unfold Dk.cel at hc
  split at hc
  · rename_i h0
    rw [h.held k hk] at hc
    have hlt : i.toNat < groupsN l.length := by
      refine Nat.lt_of_not_le fun hn => ?_
      rw [List.getElem?_eq_none (by rw [List.length_map, newCels_length, paysS_length]; omega)] at hc
      cases hc
    have := held_cel (k := i.toNat) (h.held k hk) (paysS_get l _ k hlt)
    rw [show ((i.toNat : Nat) : Int) = i by omega, hc2] at this
    cases this
    exact extI_bytes (payS_length l _ k) (payS_bytes hb _ k)
  · cases hc
theorem badN_all {A : Dk} {x : ByteArray} {gen i : Int} : ∀ k, (∀ j, j < k → (slotOf A x gen i j).2 = false) → badN A x gen i k = k
  | 0, _ => rfl
  | k + 1, h => by
    rw [badN, badN_all k (fun j hj => h j (by omega)), h k (by omega)]
    simp
end Go.Proofs.YtnpinegpajbkeaaDoor
/- A disk's files that have not come yet, while they come in any order. -/
namespace Go.Proofs.YtnpinegpajbkeaaDoor
open Go.RowKit HP
set_option linter.unusedSimpArgs false
set_option linter.unusedVariables false

theorem putF_perm {α : Type} {s : ByteArray} {v : α} : ∀ {l : List (ByteArray × α)}, lk l s = none → (putF l s v).Perm ((s, v) :: l)
  | [], _ => List.Perm.refl _
  | (t, u) :: l, h => by
    rw [lk_cons] at h
    split at h
    · cases h
    · rename_i hne
      unfold putF
      rw [if_neg hne]
      split
      · exact List.Perm.refl _
      · exact ((putF_perm h).cons _).trans (List.Perm.swap _ _ _)
theorem sortF_perm {fs : List Fil} (hn : (fs.map (·.name)).Nodup) : (sortF fs).Perm (fs.map fun f => (f.name, f.cs)) := by
  induction fs with
  | nil => exact List.Perm.refl _
  | cons f fs ih =>
    simp only [List.map_cons, List.nodup_cons] at hn
    have h2 : lk (sortF fs) f.name = none := by
      rw [sortF_lk]
      unfold lkF
      rw [Option.map_eq_none_iff, List.find?_eq_none]
      intro x hx he
      simp only [decide_eq_true_eq] at he
      exact hn.1 (List.mem_map.2 ⟨x, hx, he⟩)
    exact (putF_perm h2).trans ((ih hn.2).cons _)
theorem files_perm {A : Dk} {es : Array MapEntry} {clock : Nat} {fs : List Fil} (hv : View A es clock fs) : (fs.map fun f => (f.name, f.cs)).Perm A.files := by
  have e : sortF fs = A.files := sorted_ext (sortF_sorted fs) hv.fine.sorted fun s => by rw [sortF_lk, hv.same]
  rw [← e]
  exact (sortF_perm hv.map.2.2.1).symm
/-- The files that have not come yet. -/
def leftZ (es : Array MapEntry) (seen : Array Nat) (fs : List Fil) : List (MapEntry × Fil) := (es.toList.zip fs).filter fun x => !seen.contains x.1.born
theorem filter_out {α : Type} {b : α → Nat} : ∀ {l : List α} {x : α} {p : α → Bool}, (l.map b).Nodup → x ∈ l → p x = true → (l.filter p).Perm (x :: l.filter fun y => p y && !(b y == b x))
  | [], x, p, _, h, _ => by cases h
  | y :: l, x, p, hn, hx, hp => by
    simp only [List.map_cons, List.nodup_cons] at hn
    by_cases e : y = x
    · subst e
      rw [List.filter_cons_of_pos hp, List.filter_cons_of_neg (by simp)]
      refine List.Perm.cons _ (List.Perm.of_eq ?_)
      refine List.filter_congr fun z hz => ?_
      have : b z ≠ b y := fun h => hn.1 (by rw [← h]; exact List.mem_map.2 ⟨z, hz, rfl⟩)
      simp [this]
    · have hxl : x ∈ l := by
        rcases List.mem_cons.1 hx with h | h
        · exact absurd h.symm e
        · exact h
      have hb : b y ≠ b x := fun h => hn.1 (by rw [h]; exact List.mem_map.2 ⟨x, hxl, rfl⟩)
      have ih := filter_out hn.2 hxl hp
      by_cases hpy : p y = true
      · rw [List.filter_cons_of_pos hpy, List.filter_cons_of_pos (by simp [hpy, hb])]
        exact (ih.cons _).trans (List.Perm.swap _ _ _)
      · rw [List.filter_cons_of_neg hpy, List.filter_cons_of_neg (by simp [hpy])]
        exact ih
theorem leftZ_step {es : Array MapEntry} {seen : Array Nat} {fs : List Fil} {j : Nat} {e : MapEntry} {f : Fil} (hn : (es.toList.map (·.born)).Nodup) (hl : es.toList.length = fs.length) (hj : es.toList[j]? = some e) (hf : fs[j]? = some f) (he : seen.contains e.born = false) :
    (leftZ es seen fs).Perm ((e, f) :: leftZ es (seen.push e.born) fs) := by
  have hm : ((es.toList.zip fs).map fun x => x.1.born) = es.toList.map (·.born) := by
    rw [show (fun x : MapEntry × Fil => x.1.born) = (fun x : MapEntry => x.born) ∘ Prod.fst from rfl, ← List.map_map, List.map_fst_zip (by omega)]
  have hmem : (e, f) ∈ es.toList.zip fs := List.mem_of_getElem? (i := j) (by rw [List.getElem?_zip_eq_some]; exact ⟨hj, hf⟩)
  have := filter_out (b := fun x : MapEntry × Fil => x.1.born) (p := fun x => !seen.contains x.1.born) (by rw [hm]; exact hn) hmem (by show (!seen.contains e.born) = true; rw [he]; rfl)
  refine this.trans (List.Perm.of_eq ?_)
  unfold leftZ
  congr 1
  refine List.filter_congr fun z _ => ?_
  rw [Array.contains_push]
  simp [Bool.not_or]
theorem leftZ_start {es : Array MapEntry} {fs : List Fil} (hl : es.toList.length = fs.length) : (leftZ es #[] fs).map (·.2) = fs := by
  unfold leftZ
  rw [List.filter_eq_self.2 (by simp), List.map_snd_zip (by omega)]
theorem leftZ_end {es : Array MapEntry} {seen : Array Nat} {fs : List Fil} (h : leftL es seen = []) : leftZ es seen fs = [] := by
  unfold leftZ
  rw [List.filter_eq_nil_iff]
  rintro ⟨e, f⟩ hx
  have he := (List.of_mem_zip hx).1
  have := List.filter_eq_nil_iff.1 h e he
  simpa using this
end Go.Proofs.YtnpinegpajbkeaaDoor
