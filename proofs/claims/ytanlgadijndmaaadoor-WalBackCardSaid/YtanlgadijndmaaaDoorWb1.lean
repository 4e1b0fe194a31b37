/- pair.Mend, in plain words: both halves made the better one. -/
import Derived.Test.YtanlgadijndmaaaDoorSv9
namespace Go.Proofs.YtanlgadijndmaaaDoor
open Go.RowKit HP
set_option linter.unusedSimpArgs false
set_option linter.unusedVariables false

/-- Each half that reads otherwise than the better one is written, and synced. -/
def mendL (i g : Nat) (p : List Int) (wrote : Bool) (A : Dk) : List ByteArray → (Bool × Int) × Dk
  | [] => ((wrote, 0), A)
  | f :: r =>
    if readO A f i = extI f i g p then mendL i g p wrote A r
    else if (A.write f i (extI f i g p)).1 = 0 then
      if ((A.write f i (extI f i g p)).2.sync f).1 = 0 then mendL i g p true ((A.write f i (extI f i g p)).2.sync f).2 r
      else ((false, ((A.write f i (extI f i g p)).2.sync f).1), ((A.write f i (extI f i g p)).2.sync f).2)
    else ((false, (A.write f i (extI f i g p)).1), (A.write f i (extI f i g p)).2)
theorem mendL_nil (i g : Nat) (p : List Int) (wrote : Bool) (A : Dk) : mendL i g p wrote A [] = ((wrote, 0), A) := rfl
theorem mendL_cons (i g : Nat) (p : List Int) (wrote : Bool) (A : Dk) (f : ByteArray) (r : List ByteArray) : mendL i g p wrote A (f :: r) =
    if readO A f i = extI f i g p then mendL i g p wrote A r
    else if (A.write f i (extI f i g p)).1 = 0 then
      if ((A.write f i (extI f i g p)).2.sync f).1 = 0 then mendL i g p true ((A.write f i (extI f i g p)).2.sync f).2 r
      else ((false, ((A.write f i (extI f i g p)).2.sync f).1), ((A.write f i (extI f i g p)).2.sync f).2)
    else ((false, (A.write f i (extI f i g p)).1), (A.write f i (extI f i g p)).2) := rfl
def mendP (A : Dk) (name : ByteArray) (i : Int) : (Bool × Int) × Dk :=
  if (getP A name i).1 < 0 then ((false, 50), A) else mendL i.toNat (getP A name i).1.toNat (getP A name i).2 false A (halvesL name)
theorem openI_index {b : List Int} {f : ByteArray} {i : Int} {x : List Int × Nat} (h : openI b f i = some x) : 0 ≤ i ∧ i ≤ 2147483647 := by
  unfold openI at h
  split at h
  · cases h
  · rename_i h1
    omega
structure GotOk (i : Int) (st : Int × List Int) : Prop where
  place : 0 ≤ st.1 → 0 ≤ i ∧ i ≤ 2147483647
  gen : st.1 ≤ 4611686018427387904
  len : st.2.length ≤ 106
theorem getF_ok {A : Dk} {i : Int} {st : Int × List Int} {f : ByteArray} (h : GotOk i st) : GotOk i (getF A i st f) := by
  unfold getF
  cases A.cel f i with
  | none => exact h
  | some c =>
    dsimp only
    cases ho : openI c.read f i with
    | none => exact h
    | some x =>
      dsimp only
      split
      · exact h
      · have h1 := openI_gen (p := x.1) (g := x.2) ho
        exact ⟨fun _ => openI_index ho, h1.1, h1.2⟩
theorem getP_ok (A : Dk) (name : ByteArray) (i : Int) : GotOk i (getP A name i) := by
  unfold getP halvesL
  exact getF_ok (getF_ok ⟨fun h => absurd h (by show ¬ (0 : Int) ≤ -1; omega), by show (-1 : Int) ≤ _; omega, by show 0 ≤ 106; omega⟩)
theorem getF_byt {A : Dk} {i : Int} {st : Int × List Int} {f : ByteArray} (hs : Bytes st.2) (hb : ∀ c, A.cel f i = some c → Bytes c.read) : Bytes (getF A i st f).2 := by
  unfold getF
  cases hc : A.cel f i with
  | none => exact hs
  | some c =>
    dsimp only
    cases ho : openI c.read f i with
    | none => exact hs
    | some x =>
      dsimp only
      split
      · exact hs
      · have h := ho
        unfold openI at h
        split at h
        · cases h
        · split at h
          · cases h
          · split at h
            · cases h
            · simp only [Option.some.injEq] at h
              rw [← h]
              exact fun y hy => hb c hc y (List.mem_of_mem_drop (List.mem_of_mem_take hy))
theorem getP_byt {A : Dk} {name : ByteArray} {i : Int} (hb : ∀ f ∈ halvesL name, ∀ c, A.cel f i = some c → Bytes c.read) : Bytes (getP A name i).2 := by
  unfold getP halvesL
  exact getF_byt (getF_byt (fun x hx => by cases hx) (hb _ (List.mem_cons_self ..))) (hb _ (List.mem_cons_of_mem _ (List.mem_cons_self ..)))
theorem halves_ne (x : ByteArray) : x ++ dotA ≠ x ++ dotB := fun h => by
  have h1 : (x ++ dotA).data = (x ++ dotB).data := by rw [h]
  rw [ByteArray.data_append, ByteArray.data_append] at h1
  have h2 := congrArg Array.toList h1
  simp only [Array.toList_append, List.append_cancel_left_eq] at h2
  exact absurd h2 (by decide)
theorem write_at_ne {A : Dk} (hs : Sorted A.files) {f t : ByteArray} (ht : f ≠ t) (i : Int) (b : List Int) : (A.write f i b).2.at t = A.at t := by
  unfold Dk.write
  have hs2 : Sorted A.burnt.files := hs
  split
  · rfl
  · split
    · rfl
    · split
      · rfl
      · split
        · show (A.burnt.set f _).at t = _
          rw [at_set hs2, if_neg ht]; rfl
        · show (A.burnt.set f _).at t = _
          rw [at_set hs2, if_neg ht]; rfl
theorem sync_at_ne {A : Dk} (hs : Sorted A.files) {f t : ByteArray} (ht : f ≠ t) : (A.sync f).2.at t = A.at t := by
  unfold Dk.sync
  have hs2 : Sorted A.burnt.files := hs
  split
  · rfl
  · split
    · rfl
    · show (A.burnt.set f _).at t = _
      rw [at_set hs2, if_neg ht]; rfl
theorem cel_of_at {A B : Dk} {t : ByteArray} (h : A.at t = B.at t) (i : Int) : A.cel t i = B.cel t i := by
  unfold Dk.cel
  rw [h]
theorem readO_of_none {A : Dk} {f : ByteArray} {i : Int} (h : A.cel f i = none) : readO A f i = [] := by unfold readO; rw [h]
theorem readO_of_some {A : Dk} {f : ByteArray} {i : Int} {c : Cel} (h : A.cel f i = some c) : readO A f i = c.read := by unfold readO; rw [h]
end Go.Proofs.YtanlgadijndmaaaDoor
/- Two halves that hold extents, one of them turned in any way: what is read of them, plain. -/
namespace Go.Proofs.YtanlgadijndmaaaDoor
open Go.RowKit HP
set_option linter.unusedSimpArgs false
set_option linter.unusedVariables false

/-- The extents of a half, of these generations and payloads. -/
def imgsF (f : ByteArray) (gp : List (Nat × List Int)) : List Cel := gp.mapIdx fun k x => stl (extI f k x.1 x.2)
theorem imgsF_length (f : ByteArray) (gp : List (Nat × List Int)) : (imgsF f gp).length = gp.length := by unfold imgsF; rw [List.length_mapIdx]
theorem imgsF_get {f : ByteArray} {gp : List (Nat × List Int)} {k : Nat} {x : Nat × List Int} (h : gp[k]? = some x) : (imgsF f gp)[k]? = some (stl (extI f k x.1 x.2)) := by
  unfold imgsF
  rw [List.getElem?_mapIdx, h]; rfl
structure HoldG (A : Dk) (x : ByteArray) (gp : List (Nat × List Int)) : Prop where
  a : A.at (x ++ dotA) = imgsF (x ++ dotA) gp
  b : A.at (x ++ dotB) = imgsF (x ++ dotB) gp
  sorted : Sorted A.files
  fuse : A.fuse = -1
  others : ∀ t, x ++ dotA ≠ t → x ++ dotB ≠ t → A.at t = []
structure GpOk (gp : List (Nat × List Int)) : Prop where
  many : gp.length ≤ 2147483647
  each : ∀ x ∈ gp, x.1 ≤ 4611686018427387904 ∧ x.2.length ≤ 106 ∧ Bytes x.2
theorem GpOk.at_ {gp : List (Nat × List Int)} (h : GpOk gp) {k : Nat} {x : Nat × List Int} (hx : gp[k]? = some x) : k ≤ 2147483647 ∧ x.1 ≤ 4611686018427387904 ∧ x.2.length ≤ 106 ∧ Bytes x.2 := by
  have h1 := (List.getElem?_eq_some_iff.1 hx).1
  have h2 := h.many
  exact ⟨by omega, h.each x (List.mem_of_getElem? hx)⟩
theorem HoldG.at_f {A : Dk} {x : ByteArray} {gp : List (Nat × List Int)} (H : HoldG A x gp) {f : ByteArray} (hf : f ∈ halvesL x) : A.at f = imgsF f gp := by
  rcases List.mem_cons.1 hf with rfl | hf
  · exact H.a
  · obtain rfl := List.mem_singleton.1 hf
    exact H.b
theorem imgsF_mem {f : ByteArray} {gp : List (Nat × List Int)} {c : Cel} (h : c ∈ imgsF f gp) : ∃ k x, gp[k]? = some x ∧ c = stl (extI f k x.1 x.2) := by
  obtain ⟨k, hk⟩ := List.getElem?_of_mem h
  have hlt : k < gp.length := by rw [← imgsF_length f gp]; exact (List.getElem?_eq_some_iff.1 hk).1
  refine ⟨k, gp[k], List.getElem?_eq_getElem hlt, ?_⟩
  rw [imgsF_get (List.getElem?_eq_getElem hlt)] at hk
  cases hk; rfl
theorem imgsF_still {f : ByteArray} {gp : List (Nat × List Int)} : ∀ c ∈ imgsF f gp, Still c := fun c h => by
  obtain ⟨k, x, -, rfl⟩ := imgsF_mem h
  exact ⟨rfl, rfl⟩
theorem imgsF_bytes {f : ByteArray} {gp : List (Nat × List Int)} (hok : GpOk gp) : ∀ c ∈ imgsF f gp, Bytes c.read := fun c h => by
  obtain ⟨k, x, hx, rfl⟩ := imgsF_mem h
  have h1 := hok.at_ hx
  exact extI_bytes h1.2.2.1 h1.2.2.2
theorem cel_at_nat (A : Dk) (f : ByteArray) (k : Nat) : A.cel f (k : Int) = (A.at f)[k]? := by
  unfold Dk.cel
  rw [if_pos (by omega), Int.toNat_natCast]
theorem cel_mem {A : Dk} {f : ByteArray} {i : Int} {c : Cel} (h : A.cel f i = some c) : c ∈ A.at f := by
  unfold Dk.cel at h
  split at h
  · exact List.mem_of_getElem? h
  · cases h
theorem get_at {B : Dk} {x : ByteArray} {k g : Nat} {p : List Int} (hk : k ≤ 2147483647) (hs : g ≤ 4611686018427387904) (hp : p.length ≤ 106) {ca cb : Cel} (ha : B.cel (x ++ dotA) (k : Int) = some ca) (hb : B.cel (x ++ dotB) (k : Int) = some cb)
    (h : (openI ca.read (x ++ dotA) k = none ∨ ca.read = extI (x ++ dotA) k g p) ∧ cb.read = extI (x ++ dotB) k g p ∨ ca.read = extI (x ++ dotA) k g p ∧ (openI cb.read (x ++ dotB) k = none ∨ cb.read = extI (x ++ dotB) k g p)) : getP B x (k : Int) = ((g : Int), p) := by
  have oa := openI_extI (f := x ++ dotA) (i := k) hk hs hp
  have ob := openI_extI (f := x ++ dotB) (i := k) hk hs hp
  have ga : ∀ st, openI ca.read (x ++ dotA) k = none → getF B k st (x ++ dotA) = st := fun st h => by simp only [getF, ha, h]
  have ga2 : ca.read = extI (x ++ dotA) k g p → getF B k (-1, []) (x ++ dotA) = ((g : Int), p) := fun h => by
    simp only [getF, ha, h, oa]
    rw [if_neg (by show ¬ (g : Int) ≤ -1; omega)]
  have gb : ∀ st, openI cb.read (x ++ dotB) k = none → getF B k st (x ++ dotB) = st := fun st h => by simp only [getF, hb, h]
  have gb2 : cb.read = extI (x ++ dotB) k g p → getF B k (-1, []) (x ++ dotB) = ((g : Int), p) := fun h => by
    simp only [getF, hb, h, ob]
    rw [if_neg (by show ¬ (g : Int) ≤ -1; omega)]
  have gb3 : cb.read = extI (x ++ dotB) k g p → getF B k ((g : Int), p) (x ++ dotB) = ((g : Int), p) := fun h => by
    simp only [getF, hb, h, ob]
    rw [if_pos (Int.le_refl _)]
  unfold getP halvesL
  simp only [List.foldl_cons, List.foldl_nil]
  rcases h with ⟨h1 | h1, h2⟩ | ⟨h1, h2 | h2⟩
  · rw [ga _ h1, gb2 h2]
  · rw [ga2 h1, gb3 h2]
  · rw [ga2 h1, gb _ h2]
  · rw [ga2 h1, gb3 h2]
theorem rot_nil {f : ByteArray} {A : Dk} (h0 : A.at f = []) (i a m : Int) : (A.rot f i a m).2 = A := by
  have hc : A.cel f i = none := by
    unfold Dk.cel
    rw [h0]
    split <;> rfl
  unfold Dk.rot
  rw [hc]
theorem rotS_nil {f : ByteArray} {A B : Dk} (h : RotS f A B) (h0 : A.at f = []) : B = A := by
  induction h with
  | refl => rfl
  | step i a m _ _ _ ih =>
    subst ih
    exact rot_nil h0 i a m
theorem told_at {A B : Dk} {f : ByteArray} {l : List Cel} {i : Nat} (hl : lk A.files f = some l) (hi : i < l.length) (h : toldB A B = true) : openI (readO A f i) f i = none ∨ readO A f i = readO B f i := by
  unfold toldB at h
  have h1 := List.all_eq_true.1 h _ (lk_mem hl)
  unfold toldF at h1
  have h2 := List.all_eq_true.1 h1 i (List.mem_range.2 hi)
  unfold toldAt at h2
  simpa using h2
theorem rbyt_of_at {A : Dk} (h : ∀ f, ∀ c ∈ A.at f, Bytes c.read) : A.RByt := fun f i c hc => h f c (cel_mem hc)
/-- What became of the half that was turned. -/
structure Turned (A B : Dk) (x f : ByteArray) (gp : List (Nat × List Int)) (l' : List Cel) : Prop where
  eq : B = A.set f l'
  len : l'.length = gp.length
  turn : ∀ (k : Nat) (c : Cel) (y : Nat × List Int), l'[k]? = some c → gp[k]? = some y → TurnC (stl (extI f k y.1 y.2)) c
  rb : B.RByt
  told : toldB B A = true → ∀ (k : Nat) (y : Nat × List Int), gp[k]? = some y → getP B x (k : Int) = ((y.1 : Int), y.2)
  open_ : toldB B A = true → ∀ (k : Nat) (c : Cel) (y : Nat × List Int), l'[k]? = some c → gp[k]? = some y → openI c.read f k = none ∨ c.read = extI f k y.1 y.2
theorem HoldG.rbyt {A : Dk} {x : ByteArray} {gp : List (Nat × List Int)} (H : HoldG A x gp) (hok : GpOk gp) : A.RByt := rbyt_of_at fun f c hc => by
  by_cases h1 : x ++ dotA = f
  · rw [← h1, H.a] at hc; exact imgsF_bytes hok c hc
  · by_cases h2 : x ++ dotB = f
    · rw [← h2, H.b] at hc; exact imgsF_bytes hok c hc
    · rw [H.others f h1 h2] at hc; cases hc
theorem turned_of {A B : Dk} {x f : ByteArray} {gp : List (Nat × List Int)} (H : HoldG A x gp) (hok : GpOk gp) (h0 : 0 < gp.length) (hf : f ∈ halvesL x) (h : RotS f A B) : ∃ l', Turned A B x f gp l' := by
  have haf := H.at_f hf
  have hl : lk A.files f = some (A.at f) := at_some (by rw [haf, imgsF_length]; exact h0)
  obtain ⟨l', hB, hlen, hT⟩ := rotS_at H.sorted hl (by rw [haf]; exact imgsF_still) h
  rw [haf, imgsF_length] at hlen
  have hTC : ∀ (k : Nat) (c : Cel) (y : Nat × List Int), l'[k]? = some c → gp[k]? = some y → TurnC (stl (extI f k y.1 y.2)) c := fun k c y hc hy => hT k _ c (by rw [haf]; exact imgsF_get hy) hc
  have hop : toldB B A = true → ∀ (k : Nat) (c : Cel) (y : Nat × List Int), l'[k]? = some c → gp[k]? = some y → openI c.read f k = none ∨ c.read = extI f k y.1 y.2 := by
    intro ht k c y hc hy
    have hkl : k < l'.length := (List.getElem?_eq_some_iff.1 hc).1
    have h1 := told_at (f := f) (l := l') (i := k) (by rw [hB, lk_set H.sorted, if_pos rfl]) hkl ht
    have e1 : B.cel f (k : Int) = some c := by rw [hB, cel_at_nat, at_set H.sorted, if_pos rfl]; exact hc
    have e2 : A.cel f (k : Int) = some (stl (extI f k y.1 y.2)) := by rw [cel_at_nat, haf]; exact imgsF_get hy
    rw [readO_of_some e1, readO_of_some e2] at h1
    exact h1
  have hrb : ∀ t, ∀ c ∈ B.at t, Bytes c.read := by
    intro t c hc
    rw [hB, at_set H.sorted] at hc
    split at hc
    · obtain ⟨k, hk⟩ := List.getElem?_of_mem hc
      have hkl : k < gp.length := by rw [← hlen]; exact (List.getElem?_eq_some_iff.1 hk).1
      have hy := List.getElem?_eq_getElem hkl
      have h1 := hok.at_ hy
      exact (hTC k c _ hk hy).byt (extI_bytes h1.2.2.1 h1.2.2.2)
    · by_cases h1 : x ++ dotA = t
      · rw [← h1, H.a] at hc; exact imgsF_bytes hok c hc
      · by_cases h2 : x ++ dotB = t
        · rw [← h2, H.b] at hc; exact imgsF_bytes hok c hc
        · rw [H.others t h1 h2] at hc; cases hc
  refine ⟨l', hB, hlen, hTC, rbyt_of_at hrb, ?_, hop⟩
  intro ht k y hy
  have h1 := hok.at_ hy
  have hkl : k < l'.length := by rw [hlen]; exact (List.getElem?_eq_some_iff.1 hy).1
  have hc := List.getElem?_eq_getElem hkl
  have ho := hop ht k _ y hc hy
  have e1 : B.cel f (k : Int) = some l'[k] := by rw [hB, cel_at_nat, at_set H.sorted, if_pos rfl]; exact hc
  have e2 : ∀ t, t ∈ halvesL x → f ≠ t → B.cel t (k : Int) = some (stl (extI t k y.1 y.2)) := fun t htm hne => by rw [hB, cel_at_nat, at_set H.sorted, if_neg hne, H.at_f htm]; exact imgsF_get hy
  rcases List.mem_cons.1 hf with rfl | hf
  · exact get_at h1.1 h1.2.1 h1.2.2.1 e1 (e2 _ (List.mem_cons_of_mem _ (List.mem_cons_self ..)) (halves_ne x)) (.inl ⟨ho, rfl⟩)
  · obtain rfl := List.mem_singleton.1 hf
    exact get_at h1.1 h1.2.1 h1.2.2.1 (e2 _ (List.mem_cons_self ..) (Ne.symm (halves_ne x))) e1 (.inr ⟨rfl, ho⟩)
def gpOf (gen : Nat) (ps : List (List Int)) : List (Nat × List Int) := ps.map fun p => (gen, p)
theorem gpOf_get {gen k : Nat} {ps : List (List Int)} {p : List Int} (h : ps[k]? = some p) : (gpOf gen ps)[k]? = some (gen, p) := by unfold gpOf; rw [List.getElem?_map, h]; rfl
theorem newCels_imgs (f : ByteArray) (gen : Nat) (ps : List (List Int)) : (newCels f gen 0 ps).map Cel.syncd = imgsF f (gpOf gen ps) := by
  apply List.ext_getElem?
  intro k
  rcases Nat.lt_or_ge k ps.length with h | h
  · have hp := List.getElem?_eq_getElem h
    rw [List.getElem?_map, newCels_get ps 0 k _ hp, imgsF_get (gpOf_get hp), Nat.zero_add]
    rfl
  · rw [List.getElem?_eq_none (by rw [List.length_map, newCels_length]; exact h), List.getElem?_eq_none (by rw [imgsF_length]; unfold gpOf; rw [List.length_map]; exact h)]
theorem new_imgs {f : ByteArray} {gen : Nat} {gp : List (Nat × List Int)} (ps : List (List Int)) : (imgsF f gp ++ newCels f gen gp.length ps).map Cel.syncd = imgsF f (gp ++ gpOf gen ps) := by
  apply List.ext_getElem?
  intro k
  rw [List.getElem?_map]
  rcases Nat.lt_or_ge k gp.length with h | h
  · have hy := List.getElem?_eq_getElem h
    rw [List.getElem?_append_left (by rw [imgsF_length]; exact h), imgsF_get hy, imgsF_get (gp := gp ++ gpOf gen ps) (x := gp[k]) (by rw [List.getElem?_append_left h]; exact hy)]
    rfl
  · rw [List.getElem?_append_right (by rw [imgsF_length]; exact h), imgsF_length]
    rcases Nat.lt_or_ge (k - gp.length) ps.length with h2 | h2
    · have hp := List.getElem?_eq_getElem h2
      rw [newCels_get ps gp.length (k - gp.length) _ hp, imgsF_get (gp := gp ++ gpOf gen ps) (x := (gen, ps[k - gp.length])) (by rw [List.getElem?_append_right h]; exact gpOf_get hp)]
      rw [show gp.length + (k - gp.length) = k by omega]
      rfl
    · rw [List.getElem?_eq_none (by rw [newCels_length]; exact h2), List.getElem?_eq_none (by rw [imgsF_length, List.length_append]; unfold gpOf; rw [List.length_map]; omega)]
      rfl
theorem gpOf_length (gen : Nat) (ps : List (List Int)) : (gpOf gen ps).length = ps.length := by unfold gpOf; rw [List.length_map]
/-- Extents written behind those that are there, to both halves. -/
theorem hold_append {A : Dk} {x : ByteArray} {gp : List (Nat × List Int)} {room : Int} (T : TwoNames (x ++ dotA) (x ++ dotB)) (H : HoldG A x gp) (hfr : A.free = room - 2 * gp.length) {gen : Nat} (hg : (gen : Int) ≤ 4611686018427387904) {ps : List (List Int)} (h0 : 0 < ps.length) (hp : ∀ p ∈ ps, p.length ≤ 106) (hr : 2 * ((gp.length : Int) + ps.length) ≤ room) (hm : gp.length + ps.length ≤ 2147483647) :
    ∃ A', wrP A x gp.length gen ps = (0, A') ∧ HoldG A' x (gp ++ gpOf gen ps) ∧ A'.free = room - 2 * ((gp ++ gpOf gen ps).length : Int) := by
  have la : (A.at (x ++ dotA)).length = gp.length := by rw [H.a, imgsF_length]
  obtain ⟨B1, h1, f1, -⟩ := wrF_fresh (f := x ++ dotA) T.na hg ps A gp.length H.sorted H.fuse la (by omega) hp (by omega) (by omega)
  have g1 := wrF_cels (f := x ++ dotA) T.na hg ps A gp.length H.sorted H.fuse la (by omega) hp (by omega) (by omega)
  have hr1 : B1.room = A.room := f1.room
  have hs1 := f1.size
  have lb : (B1.at (x ++ dotB)).length = gp.length := by rw [f1.others _ T.ne, H.b, imgsF_length]
  have c2 : (ps.length : Int) ≤ B1.free := by unfold Dk.free at hfr ⊢; omega
  obtain ⟨B2, h2, f2, -⟩ := wrF_fresh (f := x ++ dotB) T.nb hg ps B1 gp.length f1.sorted f1.fuse lb c2 hp (by omega) (by omega)
  have g2 := wrF_cels (f := x ++ dotB) T.nb hg ps B1 gp.length f1.sorted f1.fuse lb c2 hp (by omega) (by omega)
  have hs2 := f2.size
  have hr2 := f2.room
  rw [h1] at g1
  rw [h2] at g2
  dsimp only at g1 g2
  refine ⟨B2, ?_, ⟨?_, ?_, f2.sorted, f2.fuse, fun t h3 h4 => ?_⟩, ?_⟩
  · unfold wrP halvesL
    simp only [wrL, h1, h2, if_pos rfl]
    rfl
  · rw [f2.others _ (Ne.symm T.ne), g1, H.a, new_imgs]
  · rw [g2, f1.others _ T.ne, H.b, new_imgs]
  · rw [f2.others _ h4, f1.others _ h3, H.others _ h3 h4]
  · rw [List.length_append, gpOf_length]
    unfold Dk.free at hfr ⊢
    push_cast
    omega
end Go.Proofs.YtanlgadijndmaaaDoor
