/- An extent built of four images; a file's extents all at once. -/
import Derived.Test.YtgdcdcacccaanaaDiskWr
namespace Go.Proofs.Ytgdcdcacccaanaa
open Go.RowKit HP
set_option linter.unusedSimpArgs false
set_option linter.unusedVariables false

theorem foldl_splice (off : Nat) : ∀ (xs : List Value) (i : Nat) (cur : Array Value), off + i + xs.length ≤ cur.size →
    ((xs.zipIdx i).foldl (fun cs (p : Value × Nat) => cs.setIfInBounds (off + p.2) p.1) cur).toList = cur.toList.take (off + i) ++ xs ++ cur.toList.drop (off + i + xs.length)
  | [], i, cur, _ => by simp
  | x :: xs, i, cur, h => by
    have hl : off + i + (xs.length + 1) ≤ cur.toList.length := by simpa [Nat.add_assoc] using h
    rw [List.zipIdx_cons, List.foldl_cons, foldl_splice off xs (i + 1) _ (by simp at h ⊢; omega)]
    have e := list_seg_step cur.toList (off + i) x xs hl
    simpa [Array.toList_setIfInBounds, Nat.add_assoc] using e
theorem fill_one {place : Nat → Option (Nat × Nat)} {cur : Array Value} {i off size : Nat} {v : Value} {rest : List (Nat × Value)} (hp : place i = some (off, size)) (hs : v.cells.size = size) (hf : off + size ≤ cur.size) :
    Instr.fill place cur ((i, v) :: rest) = Instr.fill place (splice cur.toList off v.cells.toList).toArray rest := by
  subst hs
  have h1 : ¬ (v.cells.size ≠ v.cells.size || decide (off + v.cells.size > cur.size)) = true := by simp; omega
  simp only [Instr.fill, hp]
  rw [if_neg h1]
  congr 1
  apply Array.toList_inj.1
  have h2 := foldl_splice off v.cells.toList 0 cur (by simpa using hf)
  simp only [Nat.add_zero] at h2
  rw [← Array.toList_zipIdx, Array.foldl_toList] at h2
  exact h2

def places : Array (Nat × Nat) := #[(0, 128), (128, 128), (256, 128), (384, 128), (512, 1)]
theorem build_places (w : World) (qs : Array (Nat × Value)) : (Instr.build 81 qs).run Try.prog w = (match Instr.fill (places[·]?) Try.zeroCells81 qs.toList with
    | some cells => Result.ok (Value.agg cells) w
    | x => (stuck "build: no such field, or a part of the wrong size" : Sem Value).run Try.prog w) := by
  have hz : (zeroValue 81).run Try.prog w = .ok (.agg Try.zeroCells81) w := by kernel_rfl
  have hu := Try.underlying81
  unfold Instr.build
  rw [Sem.run_bind, hz, Result.andThen_ok]
  simp only [Sem.run_bind, run_underlying hu, Result.andThen_ok]
  refine Eq.trans (congrArg (fun r => Result.andThen r _) (a₂ := .ok places w) (by kernel_rfl)) ?_
  rw [Result.andThen_ok]
  show Sem.run Try.prog (match Instr.fill (fun x => places[x]?) Try.zeroCells81 qs.toList with
        | some cells => pure (Value.agg cells)
        | x => stuck "build: no such field, or a part of the wrong size") w = _
  cases Instr.fill (fun x => places[x]?) Try.zeroCells81 qs.toList <;> rfl
theorem build_all {a b c e : List Int} {x : Bool} (ha : a.length = 128) (hb : b.length = 128) (hc : c.length = 128) (he : e.length = 128) (w : World) :
    (Instr.build 81 #[(0, .agg (b8s a).toArray), (1, .agg (b8s b).toArray), (2, .agg (b8s c).toArray), (3, .agg (b8s e).toArray), (4, .bool x)]).run Try.prog w = .ok (.agg (⟨a, b, c, e, x⟩ : Cel).vals.toArray) w := by
  rw [build_places]
  have hz : z128.length = 128 := rfl
  have L : ∀ (c : Cel), c.Fine → c.vals.toArray.size = 513 := fun c h => by rw [List.size_toArray, Cel.vals_length h]
  have S : ∀ (l : List Int), l.length = 128 → (Value.agg (b8s l).toArray).cells.size = 128 := fun l h => by
    show (b8s l).toArray.size = 128
    rw [List.size_toArray, b8s_length, h]
  have f0 : (Cel.zero).Fine := Cel.zero_fine
  have f1 : (⟨a, z128, z128, z128, false⟩ : Cel).Fine := ⟨ha, rfl, rfl, rfl⟩
  have f2 : (⟨a, b, z128, z128, false⟩ : Cel).Fine := ⟨ha, hb, rfl, rfl⟩
  have f3 : (⟨a, b, c, z128, false⟩ : Cel).Fine := ⟨ha, hb, hc, rfl⟩
  have f4 : (⟨a, b, c, e, false⟩ : Cel).Fine := ⟨ha, hb, hc, he⟩
  have e0 : Try.zeroCells81 = Cel.zero.vals.toArray := zero_cel.symm
  have s3 : splice (⟨a, b, z128, z128, false⟩ : Cel).vals 256 (b8s c) = (⟨a, b, c, z128, false⟩ : Cel).vals := by
    have := splice_mid (b8s a ++ b8s b) (b8s z128) (b8s z128 ++ [.bool false]) (b8s c) (off := 256) (by simp [b8s_length, ha, hb]) (by simp [b8s_length, hc, hz])
    simpa [Cel.vals] using this
  have s5 : splice (⟨a, b, c, e, false⟩ : Cel).vals 512 [.bool x] = (⟨a, b, c, e, x⟩ : Cel).vals := by
    have := splice_mid (b8s a ++ (b8s b ++ (b8s c ++ b8s e))) [.bool false] [] [.bool x] (off := 512) (by simp [b8s_length, ha, hb, hc, he]) rfl
    simpa [Cel.vals] using this
  rw [e0]
  rw [fill_one (off := 0) (size := 128) rfl (S a ha) (by rw [L _ f0]; omega)]
  rw [show splice (Cel.zero.vals.toArray).toList 0 (Value.agg (b8s a).toArray).cells.toList = (⟨a, z128, z128, z128, false⟩ : Cel).vals from set_read (c := Cel.zero) f0 ha]
  rw [fill_one (off := 128) (size := 128) rfl (S b hb) (by rw [L _ f1]; omega)]
  rw [show splice ((⟨a, z128, z128, z128, false⟩ : Cel).vals.toArray).toList 128 (Value.agg (b8s b).toArray).cells.toList = (⟨a, b, z128, z128, false⟩ : Cel).vals from set_durable (c := ⟨a, z128, z128, z128, false⟩) f1 hb]
  rw [fill_one (off := 256) (size := 128) rfl (S c hc) (by rw [L _ f2]; omega)]
  rw [show splice ((⟨a, b, z128, z128, false⟩ : Cel).vals.toArray).toList 256 (Value.agg (b8s c).toArray).cells.toList = (⟨a, b, c, z128, false⟩ : Cel).vals from s3]
  rw [fill_one (off := 384) (size := 128) rfl (S e he) (by rw [L _ f3]; omega)]
  rw [show splice ((⟨a, b, c, z128, false⟩ : Cel).vals.toArray).toList 384 (Value.agg (b8s e).toArray).cells.toList = (⟨a, b, c, e, false⟩ : Cel).vals from set_written (c := ⟨a, b, c, z128, false⟩) f3 he]
  rw [fill_one (off := 512) (size := 1) rfl (show (Value.bool x).cells.size = 1 from rfl) (by rw [L _ f4]; omega)]
  rw [show splice ((⟨a, b, c, e, false⟩ : Cel).vals.toArray).toList 512 (Value.bool x).cells.toList = (⟨a, b, c, e, x⟩ : Cel).vals from s5]
  rfl

/-- A whole extent stored. -/
theorem cel_store_all {E : Env} {q : HP} {w : World} {b : Nat} {c : Cel} (h : Sat E w (HP.cel b c * q)) (hf : c.Fine) {c' : Cel} (hf' : c'.Fine) :
    ∃ w', (storeVar 81 ⟨b, 0, none⟩ (.agg c'.vals.toArray)).run Try.prog w = .ok () w' ∧ Sat E w' (HP.cel b c' * q) := by
  have h1 : Sat E w (HP.pt b (.cells c.vals.toArray 81) * q) := h
  have hr := run_storeAgg agCel (g := b) (off := 0) (cs := c'.vals) h1.get (Cel.vals_length hf') (by simp [Cel.vals_length hf]) (Cel.vals_one c')
  refine ⟨_, hr, ?_⟩
  have h2 := h1.splice (splice c.vals 0 c'.vals)
  have e : splice c.vals 0 c'.vals = c'.vals := by
    unfold splice
    rw [List.drop_eq_nil_of_le (by rw [Cel.vals_length hf, Cel.vals_length hf']; omega)]
    simp
  rw [show splice c.vals.toArray.toList 0 c'.vals = c'.vals from e]
  rw [e] at h2
  exact h2

def HP.cels (l : List (Nat × Cel)) : HP := HP.all (l.map fun x => HP.cel x.1 x.2)
def celPtrs (l : List (Nat × Cel)) : List Value := l.map fun x => .pointer (some ⟨x.1, 0, none⟩)
/-- A file taken out of a disk. -/
theorem take_file {E : Env} {q : HP} {w : World} {d m : Nat} {A : Dk} {es : Array MapEntry} {clock : Nat} {fs : List Fil} (hv : View A es clock fs) (hw : Sat E w (HP.dk d A.room A.fuse m es clock fs * q)) {j : Nat} {f : Fil} (hj : fs[j]? = some f) :
    ∃ R : HP, Sat E w (HP.row 77 1 f.val f.cels.length (celPtrs f.cels) * (HP.cels f.cels * R)) ∧
      ∀ (w' : World) (cels' : List (Nat × Cel)), cels'.map (·.1) = f.cels.map (·.1) → (∀ x ∈ cels', x.2.Fine) → Sat E w' (HP.row 77 1 f.val f.cels.length (celPtrs f.cels) * (HP.cels cels' * R)) →
        View (A.set f.name (cels'.map (·.2))) es clock (fs.set j ⟨f.name, f.val, cels'⟩) ∧ Sat E w' (HP.dk d A.room A.fuse m es clock (fs.set j ⟨f.name, f.val, cels'⟩) * q) := by
  have h1 := dk_parts hw
  have h2 : Sat E w (HP.all (fs.map HP.fil) * (HP.dsk d A.room A.fuse m * (HP.pt m (.map es clock) * q))) := h1.perm (by ac_rfl)
  rw [all_take (l := fs.map HP.fil) (j := j) (p := HP.fil f) (by rw [List.getElem?_map, hj]; rfl)] at h2
  refine ⟨HP.all ((fs.map HP.fil).eraseIdx j) * (HP.dsk d A.room A.fuse m * (HP.pt m (.map es clock) * q)), h2.perm (by unfold HP.fil HP.cels Fil.ptrs celPtrs; ac_rfl), fun w' cels' hfst hfine h => ?_⟩
  have hjl : j < fs.length := (List.getElem?_eq_some_iff.1 hj).1
  have hlen : cels'.length = f.cels.length := by simpa using congrArg List.length hfst
  have hne : cels' ≠ [] := by
    intro h0
    have := (hv.fine.named _ (hv.mem (List.mem_of_getElem? hj))).2
    rw [h0] at hlen
    simp only [List.length_nil] at hlen
    have h9 : f.cels = [] := List.eq_nil_of_length_eq_zero hlen.symm
    exact this (by simp [Fil.cs, h9])
  have hv' := hv.set hj (v := f.val) (cels := cels') hne hfine (by have := hv.fine.fits; rw [hlen]; omega)
  have hkv := hv.map.2.1
  have hes : (es.modify j fun e => { e with key := Value.string f.name, val := f.val }) = es := by
    apply Array.toList_inj.1
    rw [Array.toList_modify]
    apply List.ext_getElem?
    intro i
    rw [List.getElem?_modify]
    by_cases hi : j = i
    · subst hi
      have h6 := congrArg (fun l => l[j]?) hkv
      simp only [List.getElem?_map, hj, Option.map_some] at h6
      cases h7 : es.toList[j]? with
      | none => rw [h7] at h6; cases h6
      | some e =>
        rw [h7] at h6
        simp only [Option.map_some, Option.some.injEq, Prod.mk.injEq] at h6
        simp only [if_true, Option.map_some, Option.map_eq_map, ← h6.1, ← h6.2]
    · simp [hi]
  rw [hes] at hv'
  refine ⟨hv', ?_⟩
  unfold HP.dk
  rw [all_take (l := (fs.set j (⟨f.name, f.val, cels'⟩ : Fil)).map HP.fil) (j := j) (p := HP.fil ⟨f.name, f.val, cels'⟩) (by rw [List.getElem?_map, List.getElem?_set]; simp [hjl])]
  rw [List.map_set, List.eraseIdx_set_eq]
  have hp : (⟨f.name, f.val, cels'⟩ : Fil).ptrs = celPtrs f.cels := by
    show cels'.map (fun x => Value.pointer (some ⟨x.1, 0, none⟩)) = _
    unfold celPtrs
    have := congrArg (List.map fun b : Nat => Value.pointer (some ⟨b, 0, none⟩)) hfst
    simpa [List.map_map, Function.comp_def] using this
  have e1 : HP.fil ⟨f.name, f.val, cels'⟩ = HP.row 77 1 f.val f.cels.length (celPtrs f.cels) * HP.cels cels' := by
    unfold HP.fil HP.cels
    rw [hp]
    show HP.row 77 1 f.val cels'.length _ * _ = _
    rw [hlen]
  rw [e1]
  exact h.perm (by ac_rfl)
/-- One of a file's extents. -/
theorem cels_take {E : Env} {q : HP} {w : World} {l : List (Nat × Cel)} (hw : Sat E w (HP.cels l * q)) {k : Nat} {x : Nat × Cel} (hk : l[k]? = some x) :
    ∃ R : HP, Sat E w (HP.cel x.1 x.2 * R) ∧ (∀ w, Sat E w R → Sat E w q) ∧ ∀ (w' : World) (c' : Cel), Sat E w' (HP.cel x.1 c' * R) → Sat E w' (HP.cels (l.set k (x.1, c')) * q) := by
  unfold HP.cels at hw ⊢
  have hkl : k < l.length := (List.getElem?_eq_some_iff.1 hk).1
  rw [all_take (l := l.map fun x => HP.cel x.1 x.2) (j := k) (p := HP.cel x.1 x.2) (by rw [List.getElem?_map, hk]; rfl)] at hw
  refine ⟨_, hw.perm (HP.mul_assoc _ _ _), fun w h => h.right, fun w' c' h => ?_⟩
  rw [all_map_set (fun x : Nat × Cel => HP.cel x.1 x.2) l k (x.1, c') hkl]
  exact h.perm (by ac_rfl)
end Go.Proofs.Ytgdcdcacccaanaa
