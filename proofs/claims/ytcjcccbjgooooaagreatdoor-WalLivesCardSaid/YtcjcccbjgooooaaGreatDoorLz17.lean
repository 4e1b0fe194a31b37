/- Texts of one claim, one behind the other: WalR, WalK, WalX, Spo, Do3, SpEq, StrE. -/
import Derived.Test.YtcjcccbjgooooaaGreatDoorLz16
import Derived.Lib.SlBytesConst
/- wal, the plain part: a record appended behind another one, wherever it stops. -/
namespace Go.Proofs.YtcjcccbjgooooaaGreatDoor
open Go.RowKit HP
set_option linter.unusedSimpArgs false
set_option linter.unusedVariables false

theorem write_goes {A : Dk} {f : ByteArray} {I : List Int} (hn : namedB f = true) (hl : I.length = 128) (he : A.goes = true) (hf : 0 < A.free) : A.write f ((A.at f).length : Int) I = (0, A.burnt.set f (A.at f ++ [Cel.zero.wrote I])) := by
  unfold Dk.write
  rw [if_neg (by rw [hn, hl]; simp), if_neg (by rw [he]; simp), if_neg (by omega), if_pos rfl]
theorem write_stops {A : Dk} {f : ByteArray} {I : List Int} (hn : namedB f = true) (hl : I.length = 128) (he : A.goes = false) : A.write f ((A.at f).length : Int) I = (31, A.burnt) := by
  unfold Dk.write
  rw [if_neg (by rw [hn, hl]; simp), if_pos he]
structure Fz (A : Dk) (f : ByteArray) (gen i : Nat) (ps : List (List Int)) (r : Int × Dk) : Prop where
  sorted : Sorted r.2.files
  room : r.2.room = A.room
  others : ∀ t, f ≠ t → r.2.at t = A.at t
  out : (r.1 = 0 ∧ r.2.at f = (A.at f ++ newCels f gen i ps).map Cel.syncd ∧ sizeF r.2.files = sizeF A.files + ps.length) ∨ (r.1 = 31 ∧ ∃ j, r.2.at f = A.at f ++ newCels f gen i (ps.take j))
theorem wrF_fz {f : ByteArray} {gen : Nat} (hn : namedB f = true) (hg : (gen : Int) ≤ 4611686018427387904) : ∀ (ps : List (List Int)) (A : Dk) (i : Nat), Sorted A.files → (A.at f).length = i → (ps.length : Int) ≤ A.free → (∀ p ∈ ps, p.length ≤ 106) → i + ps.length ≤ 2147483647 → 0 < i + ps.length → Fz A f gen i ps (wrF A f gen i ps)
  | [], A, i, hs, hi, _, _, _, h0 => by
    have hl := at_some (A := A) (f := f) (by rw [hi]; simpa using h0)
    show Fz A f gen i [] (A.sync f)
    cases hgo : A.goes with
    | false =>
      have e : A.sync f = (31, A.burnt) := by unfold Dk.sync; rw [hl]; simp [hgo]
      rw [e]
      exact ⟨hs, rfl, fun _ _ => rfl, .inr ⟨rfl, 0, by simp [newCels]; rfl⟩⟩
    | true =>
      rw [sync_some hl hgo]
      have hs2 : Sorted A.burnt.files := hs
      have hz := sizeF_put hs f ((A.at f).map Cel.syncd)
      refine ⟨sorted_put f _ hs2, rfl, fun t ht => by show (A.burnt.set f _).at t = _; rw [at_set hs2, if_neg ht]; rfl, .inl ⟨rfl, ?_, ?_⟩⟩
      · show (A.burnt.set f _).at f = _
        rw [at_set hs2, if_pos rfl]
        simp [newCels]
      · show sizeF (putF A.files f _) = _
        have h2 : ((lk A.files f).getD []).length = (A.at f).length := rfl
        rw [List.length_map] at hz
        simp only [List.length_nil]
        omega
  | p :: ps, A, i, hs, hi, hf, hp, hm, _ => by
    have hpl := hp p (List.mem_cons_self ..)
    simp only [List.length_cons] at hf hm
    have hfo : FrameOk (i : Int) gen p.length := ⟨by omega, by omega, by omega, hg, hpl⟩
    cases hgo : A.goes with
    | false =>
      have hw : A.write f (i : Int) (extI f i gen p) = (31, A.burnt) := by
        have := write_stops (A := A) (f := f) (I := extI f i gen p) hn (extI_length hpl) hgo
        rw [hi] at this
        exact this
      unfold wrF
      rw [if_neg (by simpa using hfo), hw, if_neg (show ¬ ((31 : Int) = 0) by decide)]
      exact ⟨hs, rfl, fun _ _ => rfl, .inr ⟨rfl, 0, by simp [newCels]; rfl⟩⟩
    | true =>
      have hw : A.write f (i : Int) (extI f i gen p) = (0, A.burnt.set f (A.at f ++ [Cel.zero.wrote (extI f i gen p)])) := by
        have := write_goes (A := A) (f := f) (I := extI f i gen p) hn (extI_length hpl) hgo (by omega)
        rw [hi] at this
        exact this
      have hs2 : Sorted A.burnt.files := hs
      have hz := sizeF_put hs f (A.at f ++ [Cel.zero.wrote (extI f i gen p)])
      have h2 : ((lk A.files f).getD []).length = (A.at f).length := rfl
      rw [List.length_append, List.length_cons, List.length_nil] at hz
      have hA : (A.burnt.set f (A.at f ++ [Cel.zero.wrote (extI f i gen p)])).at f = A.at f ++ [Cel.zero.wrote (extI f i gen p)] := by rw [at_set hs2, if_pos rfl]
      have hA2 : ∀ t, f ≠ t → (A.burnt.set f (A.at f ++ [Cel.zero.wrote (extI f i gen p)])).at t = A.at t := fun t ht => by rw [at_set hs2, if_neg ht]; rfl
      have hsz : sizeF (A.burnt.set f (A.at f ++ [Cel.zero.wrote (extI f i gen p)])).files = sizeF A.files + 1 := by
        show sizeF (putF A.files f _) = _
        omega
      have hrm : (A.burnt.set f (A.at f ++ [Cel.zero.wrote (extI f i gen p)])).room = A.room := rfl
      have hst : Sorted (A.burnt.set f (A.at f ++ [Cel.zero.wrote (extI f i gen p)])).files := sorted_put f _ hs2
      unfold wrF
      rw [if_neg (by simpa using hfo), hw, if_pos rfl]
      generalize A.burnt.set f (A.at f ++ [Cel.zero.wrote (extI f i gen p)]) = A2 at *
      have ih := wrF_fz hn hg ps A2 (i + 1) hst (by rw [hA, List.length_append, hi]; rfl) (by unfold Dk.free at hf ⊢; omega) (fun x hx => hp x (List.mem_cons_of_mem _ hx)) (by omega) (by omega)
      refine ⟨ih.sorted, ih.room.trans hrm, fun t ht => (ih.others t ht).trans (hA2 t ht), ?_⟩
      rcases ih.out with ⟨e1, e2, e3⟩ | ⟨e1, j, e2⟩
      · refine .inl ⟨e1, ?_, ?_⟩
        · rw [e2, hA, List.append_assoc]; rfl
        · rw [e3, hsz, List.length_cons]; omega
      · refine .inr ⟨e1, j + 1, ?_⟩
        rw [e2, hA, List.append_assoc]; rfl
theorem keepOf_nil (s : ByteArray) (i : Int) : keepOf [] s i = 0 := rfl
theorem crash_at (B : Dk) (t : ByteArray) : (B.crash []).at t = (B.at t).map fun c => c.crashd 0 := by
  unfold Dk.at Dk.crash
  rw [lk_map (crashL [])]
  cases lk B.files t with
  | none => rfl
  | some l =>
    simp only [Option.map_some, Option.getD_some, crashL, keepOf_nil]
    apply List.ext_getElem?
    intro i
    simp
theorem crash_stl (I : List Int) : (stl I).crashd 0 = stl I := rfl
theorem crash_wrote_read (I : List Int) : ((Cel.zero.wrote I).crashd 0).read = List.replicate 128 0 := by
  show ([] : List Int) ++ z128 = _
  rfl
theorem newCels_mem {f : ByteArray} {gen : Nat} : ∀ {ps : List (List Int)} {i : Nat} {c : Cel}, c ∈ newCels f gen i ps → ∃ k p, p ∈ ps ∧ c = Cel.zero.wrote (extI f k gen p)
  | [], i, c, h => by cases h
  | p :: ps, i, c, h => by
    rcases List.mem_cons.1 h with rfl | h
    · exact ⟨i, p, List.mem_cons_self .., rfl⟩
    · obtain ⟨k, q, h1, h2⟩ := newCels_mem h
      exact ⟨k, q, List.mem_cons_of_mem _ h1, h2⟩
/-- A file of settled cells, and what a second writing makes of it. -/
def Later (B B2 : Dk) (f : ByteArray) (gen i : Nat) (ps : List (List Int)) : Prop := (∃ j, B2.at f = B.at f ++ newCels f gen i (ps.take j)) ∨ B2.at f = (B.at f ++ newCels f gen i ps).map Cel.syncd
theorem later_has {B B2 : Dk} {f : ByteArray} {g1 g2 i : Nat} {p1 p2 : List (List Int)} (h : B.at f = (newCels f g1 0 p1).map Cel.syncd) (hL : Later B B2 f g2 i p2) : HasAt (B2.crash []) f 0 g1 p1 := by
  intro k p hp
  have hk : k < p1.length := (List.getElem?_eq_some_iff.1 hp).1
  have h1 : (B.at f)[k]? = some (stl (extI f k g1 p)) := by
    rw [h, List.getElem?_map, newCels_get p1 0 k p hp, Nat.zero_add]; rfl
  have hkl : k < (B.at f).length := by rw [h, List.length_map, newCels_length]; exact hk
  refine ⟨stl (extI f k g1 p), ?_, by rw [Nat.zero_add]; rfl⟩
  unfold Dk.cel
  rw [if_pos (by omega), Int.toNat_natCast, Nat.zero_add, crash_at, List.getElem?_map]
  rcases hL with ⟨j, e⟩ | e
  · rw [e, List.getElem?_append_left hkl, h1]; rfl
  · rw [e, List.getElem?_map, List.getElem?_append_left hkl, h1]; rfl
theorem later_new {B B2 : Dk} {f : ByteArray} {g2 i : Nat} {p2 : List (List Int)} (hi : (B.at f).length = i) (e : B2.at f = (B.at f ++ newCels f g2 i p2).map Cel.syncd) : HasAt (B2.crash []) f i g2 p2 := by
  intro k p hp
  refine ⟨stl (extI f (i + k) g2 p), ?_, rfl⟩
  unfold Dk.cel
  rw [if_pos (by omega), Int.toNat_natCast, crash_at, List.getElem?_map, e, List.getElem?_map, List.getElem?_append_right (by omega), hi, Nat.add_sub_cancel_left, newCels_get p2 i k p hp]
  rfl
theorem later_bytes {B B2 : Dk} {f : ByteArray} {g1 g2 i : Nat} {p1 p2 : List (List Int)} (h : B.at f = (newCels f g1 0 p1).map Cel.syncd) (hL : Later B B2 f g2 i p2) (hl1 : ∀ p ∈ p1, p.length ≤ 106) (hb1 : ∀ p ∈ p1, Bytes p) (hl2 : ∀ p ∈ p2, p.length ≤ 106) (hb2 : ∀ p ∈ p2, Bytes p) :
    ∀ j c, (B2.crash []).cel f j = some c → Bytes c.read := by
  have hs1 : ∀ c ∈ B.at f, c.syncd = c ∧ c.crashd 0 = c ∧ Bytes c.read := by
    intro c hc
    rw [h] at hc
    obtain ⟨c0, h0, rfl⟩ := List.mem_map.1 hc
    obtain ⟨k, p, hp, rfl⟩ := newCels_mem h0
    exact ⟨rfl, rfl, extI_bytes (name := f) (index := k) (gen := g1) (hl1 p hp) (hb1 p hp)⟩
  intro j c hc
  unfold Dk.cel at hc
  split at hc
  · have hm := List.mem_of_getElem? hc
    rw [crash_at] at hm
    obtain ⟨c0, h0, rfl⟩ := List.mem_map.1 hm
    rcases hL with ⟨j2, e⟩ | e
    · rw [e] at h0
      rcases List.mem_append.1 h0 with h0 | h0
      · rw [(hs1 c0 h0).2.1]; exact (hs1 c0 h0).2.2
      · obtain ⟨k, p, hp, rfl⟩ := newCels_mem h0
        rw [crash_wrote_read]
        exact z_bytes 128
    · rw [e] at h0
      obtain ⟨c1, h1, rfl⟩ := List.mem_map.1 h0
      rcases List.mem_append.1 h1 with h1 | h1
      · rw [(hs1 c1 h1).1, (hs1 c1 h1).2.1]; exact (hs1 c1 h1).2.2
      · obtain ⟨k, p, hp, rfl⟩ := newCels_mem h1
        exact extI_bytes (name := f) (index := k) (gen := g2) (hl2 p hp) (hb2 p hp)
  · cases hc
structure StaysEnd (x : ByteArray) (p1 p2 : List (List Int)) (r : Int × Dk) : Prop where
  code : r.1 = 0 ∨ r.1 = 31
  first : HasBoth (r.2.crash []) x 0 1 p1
  second : r.1 = 0 → HasBoth (r.2.crash []) x p1.length 2 p2
  bytes : ∀ f ∈ halvesL x, ∀ j c, (r.2.crash []).cel f j = some c → Bytes c.read
theorem stays_end {x : ByteArray} (T : TwoNames (x ++ dotA) (x ++ dotB)) {room : Int} {p1 p2 : List (List Int)} {B : Dk} (h : NewHas room x 1 p1 B) (fz : Int) (h0 : 0 < p1.length) (h2 : 0 < p2.length) (hr : 2 * (p1.length : Int) + 2 * p2.length ≤ room) (hm : p1.length + p2.length ≤ 2147483647)
    (hl1 : ∀ p ∈ p1, p.length ≤ 106) (hb1 : ∀ p ∈ p1, Bytes p) (hl2 : ∀ p ∈ p2, p.length ≤ 106) (hb2 : ∀ p ∈ p2, Bytes p) : StaysEnd x p1 p2 (wrP { B with fuse := fz } x p1.length 2 p2) := by
  have la : (B.at (x ++ dotA)).length = p1.length := by rw [h.held.a, List.length_map, newCels_length]
  have lb : (B.at (x ++ dotB)).length = p1.length := by rw [h.held.b, List.length_map, newCels_length]
  have hfr := h.free
  have z1 := wrF_fz (f := x ++ dotA) (gen := 2) T.na (by omega) p2 { B with fuse := fz } p1.length h.sorted la (by show (p2.length : Int) ≤ B.free; omega) hl2 hm (by omega)
  have nob : Later B { B with fuse := fz } (x ++ dotB) 2 p1.length p2 := .inl ⟨0, by simp [newCels]; rfl⟩
  have fin : ∀ r : Int × Dk, (r.1 = 0 ∨ r.1 = 31) → Later B r.2 (x ++ dotA) 2 p1.length p2 → Later B r.2 (x ++ dotB) 2 p1.length p2 →
      (r.1 = 0 → r.2.at (x ++ dotA) = (B.at (x ++ dotA) ++ newCels (x ++ dotA) 2 p1.length p2).map Cel.syncd ∧ r.2.at (x ++ dotB) = (B.at (x ++ dotB) ++ newCels (x ++ dotB) 2 p1.length p2).map Cel.syncd) → StaysEnd x p1 p2 r := by
    intro r hc hA hB h3
    refine ⟨hc, ⟨later_has h.held.a hA, later_has h.held.b hB⟩, fun hz => ⟨later_new la (h3 hz).1, later_new lb (h3 hz).2⟩, fun f hf => ?_⟩
    rcases List.mem_cons.1 hf with rfl | hf
    · exact later_bytes h.held.a hA hl1 hb1 hl2 hb2
    · rcases List.mem_cons.1 hf with rfl | hf
      · exact later_bytes h.held.b hB hl1 hb1 hl2 hb2
      · cases hf
  unfold wrP halvesL
  show StaysEnd x p1 p2 (if (wrF { B with fuse := fz } (x ++ dotA) 2 p1.length p2).1 = 0 then wrL (wrF { B with fuse := fz } (x ++ dotA) 2 p1.length p2).2 p1.length 2 p2 [x ++ dotB] else wrF { B with fuse := fz } (x ++ dotA) 2 p1.length p2)
  generalize wrF { B with fuse := fz } (x ++ dotA) 2 p1.length p2 = r1 at *
  have ob1 : r1.2.at (x ++ dotB) = B.at (x ++ dotB) := z1.others _ T.ne
  have nob1 : Later B r1.2 (x ++ dotB) 2 p1.length p2 := .inl ⟨0, by rw [ob1]; simp [newCels]⟩
  rcases z1.out with ⟨e1, e2, e3⟩ | ⟨e1, j, e2⟩
  · rw [if_pos e1]
    have hsz : sizeF r1.2.files = sizeF B.files + p2.length := e3
    have hrm : r1.2.room = B.room := z1.room
    have z2 := wrF_fz (f := x ++ dotB) (gen := 2) T.nb (by omega) p2 r1.2 p1.length z1.sorted (by rw [ob1]; exact lb) (by unfold Dk.free at hfr ⊢; omega) hl2 hm (by omega)
    show StaysEnd x p1 p2 (if (wrF r1.2 (x ++ dotB) 2 p1.length p2).1 = 0 then (0, (wrF r1.2 (x ++ dotB) 2 p1.length p2).2) else wrF r1.2 (x ++ dotB) 2 p1.length p2)
    generalize wrF r1.2 (x ++ dotB) 2 p1.length p2 = r2 at *
    have oa2 : r2.2.at (x ++ dotA) = r1.2.at (x ++ dotA) := z2.others _ (Ne.symm T.ne)
    have hA : Later B r2.2 (x ++ dotA) 2 p1.length p2 := .inr (by rw [oa2]; exact e2)
    rcases z2.out with ⟨d1, d2, d3⟩ | ⟨d1, j, d2⟩
    · rw [if_pos d1]
      rw [ob1] at d2
      exact fin (0, r2.2) (.inl rfl) hA (.inr d2) (fun _ => ⟨by show r2.2.at _ = _; rw [oa2]; exact e2, d2⟩)
    · rw [if_neg (by rw [d1]; decide)]
      rw [ob1] at d2
      exact fin r2 (.inr d1) hA (.inl ⟨j, d2⟩) (fun hz => by rw [d1] at hz; cases hz)
  · rw [if_neg (by rw [e1]; decide)]
    exact fin r1 (.inr e1) (.inl ⟨j, e2⟩) nob1 (fun hz => by rw [e1] at hz; cases hz)
end Go.Proofs.YtcjcccbjgooooaaGreatDoor
/- A record is appended on a new disk, and read: awake of layer 18. -/
namespace Go.Proofs.YtcjcccbjgooooaaGreatDoor
open Go.RowKit HP
set_option linter.unusedSimpArgs false
set_option linter.unusedVariables false

theorem map_one {l : List Int} : ∀ {ss : List (Sl Int)}, ss.map (·.l) = [l] → ∃ s, ss = [s] ∧ s.l = l
  | [], h => by cases h
  | [s], h => ⟨s, rfl, by simpa using h⟩
  | s :: t :: ss, h => by simp at h
theorem map_two {l m : List Int} : ∀ {ss : List (Sl Int)}, ss.map (·.l) = [l, m] → ∃ s t, ss = [s, t] ∧ s.l = l ∧ t.l = m
  | [], h => by cases h
  | [s], h => by simp at h
  | [s, t], h => ⟨s, t, rfl, by simpa using h⟩
  | s :: t :: u :: ss, h => by simp at h
set_option maxHeartbeats 2000000 in
set_option maxRecDepth 100000 in
theorem awake18_ok (E : Env) (q : HP) (w : World) (hq : ∀ w, Sat E w q → Quarter w ∧ Lib.TabIs Tryz.prog w "internal/strconv.uint64pow10" .u64 Lib.pow10Tab) (hw : Sat E w q) :
    Calls Tryz.prog 15 #[] w fun e w' => e = .returned (.bool true) ∧ Sat E w' q := by
  have hb2 : Bytes [97, 98] := by intro x hx; simp at hx; omega
  obtain ⟨B, hB⟩ := app_new (room := 10) (seg := 1) (b := [97, 98]) twoW1 (by omega) (by omega) hb2 (by decide) (by decide) (by decide)
  have HB := Aside.mk hB
  have HRA : Aside (readG B (nameW 1) 1 1 0 [] = some [[97, 98]]) := ⟨read_all hB (by decide) (by decide)⟩
  have HEQ : Aside (appendW (Dk.new 10) 1 0 1 [97, 98] = ((1, 0), B)) := ⟨hB.eq⟩
  have HBY := Aside.mk hB.has.bytes
  have HQ := Aside.mk (And.intro hq hw)
  have HB2 := Aside.mk hb2
  clear hB hq hw hb2
  go_enter Tryz.func15, Tryz.ntmps15
  go_wp2_with fail
  refine (disk_new_ok E q 10 _ ⟨by omega, by omega⟩ HQ.out.2).mono ?_
  rintro e w1 ⟨d, rfl, h1⟩
  have h2 := h1.alloc (.cells #[.int .u8 97, .int .u8 98] 5 (2, 3))
  have H2 : Aside (Sat E (w1.alloc (.cells #[.int .u8 97, .int .u8 98] 5 (2, 3))) (HP.disk d (Dk.new 10) * (HP.pt w1.heap.size (.cells (b8s [97, 98]).toArray 5 (2, 3)) * q))) := ⟨h2.perm (by ac_rfl)⟩
  have HQ2 : Aside (∀ w, Sat E w (HP.pt w1.heap.size (.cells (b8s [97, 98]).toArray 5 (2, 3)) * q) → Quarter w ∧ Lib.TabIs Tryz.prog w "internal/strconv.uint64pow10" .u64 Lib.pow10Tab ∧ Cells w (some ⟨w1.heap.size, 0, none⟩) (b8s [97, 98])) := ⟨fun w h => ⟨(HQ.out.1 w h.right).1, (HQ.out.1 w h.right).2, h.ptCells rfl⟩⟩
  have cv : (convert 28 28 (.slice (some ⟨w1.heap.size, 0, none⟩) 2 2)).run Tryz.prog (w1.alloc (.cells #[.int .u8 97, .int .u8 98] 5)) = .ok (.slice (some ⟨w1.heap.size, 0, none⟩) 2 2) (w1.alloc (.cells #[.int .u8 97, .int .u8 98] 5 (2, 3))) := Lib.run_convert_bytes_const w1 _ _ #[.int .u8 97, .int .u8 98] 2 2 Tryz.underlying28 Tryz.underlying5
  have HL : Aside ((2 : Nat) ≤ maxLen) := ⟨by unfold maxLen; omega⟩
  clear h1 h2
  go_wp2_with fail
  refine (wal_append E _ d (Dk.new 10) 1 0 1 (some ⟨w1.heap.size, 0, none⟩) [97, 98] 2 2 _ (by unfold wf64; omega) (by unfold wf64; omega) (by unfold wf64; omega) rfl (by omega) HL.out HB2.out HQ2.out H2.out).mono ?_
  rintro e w2 ⟨rfl, h2⟩
  rw [HEQ.out] at h2 ⊢
  have H3 : Aside (Sat E w2 (HP.disk d B * q)) := ⟨h2.perm (by ac_rfl : _ = HP.pt w1.heap.size (.cells (b8s [97, 98]).toArray 5 (2, 3)) * (HP.disk d B * q)) |>.right⟩
  clear h2 H2 HQ2 cv
  go_wp2_with fail
  refine (wal_read E q d B 1 1 _ (by omega) (by omega) (by omega) HBY.out HQ.out.1 H3.out).mono ?_
  intro e w3 h3
  rw [HRA.out] at h3
  obtain ⟨V, c, R, ss, hss, rfl, hsc, h3, hR⟩ := h3
  obtain ⟨s, rfl, hsl⟩ := map_one hss
  obtain ⟨As, cs, ls⟩ := s
  dsimp only at hsl
  subst hsl
  have h4 := hR _ _ h3
  have c5 : Cells w3 V [.slice As 2 cs] := h4.1
  have c6 : Cells w3 As (b8s [97, 98]) := h4.2 _ (List.mem_singleton.2 rfl)
  obtain ⟨a0, rfl, -⟩ := c5.at_ 0 (Nat.zero_lt_succ _)
  obtain ⟨gV, oV, rfl⟩ := slice_addr c5 rfl (k := 0) (Nat.zero_lt_succ _)
  obtain ⟨a1, ha1, cc⟩ := c5.at_ 0 (Nat.zero_lt_succ _)
  cases ha1
  have cl : w3.cell? ⟨gV, oV, none⟩ = some (.slice As 2 cs) := by simpa [Addr.add] using cc
  clear cc
  have e0 : (convert 28 9 (.slice As 2 cs)).run Tryz.prog w3 = .ok (.string ⟨#[97, 98]⟩) w3 := run_string (P := Tryz.prog) (c := cs) Tryz.underlying28 Tryz.underlying5 Tryz.underlying9 c6
  have H4 := Aside.mk h3
  clear h3 H3 h4 c5 c6 hR hss
  go_wp2
  go_ret
  exact ⟨rfl, H4.out.right.right⟩
end Go.Proofs.YtcjcccbjgooooaaGreatDoor
/- A record as an argument; what is short enough of it. -/
namespace Go.Proofs.YtcjcccbjgooooaaGreatDoor
open Go.ChangeShapes Go.WideShapes Go.ChangeAt Go.RowKit HP
set_option linter.unusedVariables false
set_option linter.unusedSimpArgs false

structure RecV where
  seg : Int
  at_ : Int
  lsn : Int
  b : Sl Int
def rdRec : Rd RecV := rdMap (rdPair (rdInt .i64) (rdPair (rdInt .i64) (rdPair (rdInt .i64) (rdPair (rdSl (rdInt .u8)) rdEnd)))) (fun x => (⟨x.1, x.2.1, x.2.2.1, x.2.2.2.1⟩ : RecV)) (fun s => (s.seg, s.at_, s.lsn, s.b, ())) (fun a => rfl)
theorem rdRec_at : rdRec.At Tryz.prog 30 :=
  rdStruct_at Tryz.underlying30 (total := 1 + (1 + (1 + (1 + 0)))) (by kernel_rfl) (rdPair_fs rfl (by kernel_rfl) (rdInt_at Tryz.underlying3) (rdPair_fs rfl (by kernel_rfl) (rdInt_at Tryz.underlying3) (rdPair_fs rfl (by kernel_rfl) (rdInt_at Tryz.underlying3)
    (rdPair_fs rfl (by kernel_rfl) (rdSl_at (n := 1) Tryz.underlying28 (by kernel_rfl) (rdInt_at Tryz.underlying5)) (rdEnd_fs _))))) _ _ _
/-- What a law is told of a record. -/
structure RecOk (W : World) (r : RecV) : Prop where
  seg : wf64 r.seg
  at_ : wf64 r.at_
  lsn : wf64 r.lsn
  le : r.b.l.length ≤ r.b.cap
  cap : r.b.cap ≤ maxLen
  cells : Cells W r.b.A (b8s r.b.l)
  bytes : Bytes r.b.l
def RecV.cut (r : RecV) : List Int := r.b.l.take (min r.b.l.length 500)
theorem RecV.cut_length (r : RecV) : r.cut.length = min r.b.l.length 500 := by unfold RecV.cut; rw [List.length_take]; omega
theorem RecOk.cut_bytes {W : World} {r : RecV} (h : RecOk W r) : Bytes r.cut := fun x hx => h.bytes x (List.mem_of_mem_take hx)
theorem RecOk.cut_cells {W : World} {r : RecV} (h : RecOk W r) : Cells W r.b.A (b8s r.cut) := by
  have := h.cells.take (min r.b.l.length 500)
  unfold RecV.cut
  unfold b8s at this ⊢
  rw [List.map_take]; exact this
theorem RecOk.carry {W W' : World} {r : RecV} (h : RecOk W r) (hb : ∀ k, k < W.heap.size → W'.heap[k]? = W.heap[k]?) : RecOk W' r := ⟨h.seg, h.at_, h.lsn, h.le, h.cap, h.cells.carry hb, h.bytes⟩
theorem agRec : AgTy Tryz.prog 30 4 := ⟨⟨_, Tryz.underlying30, rfl⟩, by kernel_rfl⟩
def RecV.cs (r : RecV) : Array Value := #[.int .i64 r.seg, .int .i64 r.at_, .int .i64 r.lsn, .slice r.b.A r.b.l.length r.b.cap]
set_option maxHeartbeats 1000000 in
set_option maxRecDepth 100000 in
theorem rec_cut (E : Env) (q : HP) (x0 x1 x2 : Value) (A : Option Addr) (n c : Nat) (w : World) (hn : n ≤ c) (hc : c ≤ maxLen) (hw : Sat E w q) :
    Calls Tryz.prog 7 #[.agg #[x0, x1, x2, .slice A n c]] w fun e w' => e = .returned (.slice A (min n 500) c) ∧ Sat E w' q := by
  have hn0 : (if 500 < (n : Int) then 500 else (n : Int)) = (min n 500 : Nat) := by split <;> omega
  obtain ⟨m, hm⟩ : ∃ m, m = min n 500 := ⟨_, rfl⟩
  have HM : Aside ((min (n : Int) 500).toNat = m) := ⟨by omega⟩
  have hmn : m ≤ n := by omega
  have hmc : m ≤ c := by omega
  have hcl : (c : Int) ≤ 9223372036854775807 := by unfold maxLen at hc; omega
  rw [← hm] at hn0 ⊢
  clear hm
  have h1 := hw.alloc (.cells #[x0, x1, x2, .slice A n c] 30)
  have H1 := Aside.mk h1
  clear hw h1
  go_enter Tryz.func7, Tryz.ntmps7
  go_wp2
  go_ret
  exact ⟨by rw [← HM.out]; rfl, H1.out.right⟩
theorem rec_ok {W : World} {r : RecV} (h : rdRec.ok W r) : RecOk W r := by
  obtain ⟨h0, h1, h2, h3, -⟩ := h
  have b := bytes_ok h3
  exact ⟨wf64_of h0, wf64_of h1, wf64_of h2, b.1, b.2.1, b.2.2.1, b.2.2.2⟩
end Go.Proofs.YtcjcccbjgooooaaGreatDoor
/- dryrotplain.Spoil of one slice of one's own: it stays one's own. -/
namespace Go.Proofs.YtcjcccbjgooooaaGreatDoor
open Go.RowKit HP
set_option linter.unusedSimpArgs false
set_option linter.unusedVariables false

set_option maxHeartbeats 2000000 in
set_option maxRecDepth 100000 in
theorem spoil_ok (E : Env) (q : HP) (bl : Nat) (A : Option Addr) (n c : Nat) (l : List Int) (w : World) (hn : n ≤ maxLen) (hw : Sat E w (HP.pt bl (.cells #[.slice A n c] 28) * (HP.row 5 1 (.slice A n c) n (b8s l) * q))) :
    Calls Tryz.prog 76 #[.slice (some ⟨bl, 0, none⟩) 1 1] w fun e w' => e = .returned (.tuple #[]) ∧ Sat E w' q := by
  unfold maxLen at hn
  have c0 := hw.cell 0
  simp only [List.getElem?_toArray, List.getElem?_cons_zero, List.getElem?_cons_succ] at c0
  have HW := Aside.mk hw
  clear hw
  go_enter Tryz.func76, Tryz.ntmps76
  go_wp2
  go_loopw [7] (fun v7 wr => ∃ k : Nat, k ≤ 1 ∧ v7 = .int .i64 k ∧ Aside (∃ l', Sat E wr (HP.pt bl (.cells #[.slice A n c] 28) * (HP.row 5 1 (.slice A n c) n (b8s l') * q)))) (fun i _ => 1 - (intOf i).toNat)
  case atStart => exact ⟨0, by omega, rfl, ⟨_, HW.out⟩⟩
  case round =>
    clear HW c0
    obtain ⟨k, hk, rfl, HS⟩ := hrel
    by_cases hlt : k < 1
    · obtain rfl : k = 0 := by omega
      obtain ⟨l', h⟩ := HS.out
      have c0 := h.cell 0
      simp only [List.getElem?_toArray, List.getElem?_cons_zero, List.getElem?_cons_succ] at c0
      have HS2 := Aside.mk h
      clear h HS
      go_wp2
      go_loopw [13] (fun v13 wi => ∃ i : Nat, i ≤ n ∧ v13 = .int .i64 i ∧ Aside (∃ l', Sat E wi (HP.pt bl (.cells #[.slice A n c] 28) * (HP.row 5 1 (.slice A n c) n (b8s l') * q)))) (fun i _ => n - (intOf i).toNat)
      case atStart => exact ⟨0, by omega, rfl, ⟨_, HS2.out⟩⟩
      case round =>
        clear HS2 c0
        obtain ⟨i, hi, rfl, HI⟩ := hrel
        by_cases hil : i < n
        · have hil2 : (i : Int) < (n : Int) := by omega
          have hi0 : (0 : Int) ≤ (i : Int) := by omega
          obtain ⟨l2, h⟩ := HI.out
          have hr := h.s2
          have hlen := hr.row_cases.1
          rw [b8s_length, Nat.mul_one] at hlen
          have hrc := hr.row_cells
          obtain ⟨pa, hpa, -⟩ := hrc.at_ i (by rw [b8s_length, hlen]; exact hil)
          obtain ⟨g, o, rfl⟩ : ∃ g o, pa = ⟨g, o, none⟩ := slice_addr hrc hpa (by rw [b8s_length, hlen]; exact hil)
          subst hpa
          obtain ⟨dv, hdv⟩ : ∃ dv, dv = l2.getD i 0 := ⟨_, rfl⟩
          have ci := hr.row_cell i (.int .u8 dv) (by
            rw [hdv]; unfold b8s
            rw [List.getElem?_map, List.getD_eq_getElem?_getD, List.getElem?_eq_getElem (by rw [hlen]; exact hil)]; rfl)
          have zi := hr.row_thaw i (by rw [b8s_length, hlen]; exact hil)
          have hs := hr.row_set i (by rw [b8s_length, hlen]; exact hil) (.int .u8 (bits .xor .u8 dv 255))
          rw [b8s_set] at hs
          have HS3 : Aside (∃ l', Sat E _ (HP.pt bl (.cells #[.slice (some ⟨g, o, none⟩) n c] 28) * (HP.row 5 1 (.slice (some ⟨g, o, none⟩) n c) n (b8s l') * q))) := ⟨⟨_, hs.s2⟩⟩
          clear hr hlen hrc hdv hs h HI
          go_wp2
          go_roundw
          case rel => exact ⟨i + 1, by omega, by go_num, HS3⟩
          case measure => simp [intOf]; omega
        · obtain rfl : i = n := by omega
          go_wp2
          go_roundw
          case rel => exact ⟨1, by omega, by go_num, HI⟩
          case measure => simp [intOf]
    · obtain rfl : k = 1 := by omega
      obtain ⟨l', h⟩ := HS.out
      have HS2 := Aside.mk h
      clear h HS
      go_wp2
      exact ⟨rfl, .tuple #[], by first | rfl | (unfold results; rw [show Tryz.f76.results = #[] by kernel_rfl]; simp), rfl, HS2.out.right.right⟩
end Go.Proofs.YtcjcccbjgooooaaGreatDoor
/- dryrotplain: a step done on a disk and on the document's, told by the same model: their answers are the same. -/
namespace Go.Proofs.YtcjcccbjgooooaaGreatDoor
open Go.RowKit HP
set_option linter.unusedSimpArgs false
set_option linter.unusedVariables false

/-- A step's own bounds. -/
structure StepV.Wf (s : StepV) : Prop where
  op : wf64 s.op
  i : wf64 s.i
  at_ : wf64 s.at_
  n : wf64 s.n
  name : s.name.size ≤ maxLen
  mask : 0 ≤ s.mask ∧ s.mask ≤ 255
  b : s.b.l.length ≤ s.b.cap ∧ s.b.cap ≤ maxLen ∧ Bytes s.b.l
  kept : (s.kept.l.length ≤ s.kept.cap ∧ s.kept.cap ≤ maxLen) ∧ ∀ k ∈ s.kept.l, k.name.size ≤ maxLen ∧ wf64 k.index ∧ wf64 k.bytes
theorem StepV.Ok.wf {W : World} {s : StepV} (h : s.Ok W) : s.Wf := ⟨h.op, h.i, h.at_, h.n, h.name, h.mask, ⟨h.b.1, h.b.2.1, h.b.2.2.2⟩, ⟨⟨h.kept.1, h.kept.2.1⟩, h.kept.2.2.2⟩⟩
def fuseC (n : Int) : Int := if n < 0 then 1 else 0
def Dk.fuseK (A : Dk) (n : Int) : Dk := if n < 0 then A else { A with fuse := n }
/-- Which of the seven kinds a step is. -/
def opK (op : Int) : Int := wrap64 ((IntKind.u64.wrap op).tmod 7)
theorem opK_range (op : Int) : 0 ≤ opK op ∧ opK op ≤ 6 := by
  unfold opK
  rw [IntKind.wrap_u64, Int.tmod_eq_emod_of_nonneg (by omega)]
  unfold wrap64
  omega
/-- What a step makes of a disk. -/
def Dk.stepK (A : Dk) (s : StepV) (k : Int) : Dk :=
  if k = 0 then (A.write s.name s.i (fullOf s.b.l)).2 else if k = 1 then (A.write s.name s.i s.b.l).2 else if k = 2 then (A.sync s.name).2
  else if k = 3 then (A.remove s.name).2 else if k = 4 then (A.rot s.name s.i s.at_ s.mask).2 else if k = 5 then A.crash s.kept.l else A.fuseK s.n
theorem Dk.Byt.stepK {A : Dk} (h : A.Byt) {s : StepV} (hs : s.Wf) (k : Int) : (A.stepK s k).Byt := by
  unfold Dk.stepK
  split
  · exact h.write _ _ (fullOf_bytes hs.b.2.2)
  split
  · exact h.write _ _ hs.b.2.2
  split
  · exact h.sync _
  split
  · exact h.remove _
  split
  · exact h.rot _ _ _ hs.mask.1 hs.mask.2
  split
  · exact h.crash _
  unfold Dk.fuseK
  split
  · exact h
  · exact h.fuse _
/-- Whatever else lies there. -/
def HP.any : HP := fun _ => True
theorem Sat.any_of {E : Env} {w : World} {p q : HP} (h : Sat E w (p * q)) : Sat E w (p * HP.any) := by
  obtain ⟨he, k, hk, h1, h2, hd, hu, hp, -⟩ := h
  exact ⟨he, k, hk, h1, h2, hd, hu, hp, trivial⟩
theorem step_box {E : Env} {w : World} {BX : Nat} {s : StepV} {q : HP} (h : Sat E w (HP.pt BX (.cells s.vals.toArray 49) * q)) :
    w.cell? ⟨BX, 0, none⟩ = some (.int .i64 s.op) ∧ w.cell? ⟨BX, 1, none⟩ = some (.int .i64 s.i) ∧ w.cell? ⟨BX, 2, none⟩ = some (.int .i64 s.at_) ∧ w.cell? ⟨BX, 3, none⟩ = some (.int .i64 s.n) ∧ w.cell? ⟨BX, 4, none⟩ = some (.string s.name) ∧ w.cell? ⟨BX, 5, none⟩ = some (.slice s.b.A s.b.l.length s.b.cap) ∧ w.cell? ⟨BX, 6, none⟩ = some (.int .u8 s.mask) ∧ w.cell? ⟨BX, 7, none⟩ = some (.slice s.kept.A s.kept.l.length s.kept.cap) := by
  have g := fun j => h.cell j
  exact ⟨by rw [g 0]; rfl, by rw [g 1]; rfl, by rw [g 2]; rfl, by rw [g 3]; rfl, by rw [g 4]; rfl, by rw [g 5]; rfl, by rw [g 6]; rfl, by rw [g 7]; rfl⟩
theorem agStep : AgTy Tryz.prog 49 8 := ⟨⟨_, Tryz.underlying49, rfl⟩, by kernel_rfl⟩
theorem step_load {E : Env} {w : World} {BX : Nat} {s : StepV} {q : HP} (h : Sat E w (HP.pt BX (.cells s.vals.toArray 49) * q)) :
    (loadVar 49 ⟨BX, 0, none⟩).run Tryz.prog w = .ok (.agg #[.int .i64 s.op, .int .i64 s.i, .int .i64 s.at_, .int .i64 s.n, .string s.name, .slice s.b.A s.b.l.length s.b.cap, .int .u8 s.mask, .slice s.kept.A s.kept.l.length s.kept.cap]) w := by
  refine run_loadAgg (cs := s.vals) agStep rfl fun j u hj => ⟨_, rfl, ?_⟩
  rw [addr_add, Nat.zero_add, h.cell]
  simpa using hj
theorem fuse_d (E : Env) (q : HP) (d : Nat) (A : Dk) (n : Int) (w : World) (hn : wf64 n) (hw : Sat E w (HP.disk d A * q)) :
    Calls Tryz.prog 29 #[.pointer (some ⟨d, 0, none⟩), .int .i64 n] w fun e w' => e = .returned (.int .i64 (fuseC n)) ∧ Sat E w' (HP.disk d (A.fuseK n) * q) := by
  refine (disk_fuse_ok E q d A n w (by unfold wf64 at hn; omega) hw).mono fun e w' h => ?_
  unfold Dk.fuseK fuseC
  rcases h with ⟨h0, h1, h2⟩ | ⟨h0, h1, h2⟩
  · rw [if_pos h0, if_pos h0]; exact ⟨h1, h2⟩
  · rw [if_neg (by omega), if_neg (by omega)]; exact ⟨h1, h2⟩
theorem fuse_r (E : Env) (q : HP) (y : Nat) (A : Dk) (n : Int) (w : World) (hn : wf64 n) (hw : Sat E w (HP.rdisk y A * q)) :
    Calls Tryz.prog 81 #[.pointer (some ⟨y, 0, none⟩), .int .i64 n] w fun e w' => e = .returned (.int .i64 (fuseC n)) ∧ Sat E w' (HP.rdisk y (A.fuseK n) * q) := by
  refine (ref_fuse E q y A n w (by unfold wf64 at hn; omega) hw).mono fun e w' h => ?_
  unfold Dk.fuseK fuseC
  rcases h with ⟨h0, h1, h2⟩ | ⟨h0, h1, h2⟩
  · rw [if_pos h0, if_pos h0]; exact ⟨h1, h2⟩
  · rw [if_neg (by omega), if_neg (by omega)]; exact ⟨h1, h2⟩
set_option maxHeartbeats 8000000 in
set_option maxRecDepth 100000 in
theorem do_ok (E : Env) (q : HP) (d y : Nat) (A : Dk) (s : StepV) (w : World) (hok : s.Wf) (hq : ∀ E w, Sat E w q → Cells w s.b.A (b8s s.b.l) ∧ Cells w s.kept.A (kepCells s.kept.l)) (hw : Sat E w (HP.disk d A * (HP.rdisk y A * q))) :
    Calls Tryz.prog 22 #[.agg s.vals.toArray, .pointer (some ⟨d, 0, none⟩), .pointer (some ⟨y, 0, none⟩)] w fun e w' => e = .returned (.bool true) ∧ Sat E w' (HP.disk d (A.stepK s (opK s.op)) * (HP.rdisk y (A.stepK s (opK s.op)) * q)) := by
  have HOK := Aside.mk hok
  have HQ := Aside.mk hq
  have HBL : Aside (s.b.l.length ≤ maxLen) := ⟨Nat.le_trans hok.b.1 hok.b.2.1⟩
  have HKL : Aside (s.kept.l.length ≤ maxLen) := ⟨Nat.le_trans hok.kept.1.1 hok.kept.1.2⟩
  obtain ⟨AR, hAR⟩ : ∃ AR, AR = A.stepK s (opK s.op) := ⟨_, rfl⟩
  rw [← hAR]
  obtain ⟨kk, hkk⟩ : ∃ kk, kk = opK s.op := ⟨_, rfl⟩
  have hkr := opK_range s.op
  rw [← hkk] at hkr hAR
  unfold opK at hkk
  have hkk := hkk.symm
  have hB := hw.alloc (.cells s.vals.toArray 49)
  obtain ⟨BX, hBX⟩ : ∃ BX, BX = w.heap.size := ⟨_, rfl⟩
  rw [← hBX] at hB
  have HS := Aside.mk hB
  have HBX := Aside.mk hBX
  have HAR := Aside.mk hAR
  obtain ⟨c0, c1, c2, c3, c4, c5, c6, c7⟩ := step_box hB
  clear hok hq hB hBX hw hAR
  unfold StepV.vals Sl.val at c0 c1 c2 c3 c4 c5 c6 c7 ⊢
  go_enter Tryz.func22, Tryz.ntmps22
  go_upto_region 2 with fail
  rw [hkk, ← HBX.out]
  clear hkk
  obtain ⟨wb, hwb⟩ : ∃ wb, wb = World.alloc w (.cells #[.int .i64 s.op, .int .i64 s.i, .int .i64 s.at_, .int .i64 s.n, .string s.name, .slice s.b.A s.b.l.length s.b.cap, .int .u8 s.mask, .slice s.kept.A s.kept.l.length s.kept.cap] 49) := ⟨_, rfl⟩
  have HS2 : Aside (Sat E wb (HP.pt BX (.cells s.vals.toArray 49) * (HP.disk d A * (HP.rdisk y A * q)))) := ⟨by rw [hwb]; exact HS.out⟩
  rw [← hwb]
  rw [← hwb] at c0 c1 c2 c3 c4 c5 c6 c7
  clear hwb HS
  have HS := HS2
  clear HS2
  by_cases k2 : kk = 2
  · subst k2
    have HR : Aside (AR = (A.sync s.name).2) := ⟨by rw [HAR.out]; unfold Dk.stepK; simp⟩
    go_upto_region 10 with fail
    clear c0 c1 c2 c3 c4 c5 c6 c7
    refine region_R [3, 7] [3] (fun W => Sat E W (HP.pt BX (.cells s.vals.toArray 49) * HP.any)) #[false, false, false, false, false, false, false, false, false, false] (by kernel_rfl) rfl rfl ?_
    have HT : Aside ((fun W => Sat E W (HP.pt BX (.cells s.vals.toArray 49) * HP.any)) _) := ⟨(Sat.any_of HS.out).drew⟩
    refine wpR_rd 0 #[true, false, false, false, false, false, false, false, false, false] rfl onlyN_noPanic (by kernel_rfl) (fun K hK => ?_); (go_simp; try go_bits); refine hK _ ?_; clear hK K
    refine wpR_rd 1 #[true, true, false, false, false, false, false, false, false, false] rfl onlyN_noPanic (by kernel_rfl) (fun K hK => ?_); (go_simp; try go_bits); refine hK _ ?_; clear hK K
    refine wpR_held (i := 2) (v := .string s.name) #[true, true, true, false, false, false, false, false, false, false] rfl onlyN_noPanic (by kernel_rfl) HT.out (.inl ⟨rfl, fun w' hT => ?_⟩) ?_
    · obtain ⟨c0, c1, c2, c3, c4, c5, c6, c7⟩ := step_box hT; go_simp
    simp only [Act.put, List.setIfInBounds_toArray, List.set_cons_zero, List.set_cons_succ]
    refine wpR_pu 4 #[true, true, true, false, true, false, false, false, false, false] rfl onlyN_noPanic (by kernel_rfl) (fun K hK => ?_); (go_simp; try go_bits); refine hK _ ?_; clear hK K
    refine wpR_pu 5 #[true, true, true, false, true, true, false, false, false, false] rfl onlyN_noPanic (by kernel_rfl) (fun K hK => ?_); (go_simp; try go_bits); refine hK _ ?_; clear hK K
    refine wpR_held (i := 6) (v := .string s.name) #[true, true, true, false, true, true, true, false, false, false] rfl onlyN_noPanic (by kernel_rfl) HT.out (.inl ⟨rfl, fun w' hT => ?_⟩) ?_
    · obtain ⟨c0, c1, c2, c3, c4, c5, c6, c7⟩ := step_box hT; go_simp
    simp only [Act.put, List.setIfInBounds_toArray, List.set_cons_zero, List.set_cons_succ]
    clear HT
    have HS0 := Aside.mk HS.out.drew
    clear HS
    revert HS0
    generalize World.drew wb = W0
    intro HS0
    refine wpR_keep #[true, true, true, true, true, true, true, false, false, false] (i := 3) rfl (by kernel_rfl) (fun K hK => ?_)
    go_simp
    refine (disk_sync E _ d A s.name _ HOK.out.name (HS0.out.s2)).mono ?_
    rintro e W1 ⟨rfl, hn1a⟩
    have hn1 : Sat E W1 (HP.pt BX (.cells s.vals.toArray 49) * (HP.disk d (A.sync s.name).2 * (HP.rdisk y A * q))) := hn1a.s2
    refine hK _ _ (Sat.any_of hn1) ?_
    clear hK K hn1a
    have HS1 : Aside (Sat E W1 (HP.pt BX (.cells s.vals.toArray 49) * (HP.disk d (A.sync s.name).2 * (HP.rdisk y A * q)))) := ⟨hn1.perm (by ac_rfl)⟩
    clear hn1
    refine wpR_eff #[true, true, true, true, true, true, true, true, false, false] (i := 7) rfl (by kernel_rfl) (fun K hK => ?_)
    go_simp
    refine (ref_sync E _ y A s.name _ (HS1.out.s3)).mono ?_
    rintro e W2 ⟨rfl, hn2a⟩
    have hn2 : Sat E W2 (HP.pt BX (.cells s.vals.toArray 49) * (HP.disk d (A.sync s.name).2 * (HP.rdisk y (A.sync s.name).2 * q))) := hn2a.perm (by ac_rfl)
    refine hK _ _ ?_
    clear hK K hn2a
    have HS2 : Aside (Sat E W2 (HP.pt BX (.cells s.vals.toArray 49) * (HP.disk d (A.sync s.name).2 * (HP.rdisk y (A.sync s.name).2 * q)))) := ⟨hn2.perm (by ac_rfl)⟩
    clear hn2 HS1
    refine wpR_rd 8 #[true, true, true, true, true, true, true, true, true, false] rfl onlyN_noPanic (by kernel_rfl) (fun K hK => ?_); (go_simp; try go_bits); refine hK _ ?_; clear hK K
    refine wpR_rd 9 #[true, true, true, true, true, true, true, true, true, true] rfl onlyN_noPanic (by kernel_rfl) (fun K hK => ?_); (go_simp; try go_bits); refine hK _ ?_; clear hK K
    refine wpR_done (by kernel_rfl) ?_ _
    simp only [OnlyN]
    have HS9 := HS2
    clear HS2
    go_wp2
    go_ret
    refine ⟨by simp, ?_⟩
    rw [HR.out]
    exact HS9.out.right
  by_cases k3 : kk = 3
  · subst k3
    have HR : Aside (AR = (A.remove s.name).2) := ⟨by rw [HAR.out]; unfold Dk.stepK; simp⟩
    go_upto_region 12 with fail
    clear c0 c1 c2 c3 c4 c5 c6 c7
    refine region_R [3, 7] [3] (fun W => Sat E W (HP.pt BX (.cells s.vals.toArray 49) * HP.any)) #[false, false, false, false, false, false, false, false, false, false] (by kernel_rfl) rfl rfl ?_
    have HT : Aside ((fun W => Sat E W (HP.pt BX (.cells s.vals.toArray 49) * HP.any)) _) := ⟨(Sat.any_of HS.out).drew⟩
    refine wpR_rd 0 #[true, false, false, false, false, false, false, false, false, false] rfl onlyN_noPanic (by kernel_rfl) (fun K hK => ?_); (go_simp; try go_bits); refine hK _ ?_; clear hK K
    refine wpR_rd 1 #[true, true, false, false, false, false, false, false, false, false] rfl onlyN_noPanic (by kernel_rfl) (fun K hK => ?_); (go_simp; try go_bits); refine hK _ ?_; clear hK K
    refine wpR_held (i := 2) (v := .string s.name) #[true, true, true, false, false, false, false, false, false, false] rfl onlyN_noPanic (by kernel_rfl) HT.out (.inl ⟨rfl, fun w' hT => ?_⟩) ?_
    · obtain ⟨c0, c1, c2, c3, c4, c5, c6, c7⟩ := step_box hT; go_simp
    simp only [Act.put, List.setIfInBounds_toArray, List.set_cons_zero, List.set_cons_succ]
    refine wpR_pu 4 #[true, true, true, false, true, false, false, false, false, false] rfl onlyN_noPanic (by kernel_rfl) (fun K hK => ?_); (go_simp; try go_bits); refine hK _ ?_; clear hK K
    refine wpR_pu 5 #[true, true, true, false, true, true, false, false, false, false] rfl onlyN_noPanic (by kernel_rfl) (fun K hK => ?_); (go_simp; try go_bits); refine hK _ ?_; clear hK K
    refine wpR_held (i := 6) (v := .string s.name) #[true, true, true, false, true, true, true, false, false, false] rfl onlyN_noPanic (by kernel_rfl) HT.out (.inl ⟨rfl, fun w' hT => ?_⟩) ?_
    · obtain ⟨c0, c1, c2, c3, c4, c5, c6, c7⟩ := step_box hT; go_simp
    simp only [Act.put, List.setIfInBounds_toArray, List.set_cons_zero, List.set_cons_succ]
    clear HT
    have HS0 := Aside.mk HS.out.drew
    clear HS
    revert HS0
    generalize World.drew wb = W0
    intro HS0
    refine wpR_keep #[true, true, true, true, true, true, true, false, false, false] (i := 3) rfl (by kernel_rfl) (fun K hK => ?_)
    go_simp
    refine (disk_remove E _ d A s.name _ HOK.out.name (HS0.out.s2)).mono ?_
    rintro e W1 ⟨rfl, hn1a⟩
    have hn1 : Sat E W1 (HP.pt BX (.cells s.vals.toArray 49) * (HP.disk d (A.remove s.name).2 * (HP.rdisk y A * q))) := hn1a.s2
    refine hK _ _ (Sat.any_of hn1) ?_
    clear hK K hn1a
    have HS1 : Aside (Sat E W1 (HP.pt BX (.cells s.vals.toArray 49) * (HP.disk d (A.remove s.name).2 * (HP.rdisk y A * q)))) := ⟨hn1.perm (by ac_rfl)⟩
    clear hn1
    refine wpR_eff #[true, true, true, true, true, true, true, true, false, false] (i := 7) rfl (by kernel_rfl) (fun K hK => ?_)
    go_simp
    refine (ref_remove E _ y A s.name _ (HS1.out.s3)).mono ?_
    rintro e W2 ⟨rfl, hn2a⟩
    have hn2 : Sat E W2 (HP.pt BX (.cells s.vals.toArray 49) * (HP.disk d (A.remove s.name).2 * (HP.rdisk y (A.remove s.name).2 * q))) := hn2a.perm (by ac_rfl)
    refine hK _ _ ?_
    clear hK K hn2a
    have HS2 : Aside (Sat E W2 (HP.pt BX (.cells s.vals.toArray 49) * (HP.disk d (A.remove s.name).2 * (HP.rdisk y (A.remove s.name).2 * q)))) := ⟨hn2.perm (by ac_rfl)⟩
    clear hn2 HS1
    refine wpR_rd 8 #[true, true, true, true, true, true, true, true, true, false] rfl onlyN_noPanic (by kernel_rfl) (fun K hK => ?_); (go_simp; try go_bits); refine hK _ ?_; clear hK K
    refine wpR_rd 9 #[true, true, true, true, true, true, true, true, true, true] rfl onlyN_noPanic (by kernel_rfl) (fun K hK => ?_); (go_simp; try go_bits); refine hK _ ?_; clear hK K
    refine wpR_done (by kernel_rfl) ?_ _
    simp only [OnlyN]
    have HS9 := HS2
    clear HS2
    go_wp2
    go_ret
    refine ⟨by simp, ?_⟩
    rw [HR.out]
    exact HS9.out.right
  by_cases k4 : kk = 4
  · subst k4
    have HR : Aside (AR = (A.rot s.name s.i s.at_ s.mask).2) := ⟨by rw [HAR.out]; unfold Dk.stepK; simp⟩
    go_upto_region 14 with fail
    clear c0 c1 c2 c3 c4 c5 c6 c7
    refine region_R [9, 19] [9] (fun W => Sat E W (HP.pt BX (.cells s.vals.toArray 49) * HP.any)) #[false, false, false, false, false, false, false, false, false, false, false, false, false, false, false, false, false, false, false, false, false, false] (by kernel_rfl) rfl rfl ?_
    have HT : Aside ((fun W => Sat E W (HP.pt BX (.cells s.vals.toArray 49) * HP.any)) _) := ⟨(Sat.any_of HS.out).drew⟩
    refine wpR_rd 0 #[true, false, false, false, false, false, false, false, false, false, false, false, false, false, false, false, false, false, false, false, false, false] rfl onlyN_noPanic (by kernel_rfl) (fun K hK => ?_); (go_simp; try go_bits); refine hK _ ?_; clear hK K
    refine wpR_rd 1 #[true, true, false, false, false, false, false, false, false, false, false, false, false, false, false, false, false, false, false, false, false, false] rfl onlyN_noPanic (by kernel_rfl) (fun K hK => ?_); (go_simp; try go_bits); refine hK _ ?_; clear hK K
    refine wpR_held (i := 2) (v := .string s.name) #[true, true, true, false, false, false, false, false, false, false, false, false, false, false, false, false, false, false, false, false, false, false] rfl onlyN_noPanic (by kernel_rfl) HT.out (.inl ⟨rfl, fun w' hT => ?_⟩) ?_
    · obtain ⟨c0, c1, c2, c3, c4, c5, c6, c7⟩ := step_box hT; go_simp
    simp only [Act.put, List.setIfInBounds_toArray, List.set_cons_zero, List.set_cons_succ]
    refine wpR_rd 3 #[true, true, true, true, false, false, false, false, false, false, false, false, false, false, false, false, false, false, false, false, false, false] rfl onlyN_noPanic (by kernel_rfl) (fun K hK => ?_); (go_simp; try go_bits); refine hK _ ?_; clear hK K
    refine wpR_held (i := 4) (v := .int .i64 s.i) #[true, true, true, true, true, false, false, false, false, false, false, false, false, false, false, false, false, false, false, false, false, false] rfl onlyN_noPanic (by kernel_rfl) HT.out (.inl ⟨rfl, fun w' hT => ?_⟩) ?_
    · obtain ⟨c0, c1, c2, c3, c4, c5, c6, c7⟩ := step_box hT; go_simp
    simp only [Act.put, List.setIfInBounds_toArray, List.set_cons_zero, List.set_cons_succ]
    refine wpR_rd 5 #[true, true, true, true, true, true, false, false, false, false, false, false, false, false, false, false, false, false, false, false, false, false] rfl onlyN_noPanic (by kernel_rfl) (fun K hK => ?_); (go_simp; try go_bits); refine hK _ ?_; clear hK K
    refine wpR_held (i := 6) (v := .int .i64 s.at_) #[true, true, true, true, true, true, true, false, false, false, false, false, false, false, false, false, false, false, false, false, false, false] rfl onlyN_noPanic (by kernel_rfl) HT.out (.inl ⟨rfl, fun w' hT => ?_⟩) ?_
    · obtain ⟨c0, c1, c2, c3, c4, c5, c6, c7⟩ := step_box hT; go_simp
    simp only [Act.put, List.setIfInBounds_toArray, List.set_cons_zero, List.set_cons_succ]
    refine wpR_rd 7 #[true, true, true, true, true, true, true, true, false, false, false, false, false, false, false, false, false, false, false, false, false, false] rfl onlyN_noPanic (by kernel_rfl) (fun K hK => ?_); (go_simp; try go_bits); refine hK _ ?_; clear hK K
    refine wpR_held (i := 8) (v := .int .u8 s.mask) #[true, true, true, true, true, true, true, true, true, false, false, false, false, false, false, false, false, false, false, false, false, false] rfl onlyN_noPanic (by kernel_rfl) HT.out (.inl ⟨rfl, fun w' hT => ?_⟩) ?_
    · obtain ⟨c0, c1, c2, c3, c4, c5, c6, c7⟩ := step_box hT; go_simp
    simp only [Act.put, List.setIfInBounds_toArray, List.set_cons_zero, List.set_cons_succ]
    refine wpR_pu 10 #[true, true, true, true, true, true, true, true, true, false, true, false, false, false, false, false, false, false, false, false, false, false] rfl onlyN_noPanic (by kernel_rfl) (fun K hK => ?_); (go_simp; try go_bits); refine hK _ ?_; clear hK K
    refine wpR_pu 11 #[true, true, true, true, true, true, true, true, true, false, true, true, false, false, false, false, false, false, false, false, false, false] rfl onlyN_noPanic (by kernel_rfl) (fun K hK => ?_); (go_simp; try go_bits); refine hK _ ?_; clear hK K
    refine wpR_held (i := 12) (v := .string s.name) #[true, true, true, true, true, true, true, true, true, false, true, true, true, false, false, false, false, false, false, false, false, false] rfl onlyN_noPanic (by kernel_rfl) HT.out (.inl ⟨rfl, fun w' hT => ?_⟩) ?_
    · obtain ⟨c0, c1, c2, c3, c4, c5, c6, c7⟩ := step_box hT; go_simp
    simp only [Act.put, List.setIfInBounds_toArray, List.set_cons_zero, List.set_cons_succ]
    refine wpR_pu 13 #[true, true, true, true, true, true, true, true, true, false, true, true, true, true, false, false, false, false, false, false, false, false] rfl onlyN_noPanic (by kernel_rfl) (fun K hK => ?_); (go_simp; try go_bits); refine hK _ ?_; clear hK K
    refine wpR_held (i := 14) (v := .int .i64 s.i) #[true, true, true, true, true, true, true, true, true, false, true, true, true, true, true, false, false, false, false, false, false, false] rfl onlyN_noPanic (by kernel_rfl) HT.out (.inl ⟨rfl, fun w' hT => ?_⟩) ?_
    · obtain ⟨c0, c1, c2, c3, c4, c5, c6, c7⟩ := step_box hT; go_simp
    simp only [Act.put, List.setIfInBounds_toArray, List.set_cons_zero, List.set_cons_succ]
    refine wpR_pu 15 #[true, true, true, true, true, true, true, true, true, false, true, true, true, true, true, true, false, false, false, false, false, false] rfl onlyN_noPanic (by kernel_rfl) (fun K hK => ?_); (go_simp; try go_bits); refine hK _ ?_; clear hK K
    refine wpR_held (i := 16) (v := .int .i64 s.at_) #[true, true, true, true, true, true, true, true, true, false, true, true, true, true, true, true, true, false, false, false, false, false] rfl onlyN_noPanic (by kernel_rfl) HT.out (.inl ⟨rfl, fun w' hT => ?_⟩) ?_
    · obtain ⟨c0, c1, c2, c3, c4, c5, c6, c7⟩ := step_box hT; go_simp
    simp only [Act.put, List.setIfInBounds_toArray, List.set_cons_zero, List.set_cons_succ]
    refine wpR_pu 17 #[true, true, true, true, true, true, true, true, true, false, true, true, true, true, true, true, true, true, false, false, false, false] rfl onlyN_noPanic (by kernel_rfl) (fun K hK => ?_); (go_simp; try go_bits); refine hK _ ?_; clear hK K
    refine wpR_held (i := 18) (v := .int .u8 s.mask) #[true, true, true, true, true, true, true, true, true, false, true, true, true, true, true, true, true, true, true, false, false, false] rfl onlyN_noPanic (by kernel_rfl) HT.out (.inl ⟨rfl, fun w' hT => ?_⟩) ?_
    · obtain ⟨c0, c1, c2, c3, c4, c5, c6, c7⟩ := step_box hT; go_simp
    simp only [Act.put, List.setIfInBounds_toArray, List.set_cons_zero, List.set_cons_succ]
    clear HT
    have HS0 := Aside.mk HS.out.drew
    clear HS
    revert HS0
    generalize World.drew wb = W0
    intro HS0
    refine wpR_keep #[true, true, true, true, true, true, true, true, true, true, true, true, true, true, true, true, true, true, true, false, false, false] (i := 9) rfl (by kernel_rfl) (fun K hK => ?_)
    go_simp
    refine (disk_rot E _ d A s.name s.i s.at_ s.mask _ HOK.out.name (HS0.out.s2)).mono ?_
    rintro e W1 ⟨rfl, hn1a⟩
    have hn1 : Sat E W1 (HP.pt BX (.cells s.vals.toArray 49) * (HP.disk d (A.rot s.name s.i s.at_ s.mask).2 * (HP.rdisk y A * q))) := hn1a.s2
    refine hK _ _ (Sat.any_of hn1) ?_
    clear hK K hn1a
    have HS1 : Aside (Sat E W1 (HP.pt BX (.cells s.vals.toArray 49) * (HP.disk d (A.rot s.name s.i s.at_ s.mask).2 * (HP.rdisk y A * q)))) := ⟨hn1.perm (by ac_rfl)⟩
    clear hn1
    refine wpR_eff #[true, true, true, true, true, true, true, true, true, true, true, true, true, true, true, true, true, true, true, true, false, false] (i := 19) rfl (by kernel_rfl) (fun K hK => ?_)
    go_simp
    refine (ref_rot E _ y A s.name s.i s.at_ s.mask _ (HS1.out.s3)).mono ?_
    rintro e W2 ⟨rfl, hn2a⟩
    have hn2 : Sat E W2 (HP.pt BX (.cells s.vals.toArray 49) * (HP.disk d (A.rot s.name s.i s.at_ s.mask).2 * (HP.rdisk y (A.rot s.name s.i s.at_ s.mask).2 * q))) := hn2a.perm (by ac_rfl)
    refine hK _ _ ?_
    clear hK K hn2a
    have HS2 : Aside (Sat E W2 (HP.pt BX (.cells s.vals.toArray 49) * (HP.disk d (A.rot s.name s.i s.at_ s.mask).2 * (HP.rdisk y (A.rot s.name s.i s.at_ s.mask).2 * q)))) := ⟨hn2.perm (by ac_rfl)⟩
    clear hn2 HS1
    refine wpR_rd 20 #[true, true, true, true, true, true, true, true, true, true, true, true, true, true, true, true, true, true, true, true, true, false] rfl onlyN_noPanic (by kernel_rfl) (fun K hK => ?_); (go_simp; try go_bits); refine hK _ ?_; clear hK K
    refine wpR_rd 21 #[true, true, true, true, true, true, true, true, true, true, true, true, true, true, true, true, true, true, true, true, true, true] rfl onlyN_noPanic (by kernel_rfl) (fun K hK => ?_); (go_simp; try go_bits); refine hK _ ?_; clear hK K
    refine wpR_done (by kernel_rfl) ?_ _
    simp only [OnlyN]
    have HS9 := HS2
    clear HS2
    go_wp2
    go_ret
    refine ⟨by simp, ?_⟩
    rw [HR.out]
    exact HS9.out.right
  by_cases k5 : kk = 5
  · subst k5
    have HR : Aside (AR = A.crash s.kept.l) := ⟨by rw [HAR.out]; unfold Dk.stepK; simp⟩
    go_upto_region 16 with fail
    clear c0 c1 c2 c3 c4 c5 c6 c7
    refine region_R [3, 7] [3] (fun W => Sat E W (HP.pt BX (.cells s.vals.toArray 49) * HP.any)) #[false, false, false, false, false, false, false, false, false, false] (by kernel_rfl) rfl rfl ?_
    have HT : Aside ((fun W => Sat E W (HP.pt BX (.cells s.vals.toArray 49) * HP.any)) _) := ⟨(Sat.any_of HS.out).drew⟩
    refine wpR_rd 0 #[true, false, false, false, false, false, false, false, false, false] rfl onlyN_noPanic (by kernel_rfl) (fun K hK => ?_); (go_simp; try go_bits); refine hK _ ?_; clear hK K
    refine wpR_rd 1 #[true, true, false, false, false, false, false, false, false, false] rfl onlyN_noPanic (by kernel_rfl) (fun K hK => ?_); (go_simp; try go_bits); refine hK _ ?_; clear hK K
    refine wpR_held (i := 2) (v := .slice s.kept.A s.kept.l.length s.kept.cap) #[true, true, true, false, false, false, false, false, false, false] rfl onlyN_noPanic (by kernel_rfl) HT.out (.inl ⟨rfl, fun w' hT => ?_⟩) ?_
    · obtain ⟨c0, c1, c2, c3, c4, c5, c6, c7⟩ := step_box hT; go_simp
    simp only [Act.put, List.setIfInBounds_toArray, List.set_cons_zero, List.set_cons_succ]
    refine wpR_pu 4 #[true, true, true, false, true, false, false, false, false, false] rfl onlyN_noPanic (by kernel_rfl) (fun K hK => ?_); (go_simp; try go_bits); refine hK _ ?_; clear hK K
    refine wpR_pu 5 #[true, true, true, false, true, true, false, false, false, false] rfl onlyN_noPanic (by kernel_rfl) (fun K hK => ?_); (go_simp; try go_bits); refine hK _ ?_; clear hK K
    refine wpR_held (i := 6) (v := .slice s.kept.A s.kept.l.length s.kept.cap) #[true, true, true, false, true, true, true, false, false, false] rfl onlyN_noPanic (by kernel_rfl) HT.out (.inl ⟨rfl, fun w' hT => ?_⟩) ?_
    · obtain ⟨c0, c1, c2, c3, c4, c5, c6, c7⟩ := step_box hT; go_simp
    simp only [Act.put, List.setIfInBounds_toArray, List.set_cons_zero, List.set_cons_succ]
    clear HT
    have HS0 := Aside.mk HS.out.drew
    clear HS
    revert HS0
    generalize World.drew wb = W0
    intro HS0
    refine wpR_keep #[true, true, true, true, true, true, true, false, false, false] (i := 3) rfl (by kernel_rfl) (fun K hK => ?_)
    go_simp
    refine (disk_crash E _ d A s.kept.A s.kept.l s.kept.cap _ (by have := HKL.out; unfold maxLen at this; omega) HOK.out.kept.2 (fun E w h => (HQ.out _ _ h.right.right).2) (HS0.out.s2)).mono ?_
    rintro e W1 ⟨rfl, hn1a⟩
    have hn1 : Sat E W1 (HP.pt BX (.cells s.vals.toArray 49) * (HP.disk d (A.crash s.kept.l) * (HP.rdisk y A * q))) := hn1a.s2
    refine hK _ _ (Sat.any_of hn1) ?_
    clear hK K hn1a
    have HS1 : Aside (Sat E W1 (HP.pt BX (.cells s.vals.toArray 49) * (HP.disk d (A.crash s.kept.l) * (HP.rdisk y A * q)))) := ⟨hn1.perm (by ac_rfl)⟩
    clear hn1
    refine wpR_eff #[true, true, true, true, true, true, true, true, false, false] (i := 7) rfl (by kernel_rfl) (fun K hK => ?_)
    go_simp
    refine (ref_crash E _ y A s.kept.A s.kept.l s.kept.cap _ HKL.out HOK.out.kept.2 (fun E w h => (HQ.out _ _ h.right.right).2) (HS1.out.s3)).mono ?_
    rintro e W2 ⟨rfl, hn2a⟩
    have hn2 : Sat E W2 (HP.pt BX (.cells s.vals.toArray 49) * (HP.disk d (A.crash s.kept.l) * (HP.rdisk y (A.crash s.kept.l) * q))) := hn2a.perm (by ac_rfl)
    refine hK _ _ ?_
    clear hK K hn2a
    have HS2 : Aside (Sat E W2 (HP.pt BX (.cells s.vals.toArray 49) * (HP.disk d (A.crash s.kept.l) * (HP.rdisk y (A.crash s.kept.l) * q)))) := ⟨hn2.perm (by ac_rfl)⟩
    clear hn2 HS1
    refine wpR_rd 8 #[true, true, true, true, true, true, true, true, true, false] rfl onlyN_noPanic (by kernel_rfl) (fun K hK => ?_); (go_simp; try go_bits); refine hK _ ?_; clear hK K
    refine wpR_rd 9 #[true, true, true, true, true, true, true, true, true, true] rfl onlyN_noPanic (by kernel_rfl) (fun K hK => ?_); (go_simp; try go_bits); refine hK _ ?_; clear hK K
    refine wpR_done (by kernel_rfl) ?_ _
    simp only [OnlyN]
    have HS9 := HS2
    clear HS2
    go_wp2
    go_ret
    refine ⟨by simp, ?_⟩
    rw [HR.out]
    exact HS9.out.right
  by_cases k1 : kk = 1
  · subst k1
    have HR : Aside (AR = (A.write s.name s.i s.b.l).2) := ⟨by rw [HAR.out]; unfold Dk.stepK; simp⟩
    go_upto_region 8 with fail
    clear c0 c1 c2 c3 c4 c5 c6 c7
    refine region_R [7, 15] [7] (fun W => Sat E W (HP.pt BX (.cells s.vals.toArray 49) * HP.any)) #[false, false, false, false, false, false, false, false, false, false, false, false, false, false, false, false, false, false] (by kernel_rfl) rfl rfl ?_
    have HT : Aside ((fun W => Sat E W (HP.pt BX (.cells s.vals.toArray 49) * HP.any)) _) := ⟨(Sat.any_of HS.out).drew⟩
    refine wpR_rd 0 #[true, false, false, false, false, false, false, false, false, false, false, false, false, false, false, false, false, false] rfl onlyN_noPanic (by kernel_rfl) (fun K hK => ?_); (go_simp; try go_bits); refine hK _ ?_; clear hK K
    refine wpR_rd 1 #[true, true, false, false, false, false, false, false, false, false, false, false, false, false, false, false, false, false] rfl onlyN_noPanic (by kernel_rfl) (fun K hK => ?_); (go_simp; try go_bits); refine hK _ ?_; clear hK K
    refine wpR_held (i := 2) (v := .string s.name) #[true, true, true, false, false, false, false, false, false, false, false, false, false, false, false, false, false, false] rfl onlyN_noPanic (by kernel_rfl) HT.out (.inl ⟨rfl, fun w' hT => ?_⟩) ?_
    · obtain ⟨c0, c1, c2, c3, c4, c5, c6, c7⟩ := step_box hT; go_simp
    simp only [Act.put, List.setIfInBounds_toArray, List.set_cons_zero, List.set_cons_succ]
    refine wpR_rd 3 #[true, true, true, true, false, false, false, false, false, false, false, false, false, false, false, false, false, false] rfl onlyN_noPanic (by kernel_rfl) (fun K hK => ?_); (go_simp; try go_bits); refine hK _ ?_; clear hK K
    refine wpR_held (i := 4) (v := .int .i64 s.i) #[true, true, true, true, true, false, false, false, false, false, false, false, false, false, false, false, false, false] rfl onlyN_noPanic (by kernel_rfl) HT.out (.inl ⟨rfl, fun w' hT => ?_⟩) ?_
    · obtain ⟨c0, c1, c2, c3, c4, c5, c6, c7⟩ := step_box hT; go_simp
    simp only [Act.put, List.setIfInBounds_toArray, List.set_cons_zero, List.set_cons_succ]
    refine wpR_rd 5 #[true, true, true, true, true, true, false, false, false, false, false, false, false, false, false, false, false, false] rfl onlyN_noPanic (by kernel_rfl) (fun K hK => ?_); (go_simp; try go_bits); refine hK _ ?_; clear hK K
    refine wpR_held (i := 6) (v := .slice s.b.A s.b.l.length s.b.cap) #[true, true, true, true, true, true, true, false, false, false, false, false, false, false, false, false, false, false] rfl onlyN_noPanic (by kernel_rfl) HT.out (.inl ⟨rfl, fun w' hT => ?_⟩) ?_
    · obtain ⟨c0, c1, c2, c3, c4, c5, c6, c7⟩ := step_box hT; go_simp
    simp only [Act.put, List.setIfInBounds_toArray, List.set_cons_zero, List.set_cons_succ]
    refine wpR_pu 8 #[true, true, true, true, true, true, true, false, true, false, false, false, false, false, false, false, false, false] rfl onlyN_noPanic (by kernel_rfl) (fun K hK => ?_); (go_simp; try go_bits); refine hK _ ?_; clear hK K
    refine wpR_pu 9 #[true, true, true, true, true, true, true, false, true, true, false, false, false, false, false, false, false, false] rfl onlyN_noPanic (by kernel_rfl) (fun K hK => ?_); (go_simp; try go_bits); refine hK _ ?_; clear hK K
    refine wpR_held (i := 10) (v := .string s.name) #[true, true, true, true, true, true, true, false, true, true, true, false, false, false, false, false, false, false] rfl onlyN_noPanic (by kernel_rfl) HT.out (.inl ⟨rfl, fun w' hT => ?_⟩) ?_
    · obtain ⟨c0, c1, c2, c3, c4, c5, c6, c7⟩ := step_box hT; go_simp
    simp only [Act.put, List.setIfInBounds_toArray, List.set_cons_zero, List.set_cons_succ]
    refine wpR_pu 11 #[true, true, true, true, true, true, true, false, true, true, true, true, false, false, false, false, false, false] rfl onlyN_noPanic (by kernel_rfl) (fun K hK => ?_); (go_simp; try go_bits); refine hK _ ?_; clear hK K
    refine wpR_held (i := 12) (v := .int .i64 s.i) #[true, true, true, true, true, true, true, false, true, true, true, true, true, false, false, false, false, false] rfl onlyN_noPanic (by kernel_rfl) HT.out (.inl ⟨rfl, fun w' hT => ?_⟩) ?_
    · obtain ⟨c0, c1, c2, c3, c4, c5, c6, c7⟩ := step_box hT; go_simp
    simp only [Act.put, List.setIfInBounds_toArray, List.set_cons_zero, List.set_cons_succ]
    refine wpR_pu 13 #[true, true, true, true, true, true, true, false, true, true, true, true, true, true, false, false, false, false] rfl onlyN_noPanic (by kernel_rfl) (fun K hK => ?_); (go_simp; try go_bits); refine hK _ ?_; clear hK K
    refine wpR_held (i := 14) (v := .slice s.b.A s.b.l.length s.b.cap) #[true, true, true, true, true, true, true, false, true, true, true, true, true, true, true, false, false, false] rfl onlyN_noPanic (by kernel_rfl) HT.out (.inl ⟨rfl, fun w' hT => ?_⟩) ?_
    · obtain ⟨c0, c1, c2, c3, c4, c5, c6, c7⟩ := step_box hT; go_simp
    simp only [Act.put, List.setIfInBounds_toArray, List.set_cons_zero, List.set_cons_succ]
    clear HT
    have HS0 := Aside.mk HS.out.drew
    clear HS
    revert HS0
    generalize World.drew wb = W0
    intro HS0
    refine wpR_keep #[true, true, true, true, true, true, true, true, true, true, true, true, true, true, true, false, false, false] (i := 7) rfl (by kernel_rfl) (fun K hK => ?_)
    go_simp
    refine (disk_write E _ d A s.name s.i s.b.A s.b.l s.b.l.length s.b.cap _ HOK.out.name rfl HBL.out (fun w h => (HQ.out _ _ h.right.right).1) (HS0.out.s2)).mono ?_
    rintro e W1 ⟨rfl, hn1a⟩
    have hn1 : Sat E W1 (HP.pt BX (.cells s.vals.toArray 49) * (HP.disk d (A.write s.name s.i s.b.l).2 * (HP.rdisk y A * q))) := hn1a.s2
    refine hK _ _ (Sat.any_of hn1) ?_
    clear hK K hn1a
    have HS1 : Aside (Sat E W1 (HP.pt BX (.cells s.vals.toArray 49) * (HP.disk d (A.write s.name s.i s.b.l).2 * (HP.rdisk y A * q)))) := ⟨hn1.perm (by ac_rfl)⟩
    clear hn1
    refine wpR_eff #[true, true, true, true, true, true, true, true, true, true, true, true, true, true, true, true, false, false] (i := 15) rfl (by kernel_rfl) (fun K hK => ?_)
    go_simp
    refine (ref_write E _ y A s.name s.i s.b.A s.b.l s.b.l.length s.b.cap _ HOK.out.name rfl HBL.out (fun w h => (HQ.out _ _ h.right.right).1) (HS1.out.s3)).mono ?_
    rintro e W2 ⟨rfl, hn2a⟩
    have hn2 : Sat E W2 (HP.pt BX (.cells s.vals.toArray 49) * (HP.disk d (A.write s.name s.i s.b.l).2 * (HP.rdisk y (A.write s.name s.i s.b.l).2 * q))) := hn2a.perm (by ac_rfl)
    refine hK _ _ ?_
    clear hK K hn2a
    have HS2 : Aside (Sat E W2 (HP.pt BX (.cells s.vals.toArray 49) * (HP.disk d (A.write s.name s.i s.b.l).2 * (HP.rdisk y (A.write s.name s.i s.b.l).2 * q)))) := ⟨hn2.perm (by ac_rfl)⟩
    clear hn2 HS1
    refine wpR_rd 16 #[true, true, true, true, true, true, true, true, true, true, true, true, true, true, true, true, true, false] rfl onlyN_noPanic (by kernel_rfl) (fun K hK => ?_); (go_simp; try go_bits); refine hK _ ?_; clear hK K
    refine wpR_rd 17 #[true, true, true, true, true, true, true, true, true, true, true, true, true, true, true, true, true, true] rfl onlyN_noPanic (by kernel_rfl) (fun K hK => ?_); (go_simp; try go_bits); refine hK _ ?_; clear hK K
    refine wpR_done (by kernel_rfl) ?_ _
    simp only [OnlyN]
    have HS9 := HS2
    clear HS2
    go_wp2
    go_ret
    refine ⟨by simp, ?_⟩
    rw [HR.out]
    exact HS9.out.right
  by_cases k0 : kk = 0
  · subst k0
    have HR : Aside (AR = (A.write s.name s.i (fullOf s.b.l)).2) := ⟨by rw [HAR.out]; unfold Dk.stepK; simp⟩
    go_wp2_with fail
    refine (full_ok E _ s _ HOK.out.b.1 (fun E' w' h => (HQ.out E' w' h.right.right.right).1) HS.out).mono ?_
    rintro e w1 ⟨gF, rfl, h1⟩
    clear c0 c1 c2 c3 c4 c5 c6 c7 HS
    obtain ⟨-, c1, -, -, c4, -⟩ := step_box h1.s2
    have H1 : Aside (Sat E w1 (HP.disk d A * (HP.row 5 1 (.slice (some ⟨gF, 0, none⟩) 128 128) 128 (b8s (fullOf s.b.l)) * (HP.pt BX (.cells s.vals.toArray 49) * (HP.rdisk y A * q))))) := ⟨h1.perm (by ac_rfl)⟩
    clear h1
    go_wp2_with fail
    refine (disk_write E _ d A s.name s.i (some ⟨gF, 0, none⟩) (fullOf s.b.l) 128 128 _ HOK.out.name (fullOf_length _) (by unfold maxLen; omega) (fun w h => h.row_cells) H1.out).mono ?_
    rintro e w2 ⟨rfl, h2⟩
    clear c1 c4 H1
    have h3 : Sat E w2 (HP.row 5 1 (.slice (some ⟨gF, 0, none⟩) 128 128) 128 (b8s (fullOf s.b.l)) * (HP.pt BX (.cells s.vals.toArray 49) * (HP.disk d (A.write s.name s.i (fullOf s.b.l)).2 * (HP.rdisk y A * q)))) := h2.perm (by ac_rfl)
    have H3 := Aside.mk (h3.alloc (.cells #[.slice (some ⟨gF, 0, none⟩) 128 128] 28))
    clear h2 h3
    go_wp2_with fail
    refine (spoil_ok E _ w2.heap.size (some ⟨gF, 0, none⟩) 128 128 (fullOf s.b.l) _ (by unfold maxLen; omega) H3.out).mono ?_
    rintro e w3 ⟨rfl, h4⟩
    have HS := Aside.mk h4
    clear h4 H3
    go_upto_region 6 with fail
    refine region_R [7, 8] [7] (fun W => Sat E W (HP.pt BX (.cells s.vals.toArray 49) * HP.any)) #[false, false, false, false, false, false, false, false, false, false, false] (by kernel_rfl) rfl rfl ?_
    have HT : Aside ((fun W => Sat E W (HP.pt BX (.cells s.vals.toArray 49) * HP.any)) _) := ⟨(Sat.any_of HS.out).drew⟩
    refine wpR_pu 0 #[true, false, false, false, false, false, false, false, false, false, false] rfl onlyN_noPanic (by kernel_rfl) (fun K hK => ?_); (go_simp; try go_bits); refine hK _ ?_; clear hK K
    refine wpR_pu 1 #[true, true, false, false, false, false, false, false, false, false, false] rfl onlyN_noPanic (by kernel_rfl) (fun K hK => ?_); (go_simp; try go_bits); refine hK _ ?_; clear hK K
    refine wpR_pu 2 #[true, true, true, false, false, false, false, false, false, false, false] rfl onlyN_noPanic (by kernel_rfl) (fun K hK => ?_); (go_simp; try go_bits); refine hK _ ?_; clear hK K
    refine wpR_held (i := 3) (v := .string s.name) #[true, true, true, true, false, false, false, false, false, false, false] rfl onlyN_noPanic (by kernel_rfl) HT.out (.inl ⟨rfl, fun w' hT => ?_⟩) ?_
    · obtain ⟨c0, c1, c2, c3, c4, c5, c6, c7⟩ := step_box hT; go_simp
    simp only [Act.put, List.setIfInBounds_toArray, List.set_cons_zero, List.set_cons_succ]
    refine wpR_pu 4 #[true, true, true, true, true, false, false, false, false, false, false] rfl onlyN_noPanic (by kernel_rfl) (fun K hK => ?_); (go_simp; try go_bits); refine hK _ ?_; clear hK K
    refine wpR_held (i := 5) (v := .int .i64 s.i) #[true, true, true, true, true, true, false, false, false, false, false] rfl onlyN_noPanic (by kernel_rfl) HT.out (.inl ⟨rfl, fun w' hT => ?_⟩) ?_
    · obtain ⟨c0, c1, c2, c3, c4, c5, c6, c7⟩ := step_box hT; go_simp
    simp only [Act.put, List.setIfInBounds_toArray, List.set_cons_zero, List.set_cons_succ]
    refine wpR_read (i := 6) #[true, true, true, true, true, true, true, false, false, false, false] rfl onlyN_noPanic (by kernel_rfl) (.inl ⟨rfl, exec_load rfl rfl (step_load (Sat.any_of HS.out).drew)⟩) ?_
    simp only [Act.put, List.setIfInBounds_toArray, List.set_cons_zero, List.set_cons_succ]
    clear HT
    have HS0 := Aside.mk HS.out.drew
    clear HS
    revert HS0
    generalize World.drew w3 = W0
    intro HS0
    refine wpR_keep #[true, true, true, true, true, true, true, true, false, false, false] (i := 7) rfl (by kernel_rfl) (fun K hK => ?_)
    go_simp
    refine (full_ok E _ s _ HOK.out.b.1 (fun E' w' h => (HQ.out E' w' h.right.right.right).1) HS0.out).mono ?_
    rintro e W1 ⟨gF, rfl, hn1⟩
    refine hK _ _ (Sat.any_of hn1.s2) ?_
    clear hK K
    have HS1 : Aside (Sat E W1 (HP.row 5 1 (.slice (some ⟨gF, 0, none⟩) 128 128) 128 (b8s (fullOf s.b.l)) * (HP.pt BX (.cells s.vals.toArray 49) * (HP.disk d (A.write s.name s.i (fullOf s.b.l)).2 * (HP.rdisk y A * q))))) := ⟨hn1.perm (by ac_rfl)⟩
    clear hn1
    refine wpR_eff #[true, true, true, true, true, true, true, true, true, false, false] (i := 8) rfl (by kernel_rfl) (fun K hK => ?_)
    go_simp
    have hn2b : Sat E W1 (HP.rdisk y A * (HP.row 5 1 (.slice (some ⟨gF, 0, none⟩) 128 128) 128 (b8s (fullOf s.b.l)) * (HP.pt BX (.cells s.vals.toArray 49) * (HP.disk d (A.write s.name s.i (fullOf s.b.l)).2 * q)))) := HS1.out.perm (by ac_rfl)
    refine (ref_write E _ y A s.name s.i (some ⟨gF, 0, none⟩) (fullOf s.b.l) 128 128 _ HOK.out.name (fullOf_length _) (by unfold maxLen; omega) (fun w h => h.row_cells) hn2b).mono ?_
    rintro e W2 ⟨rfl, hn2a⟩
    have hn2 : Sat E W2 (HP.row 5 1 (.slice (some ⟨gF, 0, none⟩) 128 128) 128 (b8s (fullOf s.b.l)) * (HP.pt BX (.cells s.vals.toArray 49) * (HP.disk d (A.write s.name s.i (fullOf s.b.l)).2 * (HP.rdisk y (A.write s.name s.i (fullOf s.b.l)).2 * q)))) := hn2a.perm (by ac_rfl)
    refine hK _ _ ?_
    clear hK K hn2a hn2b
    have HS2 : Aside (Sat E W2 (HP.row 5 1 (.slice (some ⟨gF, 0, none⟩) 128 128) 128 (b8s (fullOf s.b.l)) * (HP.pt BX (.cells s.vals.toArray 49) * (HP.disk d (A.write s.name s.i (fullOf s.b.l)).2 * (HP.rdisk y (A.write s.name s.i (fullOf s.b.l)).2 * q))))) := ⟨hn2.perm (by ac_rfl)⟩
    clear hn2 HS1
    refine wpR_rd 9 #[true, true, true, true, true, true, true, true, true, true, false] rfl onlyN_noPanic (by kernel_rfl) (fun K hK => ?_); (go_simp; try go_bits); refine hK _ ?_; clear hK K
    refine wpR_rd 10 #[true, true, true, true, true, true, true, true, true, true, true] rfl onlyN_noPanic (by kernel_rfl) (fun K hK => ?_); (go_simp; try go_bits); refine hK _ ?_; clear hK K
    refine wpR_done (by kernel_rfl) ?_ _
    simp only [OnlyN]
    have HS9 := HS2
    clear HS2
    go_wp2
    go_ret
    refine ⟨by simp, ?_⟩
    rw [HR.out]
    exact HS9.out.right.right
  · have k6 : kk = 6 := by omega
    subst k6
    have HR : Aside (AR = A.fuseK s.n) := ⟨by rw [HAR.out]; unfold Dk.stepK; simp⟩
    go_upto_region 17 with fail
    clear c0 c1 c2 c3 c4 c5 c6 c7
    refine region_R [3, 7] [3] (fun W => Sat E W (HP.pt BX (.cells s.vals.toArray 49) * HP.any)) #[false, false, false, false, false, false, false, false, false, false] (by kernel_rfl) rfl rfl ?_
    have HT : Aside ((fun W => Sat E W (HP.pt BX (.cells s.vals.toArray 49) * HP.any)) _) := ⟨(Sat.any_of HS.out).drew⟩
    refine wpR_rd 0 #[true, false, false, false, false, false, false, false, false, false] rfl onlyN_noPanic (by kernel_rfl) (fun K hK => ?_); (go_simp; try go_bits); refine hK _ ?_; clear hK K
    refine wpR_rd 1 #[true, true, false, false, false, false, false, false, false, false] rfl onlyN_noPanic (by kernel_rfl) (fun K hK => ?_); (go_simp; try go_bits); refine hK _ ?_; clear hK K
    refine wpR_held (i := 2) (v := .int .i64 s.n) #[true, true, true, false, false, false, false, false, false, false] rfl onlyN_noPanic (by kernel_rfl) HT.out (.inl ⟨rfl, fun w' hT => ?_⟩) ?_
    · obtain ⟨c0, c1, c2, c3, c4, c5, c6, c7⟩ := step_box hT; go_simp
    simp only [Act.put, List.setIfInBounds_toArray, List.set_cons_zero, List.set_cons_succ]
    refine wpR_pu 4 #[true, true, true, false, true, false, false, false, false, false] rfl onlyN_noPanic (by kernel_rfl) (fun K hK => ?_); (go_simp; try go_bits); refine hK _ ?_; clear hK K
    refine wpR_pu 5 #[true, true, true, false, true, true, false, false, false, false] rfl onlyN_noPanic (by kernel_rfl) (fun K hK => ?_); (go_simp; try go_bits); refine hK _ ?_; clear hK K
    refine wpR_held (i := 6) (v := .int .i64 s.n) #[true, true, true, false, true, true, true, false, false, false] rfl onlyN_noPanic (by kernel_rfl) HT.out (.inl ⟨rfl, fun w' hT => ?_⟩) ?_
    · obtain ⟨c0, c1, c2, c3, c4, c5, c6, c7⟩ := step_box hT; go_simp
    simp only [Act.put, List.setIfInBounds_toArray, List.set_cons_zero, List.set_cons_succ]
    clear HT
    have HS0 := Aside.mk HS.out.drew
    clear HS
    revert HS0
    generalize World.drew wb = W0
    intro HS0
    refine wpR_keep #[true, true, true, true, true, true, true, false, false, false] (i := 3) rfl (by kernel_rfl) (fun K hK => ?_)
    go_simp
    refine (fuse_d E _ d A s.n _ HOK.out.n (HS0.out.s2)).mono ?_
    rintro e W1 ⟨rfl, hn1a⟩
    have hn1 : Sat E W1 (HP.pt BX (.cells s.vals.toArray 49) * (HP.disk d (A.fuseK s.n) * (HP.rdisk y A * q))) := hn1a.s2
    refine hK _ _ (Sat.any_of hn1) ?_
    clear hK K hn1a
    have HS1 : Aside (Sat E W1 (HP.pt BX (.cells s.vals.toArray 49) * (HP.disk d (A.fuseK s.n) * (HP.rdisk y A * q)))) := ⟨hn1.perm (by ac_rfl)⟩
    clear hn1
    refine wpR_eff #[true, true, true, true, true, true, true, true, false, false] (i := 7) rfl (by kernel_rfl) (fun K hK => ?_)
    go_simp
    refine (fuse_r E _ y A s.n _ HOK.out.n (HS1.out.s3)).mono ?_
    rintro e W2 ⟨rfl, hn2a⟩
    have hn2 : Sat E W2 (HP.pt BX (.cells s.vals.toArray 49) * (HP.disk d (A.fuseK s.n) * (HP.rdisk y (A.fuseK s.n) * q))) := hn2a.perm (by ac_rfl)
    refine hK _ _ ?_
    clear hK K hn2a
    have HS2 : Aside (Sat E W2 (HP.pt BX (.cells s.vals.toArray 49) * (HP.disk d (A.fuseK s.n) * (HP.rdisk y (A.fuseK s.n) * q)))) := ⟨hn2.perm (by ac_rfl)⟩
    clear hn2 HS1
    refine wpR_rd 8 #[true, true, true, true, true, true, true, true, true, false] rfl onlyN_noPanic (by kernel_rfl) (fun K hK => ?_); (go_simp; try go_bits); refine hK _ ?_; clear hK K
    refine wpR_rd 9 #[true, true, true, true, true, true, true, true, true, true] rfl onlyN_noPanic (by kernel_rfl) (fun K hK => ?_); (go_simp; try go_bits); refine hK _ ?_; clear hK K
    refine wpR_done (by kernel_rfl) ?_ _
    simp only [OnlyN]
    have HS9 := HS2
    clear HS2
    go_wp2
    go_ret
    refine ⟨by simp, ?_⟩
    rw [HR.out]
    exact HS9.out.right
end Go.Proofs.YtcjcccbjgooooaaGreatDoor

/- slices.Equal of spots. -/
namespace Go.Proofs.YtcjcccbjgooooaaGreatDoor
open Go.RowKit HP
set_option linter.unusedSimpArgs false
set_option linter.unusedVariables false

theorem agSpot : AgTy Tryz.prog 87 2 := ⟨⟨_, Tryz.underlying87, rfl⟩, by kernel_rfl⟩
theorem spot_cells {w : World} {g o : Nat} {l : List (ByteArray × Int)} (h : Cells w (some ⟨g, o, none⟩) (l.flatMap encSpot)) {k : Nat} {x : ByteArray × Int} (hk : l[k]? = some x) : (loadVar 87 ⟨g, o + k * 2, none⟩).run Tryz.prog w = .ok (.agg #[.string x.1, .int .i64 x.2]) w := by
  refine run_loadAgg (cs := encSpot x) agSpot rfl fun j u hj => ⟨_, rfl, ?_⟩
  have hj2 : j < 2 := (List.getElem?_eq_some_iff.1 hj).1
  have := h.some_ (k * 2 + j) u (by rw [flat_get encSpot 2 l (fun _ => rfl) k j x hk hj2]; exact hj)
  rw [addr_add] at this ⊢
  rw [show o + k * 2 + j = o + (k * 2 + j) by omega]
  exact this
theorem neq_spot (s t : ByteArray) (i j : Int) (w : World) : (binOp .neq 87 (.agg #[.string s, .int .i64 i]) (.agg #[.string t, .int .i64 j])).run Tryz.prog w = .ok (.bool (!(decide ((s, i) = (t, j))))) w := by
  by_cases hs : s = t
  · subst hs
    by_cases hi : i = j
    · subst hi; go_simp
    · go_simp
  · have h2 : ¬ s.toList = t.toList := fun h => hs (toList_inj h)
    go_simp
theorem take_eq_step {l m : List (ByteArray × Int)} {k : Nat} {x : ByteArray × Int} (h : l.take k = m.take k) (hl : l[k]? = some x) (hm : m[k]? = some x) : l.take (k + 1) = m.take (k + 1) := by
  rw [List.take_add_one, List.take_add_one, h, hl, hm]
set_option maxHeartbeats 1000000 in
set_option maxRecDepth 100000 in
theorem spots_equal (E : Env) (q : HP) (A0 A1 : Option Addr) (l0 l1 : List (ByteArray × Int)) (n0 n1 c0 c1 : Nat) (w : World) (e0 : l0.length = n0) (e1 : l1.length = n1) (k0 : n0 ≤ 1000000000) (k1 : n1 ≤ 1000000000)
    (h : ∀ w, Sat E w q → Cells w A0 (l0.flatMap encSpot) ∧ Cells w A1 (l1.flatMap encSpot)) (hw : Sat E w q) :
    Calls Tryz.prog 46 #[.slice A0 n0 c0, .slice A1 n1 c1] w fun e w' => e = .returned (.bool (decide (l0 = l1))) ∧ Sat E w' q := by
  have HW := Aside.mk (And.intro h (And.intro hw (And.intro e0 e1)))
  clear h hw e0 e1
  go_enter Tryz.func46, Tryz.ntmps46
  by_cases hn : n0 = n1
  · subst hn
    go_wp2
    go_loopw [13] (fun v13 wr => ∃ k : Nat, v13 = .int .i64 k ∧ k ≤ n0 ∧ Aside (l0.take k = l1.take k) ∧ Aside (Sat E wr q)) (fun x _ => n0 - (intOf x).toNat)
    case atStart => exact ⟨0, rfl, Nat.zero_le _, ⟨rfl⟩, ⟨HW.out.2.1⟩⟩
    case round =>
      obtain ⟨k, rfl, hk, HT, HS⟩ := hrel
      by_cases hlt : k < n0
      · have hlt2 : (k : Int) < (n0 : Int) := by omega
        have hk2 : (0 : Int) ≤ (k : Int) := by omega
        have hl0 : l0[k]? = some (l0[k]'(by rw [HW.out.2.2.1]; exact hlt)) := List.getElem?_eq_getElem _
        have hl1 : l1[k]? = some (l1[k]'(by rw [HW.out.2.2.2]; exact hlt)) := List.getElem?_eq_getElem _
        generalize l0[k]'(by rw [HW.out.2.2.1]; exact hlt) = x at hl0
        generalize l1[k]'(by rw [HW.out.2.2.2]; exact hlt) = y at hl1
        obtain ⟨c0', c1'⟩ := HW.out.1 wr.drew HS.out.drew
        have hlen0 : 0 < (l0.flatMap encSpot).length := by
          have h1 := flat_get encSpot 2 l0 (fun _ => rfl) k 0 x hl0 (by omega)
          exact Nat.lt_of_le_of_lt (Nat.zero_le _) (List.getElem?_eq_some_iff.1 (h1.trans rfl : _ = some (Value.string x.1))).1
        have hlen1 : 0 < (l1.flatMap encSpot).length := by
          have h1 := flat_get encSpot 2 l1 (fun _ => rfl) k 0 y hl1 (by omega)
          exact Nat.lt_of_le_of_lt (Nat.zero_le _) (List.getElem?_eq_some_iff.1 (h1.trans rfl : _ = some (Value.string y.1))).1
        obtain ⟨a0, rfl, -⟩ := c0'.at_ 0 hlen0
        obtain ⟨a1, rfl, -⟩ := c1'.at_ 0 hlen1
        obtain ⟨g0, o0, rfl⟩ := slice_addr c0' rfl hlen0
        obtain ⟨g1, o1, rfl⟩ := slice_addr c1' rfl hlen1
        have ld0 := spot_cells c0' hl0
        have ld1 := spot_cells c1' hl1
        have HL := Aside.mk (And.intro hl0 hl1)
        have HS2 := Aside.mk HS.out.drew
        clear c0' c1' hlen0 hlen1 hl0 hl1 HS
        obtain ⟨s, i⟩ := x
        obtain ⟨t, j⟩ := y
        dsimp only at ld0 ld1
        go_wp2
        refine region_R [] [] (fun _ => True) #[false, false, false, false, false, false, false, false, false] (by kernel_rfl) rfl rfl ?_
        refine wpR_rd 0 #[true, false, false, false, false, false, false, false, false] rfl onlyN_noPanic (by kernel_rfl) (fun K hK => ?_); (go_simp; try go_bits); refine hK _ ?_; clear hK K
        refine wpR_rd 1 #[true, true, false, false, false, false, false, false, false] rfl onlyN_noPanic (by kernel_rfl) (fun K hK => ?_); (go_simp; try go_bits); refine hK _ ?_; clear hK K
        refine wpR_rd 2 #[true, true, true, false, false, false, false, false, false] rfl onlyN_noPanic (by kernel_rfl) (fun K hK => ?_); (go_simp; try go_bits); refine hK _ ?_; clear hK K
        refine wpR_read (i := 3) #[true, true, true, true, false, false, false, false, false] rfl onlyN_noPanic (by kernel_rfl) (.inl ⟨rfl, exec_load rfl rfl ld0⟩) ?_
        simp only [Act.put, List.setIfInBounds_toArray, List.set_cons_zero, List.set_cons_succ]
        refine wpR_rd 4 #[true, true, true, true, true, false, false, false, false] rfl onlyN_noPanic (by kernel_rfl) (fun K hK => ?_); (go_simp; try go_bits); refine hK _ ?_; clear hK K
        refine wpR_rd 5 #[true, true, true, true, true, true, false, false, false] rfl onlyN_noPanic (by kernel_rfl) (fun K hK => ?_); (go_simp; try go_bits); refine hK _ ?_; clear hK K
        refine wpR_rd 6 #[true, true, true, true, true, true, true, false, false] rfl onlyN_noPanic (by kernel_rfl) (fun K hK => ?_); (go_simp; try go_bits); refine hK _ ?_; clear hK K
        refine wpR_read (i := 7) #[true, true, true, true, true, true, true, true, false] rfl onlyN_noPanic (by kernel_rfl) (.inl ⟨rfl, exec_load rfl rfl ld1⟩) ?_
        simp only [Act.put, List.setIfInBounds_toArray, List.set_cons_zero, List.set_cons_succ]
        refine wpR_read (i := 8) #[true, true, true, true, true, true, true, true, true] rfl onlyN_noPanic (by kernel_rfl) (.inl ⟨rfl, exec_binop rfl rfl rfl (run_eqGuard_agg _ .neq 87 _ _ _ _ (by kernel_rfl)) (neq_spot _ _ _ _ _)⟩) ?_
        simp only [Act.put, List.setIfInBounds_toArray, List.set_cons_zero, List.set_cons_succ]
        refine wpR_done (by kernel_rfl) ?_ _
        simp only [OnlyN]
        by_cases hxy : (s, i) = (t, j)
        · have HT2 : Aside (l0.take (k + 1) = l1.take (k + 1)) := ⟨take_eq_step HT.out HL.out.1 (by rw [hxy]; exact HL.out.2)⟩
          rw [decide_eq_true hxy]
          clear hxy HL HT ld0 ld1
          go_wp2
          go_roundw
          case rel => exact ⟨k + 1, by push_cast; rfl, by omega, HT2, HS2⟩
          case measure => simp [intOf]; omega
        · have HN : Aside (¬ l0 = l1) := ⟨fun he => by
            have h1 := HL.out.1
            rw [he, HL.out.2] at h1
            exact hxy (Option.some.inj h1).symm⟩
          rw [decide_eq_false hxy]
          clear hxy HL HT ld0 ld1
          go_wp2
          go_ret
          rw [decide_eq_false HN.out]
          exact ⟨rfl, HS2.out⟩
      · have hkn : k = n0 := by omega
        subst hkn
        have HE : Aside (l0 = l1) := ⟨by
          have h1 := HT.out
          rw [List.take_of_length_le (by rw [HW.out.2.2.1]; exact Nat.le_refl _), List.take_of_length_le (by rw [HW.out.2.2.2]; exact Nat.le_refl _)] at h1
          exact h1⟩
        clear HT
        go_wp2
        go_ret
        rw [decide_eq_true HE.out]
        exact ⟨rfl, HS.out⟩
  · have HN : Aside (¬ l0 = l1) := ⟨fun he => hn (by rw [← HW.out.2.2.1, ← HW.out.2.2.2, he])⟩
    have hn2 : ¬ (n0 : Int) = (n1 : Int) := by omega
    have hnb : ((n0 : Int) == (n1 : Int)) = false := by rw [beq_eq_false_iff_ne]; exact hn2
    go_wp2
    go_ret
    rw [decide_eq_false HN.out]
    exact ⟨rfl, HW.out.2.1⟩
end Go.Proofs.YtcjcccbjgooooaaGreatDoor
/- slices.Equal of texts. -/
namespace Go.Proofs.YtcjcccbjgooooaaGreatDoor
open Go.RowKit HP
set_option linter.unusedSimpArgs false
set_option linter.unusedVariables false

theorem take_eq_step1 {α : Type} {l m : List α} {k : Nat} {x : α} (h : l.take k = m.take k) (hl : l[k]? = some x) (hm : m[k]? = some x) : l.take (k + 1) = m.take (k + 1) := by
  rw [List.take_add_one, List.take_add_one, h, hl, hm]
set_option maxHeartbeats 1000000 in
set_option maxRecDepth 100000 in
theorem strs_equal (E : Env) (q : HP) (A0 A1 : Option Addr) (l0 l1 : List ByteArray) (n0 n1 c0 c1 : Nat) (w : World) (e0 : l0.length = n0) (e1 : l1.length = n1) (k0 : n0 ≤ 1000000000) (k1 : n1 ≤ 1000000000)
    (h : ∀ w, Sat E w q → Cells w A0 (l0.map Value.string) ∧ Cells w A1 (l1.map Value.string)) (hw : Sat E w q) :
    Calls Tryz.prog 42 #[.slice A0 n0 c0, .slice A1 n1 c1] w fun e w' => e = .returned (.bool (decide (l0 = l1))) ∧ Sat E w' q := by
  have HW := Aside.mk (And.intro h (And.intro hw (And.intro e0 e1)))
  clear h hw e0 e1
  go_enter Tryz.func42, Tryz.ntmps42
  by_cases hn : n0 = n1
  · subst hn
    go_wp2
    go_loopw [13] (fun v13 wr => ∃ k : Nat, v13 = .int .i64 k ∧ k ≤ n0 ∧ Aside (l0.take k = l1.take k) ∧ Aside (Sat E wr q)) (fun x _ => n0 - (intOf x).toNat)
    case atStart => exact ⟨0, rfl, Nat.zero_le _, ⟨rfl⟩, ⟨HW.out.2.1⟩⟩
    case round =>
      obtain ⟨k, rfl, hk, HT, HS⟩ := hrel
      by_cases hlt : k < n0
      · have hlt2 : (k : Int) < (n0 : Int) := by omega
        have hk2 : (0 : Int) ≤ (k : Int) := by omega
        have hl0 : l0[k]? = some (l0[k]'(by rw [HW.out.2.2.1]; exact hlt)) := List.getElem?_eq_getElem _
        have hl1 : l1[k]? = some (l1[k]'(by rw [HW.out.2.2.2]; exact hlt)) := List.getElem?_eq_getElem _
        generalize l0[k]'(by rw [HW.out.2.2.1]; exact hlt) = x at hl0
        generalize l1[k]'(by rw [HW.out.2.2.2]; exact hlt) = y at hl1
        obtain ⟨c0', c1'⟩ := HW.out.1 wr.drew HS.out.drew
        have g0 : (l0.map Value.string)[k]? = some (.string x) := by rw [List.getElem?_map, hl0]; rfl
        have g1 : (l1.map Value.string)[k]? = some (.string y) := by rw [List.getElem?_map, hl1]; rfl
        obtain ⟨a0, rfl, -⟩ := c0' _ _ g0
        obtain ⟨a1, rfl, -⟩ := c1' _ _ g1
        obtain ⟨g0', o0, rfl⟩ := slice_addr c0' rfl (List.getElem?_eq_some_iff.1 g0).1
        obtain ⟨g1', o1, rfl⟩ := slice_addr c1' rfl (List.getElem?_eq_some_iff.1 g1).1
        have ld0 := c0'.some_ _ _ g0
        have ld1 := c1'.some_ _ _ g1
        rw [addr_add] at ld0 ld1
        have HL := Aside.mk (And.intro hl0 hl1)
        have HS2 := Aside.mk HS.out.drew
        clear c0' c1' g0 g1 hl0 hl1 HS
        by_cases hxy : x = y
        · subst hxy
          have HT2 : Aside (l0.take (k + 1) = l1.take (k + 1)) := ⟨take_eq_step1 HT.out HL.out.1 HL.out.2⟩
          clear HL HT
          go_wp2
          go_region
          all_goals
            go_wp2
            go_roundw
            case rel => exact ⟨k + 1, by push_cast; rfl, by omega, HT2, HS2⟩
            case measure => simp [intOf]; omega
        · have HN : Aside (¬ l0 = l1) := ⟨fun he => by
            have h1 := HL.out.1
            rw [he, HL.out.2] at h1
            exact hxy (Option.some.inj h1).symm⟩
          have hxy2 : (x.toList == y.toList) = false := by
            rw [beq_eq_false_iff_ne]
            exact fun h => hxy (toList_inj h)
          clear HL HT hxy
          go_wp2
          go_region
          all_goals
            go_wp2
            go_ret
            rw [decide_eq_false HN.out]
            exact ⟨rfl, HS2.out⟩
      · have hkn : k = n0 := by omega
        subst hkn
        have HE : Aside (l0 = l1) := ⟨by
          have h1 := HT.out
          rw [List.take_of_length_le (by rw [HW.out.2.2.1]; exact Nat.le_refl _), List.take_of_length_le (by rw [HW.out.2.2.2]; exact Nat.le_refl _)] at h1
          exact h1⟩
        clear HT
        go_wp2
        go_ret
        rw [decide_eq_true HE.out]
        exact ⟨rfl, HS.out⟩
  · have HN : Aside (¬ l0 = l1) := ⟨fun he => hn (by rw [← HW.out.2.2.1, ← HW.out.2.2.2, he])⟩
    have hn2 : ¬ (n0 : Int) = (n1 : Int) := by omega
    have hnb : ((n0 : Int) == (n1 : Int)) = false := by rw [beq_eq_false_iff_ne]; exact hn2
    go_wp2
    go_ret
    rw [decide_eq_false HN.out]
    exact ⟨rfl, HW.out.2.1⟩
end Go.Proofs.YtcjcccbjgooooaaGreatDoor
