/- Texts of one claim, one behind the other: PairS, FreshP, NeedsP, PairLo, HeldP, LoadP, LostP, RotP, Rc1P, Rc1, Ref1, Rc4, Rc4O, LeftZ. -/
import Derived.Test.YtanlgadijndmaaaDoorSv6
import Derived.Laws.Bits64
import Derived.Laws.BytesString
/- pair.Store. -/
namespace Go.Proofs.YtanlgadijndmaaaDoor
open Go.RowKit HP
set_option linter.unusedSimpArgs false
set_option linter.unusedVariables false

/-- A text's pieces. -/
def piece (l : List Int) (k : Nat) : List Int := (l.drop (106 * k)).take 106
def piecesI (l : List Int) : List (List Int) := if l.length = 0 then [[]] else (List.range (chunkN l.length)).map (piece l)
def storeP (A : Dk) (name : ByteArray) (gen : Nat) (l : List Int) : Int × Dk := if (dropP A name).1 = 0 then wrP (dropP A name).2 name 0 gen (piecesI l) else dropP A name
theorem piece_length (l : List Int) (k : Nat) : (piece l k).length = chunkM l.length k := by
  unfold piece chunkM
  rw [List.length_take, List.length_drop]
def pieceS (g o : Nat) (l : List Int) (k : Nat) : Sl Int := ⟨some ⟨g, o + 106 * k, none⟩, chunkM l.length k, piece l k⟩
theorem pieceS_val (g o : Nat) (l : List Int) (k : Nat) : (pieceS g o l k).val8 = chunkV g o l.length k := by
  unfold Sl.val8 pieceS chunkV
  rw [piece_length]
set_option maxHeartbeats 2000000 in
set_option maxRecDepth 100000 in
theorem pair_store (E : Env) (q : HP) (d : Nat) (A : Dk) (name : ByteArray) (gen : Nat) (Ap : Option Addr) (l : List Int) (n c : Nat) (w : World) (hname : name.size + 2 ≤ maxLen) (hgen : (gen : Int) ≤ 4611686018427387904) (hln : l.length = n) (hnc : n ≤ c) (hcm : c ≤ maxLen) (hn64 : n ≤ 140737488351232) (hl : Bytes l)
    (hq : ∀ w, Sat E w q → Quarter w ∧ Cells w Ap (b8s l)) (hw : Sat E w (HP.disk d A * q)) :
    Calls Tryd.prog 29 #[.pointer (some ⟨d, 0, none⟩), .string name, .int .i64 gen, .slice Ap n c] w fun e w' => e = .returned (.int .i64 (storeP A name gen l).1) ∧ Sat E w' (HP.disk d (storeP A name gen l).2 * q) := by
  have HS : Aside (storeP A name gen l = if (dropP A name).1 = 0 then wrP (dropP A name).2 name 0 gen (piecesI l) else dropP A name) := ⟨rfl⟩
  have hn2 : name.size ≤ maxLen := by omega
  have hadr : 0 < n → ∃ g o, Ap = some ⟨g, o, none⟩ := fun h => by
    have hc := (hq w hw.right).2
    obtain ⟨a, rfl, -⟩ := hc.at_ 0 (by rw [b8s_length, hln]; exact h)
    obtain ⟨g, o, rfl⟩ := slice_addr hc rfl (k := 0) (by rw [b8s_length, hln]; exact h)
    exact ⟨g, o, rfl⟩
  obtain ⟨g, o, hgo⟩ : ∃ g o, 0 < n → Ap = some ⟨g, o, none⟩ := by
    rcases Nat.eq_zero_or_pos n with h | h
    · exact ⟨0, 0, fun h' => by omega⟩
    · obtain ⟨g, o, h1⟩ := hadr h
      exact ⟨g, o, fun _ => h1⟩
  have HQ := Aside.mk (And.intro hq (And.intro hl (And.intro hln (And.intro hgo hw))))
  clear hq hl hln hw hadr hgo
  go_enter Tryd.func29, Tryd.ntmps29
  go_wp2_with fail
  refine (pair_none E q d A _ HQ.out.2.2.2.2).mono ?_
  rintro e w1 ⟨rfl, k1⟩
  have K1 := Aside.mk k1
  clear k1
  go_wp2_with fail
  refine (ext_frame E (HP.disk d A * q) name 0 gen none [] 0 0 _ hn2 (by omega) hgen rfl (by omega) (fun x hx => by cases hx) (fun w h => ⟨(HQ.out.1 _ h.right).1, Cells.nil _ _⟩) K1.out).mono ?_
  rintro e w2 ⟨gI, rfl, k2⟩
  have K2 := Aside.mk k2.right
  clear k2 K1
  go_wp2_with fail
  refine (pair_drop E q d A name _ hname K2.out).mono ?_
  rintro e w3 ⟨rfl, k3⟩
  have K3 := Aside.mk k3
  clear k3 K2
  by_cases h0 : (dropP A name).1 = 0
  · rw [if_pos h0] at HS
    rw [h0]
    generalize (dropP A name).2 = B at *
    clear h0
    go_wp2_with fail
    refine (chunk_ok E (HP.disk d B * q) Ap n c _ K3.out).mono ?_
    rintro e w4 ⟨bS, rfl, k4⟩
    have K4 := Aside.mk k4
    clear k4 K3
    go_wp2_with fail
    refine (collect_ok E (HP.disk d B * q) bS (bS + 1) Ap g o n c _ HQ.out.2.2.2.1 hnc hcm hn64 K4.out).mono ?_
    rintro e w5 ⟨v, rfl, k5⟩
    obtain ⟨A5, c5, rfl, -, hc5⟩ := k5.row_slice
    have K5 := Aside.mk k5
    clear k5 K4
    by_cases hz : n = 0
    · subst hz
      have hN0 : chunkN 0 = 0 := rfl
      rw [hN0] at K5 ⊢
      have K6 := Aside.mk ((K5.out.right).alloc (.cells [Value.slice none 0 0].toArray 52))
      clear K5
      go_wp2_with fail
      refine (pair_write E (HP.pt w5.heap.size (.cells [Value.slice none 0 0].toArray 52) * q) d B name 0 gen (some ⟨w5.heap.size, 0, none⟩) [⟨none, 0, []⟩] 1 1 _ hname (by omega) hgen rfl (by unfold maxLen; omega) (fun s hs => by
        obtain rfl := List.mem_singleton.1 hs
        exact ⟨Nat.le_refl _, fun x hx => by cases hx⟩) (fun w h => ⟨(HQ.out.1 _ h.right).1, Sat.ptCells (off := 0) (l := [Value.slice none 0 0]) h rfl, fun s hs => by
        obtain rfl := List.mem_singleton.1 hs
        exact Cells.nil _ _⟩) K6.out.s2).mono ?_
      rintro e w6 ⟨rfl, k7⟩
      have K7 := Aside.mk k7.drop2
      clear k7 K6
      have HX : Aside (wrP B name 0 gen (List.map (·.l) [(⟨none, 0, []⟩ : Sl Int)]) = storeP A name gen l) := ⟨by
        rw [HS.out]
        unfold piecesI
        rw [if_pos HQ.out.2.2.1]
        rfl⟩
      rw [HX.out] at K7 ⊢
      go_wp2
      go_ret
      exact ⟨rfl, K7.out⟩
    · obtain ⟨N, hN⟩ : ∃ N, N = chunkN n := ⟨_, rfl⟩
      have hNp : 0 < N := by rw [hN]; unfold chunkN; omega
      have hNm : N ≤ 1400000000000 := by rw [hN]; unfold chunkN; omega
      have HN := Aside.mk hN
      rw [← hN] at K5 ⊢
      clear hN
      have hnz1 : ((N : Int) == 0) = false := by rw [beq_eq_false_iff_ne]; omega
      have hnz2 : ¬ (N : Int) = 0 := by omega
      have hnz3 : ¬ N = 0 := by omega
      obtain rfl := HQ.out.2.2.2.1 (by omega)
      go_wp2_with fail
      refine (pair_write E (HP.row 52 1 (.slice A5 N c5) N ((List.range N).map (chunkV g o n)) * q) d B name 0 gen A5 ((List.range N).map (pieceS g o l)) N c5 _ hname (by omega) hgen (by rw [List.length_map, List.length_range]) (by unfold maxLen; omega) (fun s hs => by
        obtain ⟨k, hk, rfl⟩ := List.mem_map.1 hs
        exact ⟨by show (piece l k).length ≤ chunkM l.length k; rw [piece_length]; exact Nat.le_refl _, fun x hx => HQ.out.2.1 x (List.mem_of_mem_drop (List.mem_of_mem_take hx))⟩) (fun w h => ⟨(HQ.out.1 _ h.right).1, by
        have := h.row_cells
        rw [List.map_map, show (Sl.val8 ∘ pieceS g o l) = chunkV g o n by funext k; rw [Function.comp_apply, pieceS_val, HQ.out.2.2.1]]
        exact this, fun s hs => by
        obtain ⟨k, hk, rfl⟩ := List.mem_map.1 hs
        have := (((HQ.out.1 _ h.right).2).drop (106 * k)).take 106
        rw [addr_add] at this
        show Cells w (some ⟨g, o + 106 * k, none⟩) (b8s (piece l k))
        unfold piece
        unfold b8s at this ⊢
        rw [List.map_take, List.map_drop]
        exact this⟩) K5.out.s2).mono ?_
      rintro e w6 ⟨rfl, k7⟩
      have K7 := Aside.mk k7.drop2
      clear k7 K5
      have HX : Aside (wrP B name 0 gen (List.map (·.l) ((List.range N).map (pieceS g o l))) = storeP A name gen l) := ⟨by
        rw [HS.out]
        unfold piecesI
        rw [if_neg (by rw [HQ.out.2.2.1]; exact hz), List.map_map, HQ.out.2.2.1, ← HN.out]
        rfl⟩
      rw [HX.out] at K7 ⊢
      go_wp2
      go_ret
      exact ⟨rfl, K7.out⟩
  · rw [if_neg h0] at HS
    obtain ⟨ec, hec⟩ : ∃ ec, ec = (dropP A name).1 := ⟨_, rfl⟩
    rw [← hec] at h0 ⊢
    have HE := Aside.mk hec
    clear hec
    go_wp2
    go_ret
    rw [HS.out, HE.out]
    exact ⟨rfl, K3.out⟩
end Go.Proofs.YtanlgadijndmaaaDoor
/- Payloads written behind a file of a disk that has room. -/
namespace Go.Proofs.YtanlgadijndmaaaDoor
open Go.RowKit HP
set_option linter.unusedSimpArgs false
set_option linter.unusedVariables false

theorem goes_ever {A : Dk} (h : A.fuse = -1) : A.goes = true := by simp [Dk.goes, burnI, h]
theorem burnt_ever {A : Dk} (h : A.fuse = -1) : A.burnt = A := by
  obtain ⟨r, f, fs⟩ := A
  simp only at h
  subst h
  rfl
theorem write_end {A : Dk} {f : ByteArray} {I : List Int} (hn : namedB f = true) (hl : I.length = 128) (he : A.fuse = -1) (hf : 0 < A.free) : A.write f ((A.at f).length : Int) I = (0, A.set f (A.at f ++ [Cel.zero.wrote I])) := by
  unfold Dk.write
  rw [if_neg (by rw [hn, hl]; simp), if_neg (by rw [goes_ever he]; simp), if_neg (by omega), if_pos rfl, burnt_ever he]
theorem at_some {A : Dk} {f : ByteArray} (h : 0 < (A.at f).length) : lk A.files f = some (A.at f) := by
  unfold Dk.at at h ⊢
  cases hk : lk A.files f with
  | none => rw [hk] at h; simp at h
  | some l => rfl
structure Fresh (A B : Dk) (f : ByteArray) (m : Nat) : Prop where
  sorted : Sorted B.files
  fuse : B.fuse = -1
  room : B.room = A.room
  size : sizeF B.files = sizeF A.files + m
  others : ∀ t, f ≠ t → B.at t = A.at t
theorem set_fresh {A : Dk} {f : ByteArray} {l : List Cel} {m : Nat} (hs : Sorted A.files) (he : A.fuse = -1) (hl : l.length = (A.at f).length + m) : Fresh A (A.set f l) f m :=
  ⟨sorted_put f l hs, he, rfl, by
    have := sizeF_put hs f l
    have h2 : ((lk A.files f).getD []).length = (A.at f).length := rfl
    show sizeF (putF A.files f l) = _
    omega, fun t ht => by rw [at_set hs l, if_neg ht]⟩
theorem wrF_fresh {f : ByteArray} {gen : Nat} (hn : namedB f = true) (hg : (gen : Int) ≤ 4611686018427387904) : ∀ (ps : List (List Int)) (A : Dk) (i : Nat), Sorted A.files → A.fuse = -1 → (A.at f).length = i → (ps.length : Int) ≤ A.free → (∀ p ∈ ps, p.length ≤ 106) → i + ps.length ≤ 2147483647 → 0 < i + ps.length →
    ∃ B, wrF A f gen i ps = (0, B) ∧ Fresh A B f ps.length ∧ (B.at f).length = i + ps.length
  | [], A, i, hs, he, hi, _, _, _, h0 => by
    have hl := at_some (A := A) (f := f) (by rw [hi]; simpa using h0)
    refine ⟨_, sync_some hl (goes_ever he), ?_, ?_⟩
    · rw [burnt_ever he]
      exact set_fresh hs he (by rw [List.length_map]; rfl)
    · rw [burnt_ever he, at_set hs, if_pos rfl, List.length_map, hi]; rfl
  | p :: ps, A, i, hs, he, hi, hf, hp, hm, _ => by
    have hpl := hp p (List.mem_cons_self ..)
    simp only [List.length_cons] at hf hm
    have hfo : FrameOk (i : Int) gen p.length := ⟨by omega, by omega, by omega, hg, hpl⟩
    have hw : A.write f (i : Int) (extI f i gen p) = (0, A.set f (A.at f ++ [Cel.zero.wrote (extI f i gen p)])) := by
      have := write_end (A := A) (f := f) (I := extI f i gen p) hn (extI_length hpl) he (by omega)
      rw [hi] at this
      exact this
    have h1 := set_fresh (A := A) (f := f) (l := A.at f ++ [Cel.zero.wrote (extI f i gen p)]) (m := 1) hs he (by rw [List.length_append]; rfl)
    have hlen : ((A.set f (A.at f ++ [Cel.zero.wrote (extI f i gen p)])).at f).length = i + 1 := by rw [at_set hs, if_pos rfl, List.length_append, hi]; rfl
    obtain ⟨B, hB, hF, hBl⟩ := wrF_fresh hn hg ps (A.set f (A.at f ++ [Cel.zero.wrote (extI f i gen p)])) (i + 1) h1.sorted h1.fuse hlen (by
      have := h1.size
      show (ps.length : Int) ≤ (A.set f _).room - _
      unfold Dk.free at hf
      have h2 := h1.room
      omega) (fun x hx => hp x (List.mem_cons_of_mem _ hx)) (by omega) (by omega)
    refine ⟨B, ?_, ⟨hF.sorted, hF.fuse, hF.room.trans h1.room, ?_, fun t ht => (hF.others t ht).trans (h1.others t ht)⟩, by rw [hBl, List.length_cons]; omega⟩
    · unfold wrF
      rw [if_neg (by simpa using hfo), hw, if_pos rfl]
      exact hB
    · rw [hF.size, h1.size, List.length_cons]; omega
end Go.Proofs.YtanlgadijndmaaaDoor
/- PairNeeds, the plain part: how many extents a text has. -/
namespace Go.Proofs.YtanlgadijndmaaaDoor
open Go.RowKit HP
set_option linter.unusedSimpArgs false
set_option linter.unusedVariables false

theorem pieces_count {l : List Int} : ((piecesI l).length : Int) * 2 = needI l.length ∧ 0 < (piecesI l).length ∧ (l.length ≤ 600 → (piecesI l).length ≤ 6) ∧ ∀ p ∈ piecesI l, p.length ≤ 106 := by
  unfold piecesI needI
  by_cases h : l.length = 0
  · rw [if_pos h, if_pos (by omega)]
    refine ⟨by decide, by decide, fun _ => by decide, fun p hp => ?_⟩
    obtain rfl := List.mem_singleton.1 hp
    exact Nat.zero_le _
  · rw [if_neg h, if_neg (by omega), List.length_map, List.length_range]
    unfold chunkN
    refine ⟨by omega, by omega, fun h => by omega, fun p hp => ?_⟩
    obtain ⟨k, _, rfl⟩ := List.mem_map.1 hp
    rw [piece_length]
    unfold chunkM
    omega
/-- A text stored on a new disk. -/
theorem store_new {room : Int} {l : List Int} {gen : Nat} (hg : (gen : Int) ≤ 4611686018427387904) (hr : needI l.length ≤ room) (hl : (piecesI l).length ≤ 2147483647) : ∃ B, storeP (Dk.new room) exS gen l = (0, B) ∧ B.free = room - needI l.length ∧ B.fuse = -1 := by
  obtain ⟨p1, p2, -, p4⟩ := pieces_count (l := l)
  have hd : dropP (Dk.new room) exS = (0, Dk.new room) := by simp [dropP, dropL, halvesL, Dk.at, Dk.new, lk_nil]
  have hs0 : Sorted (Dk.new room).files := List.Pairwise.nil
  obtain ⟨B1, h1, f1, -⟩ := wrF_fresh (f := exS ++ dotA) twoEx.na hg (piecesI l) (Dk.new room) 0 hs0 rfl rfl (by show _ ≤ room - (0 : Nat); omega) p4 (by omega) (by omega)
  have hz : sizeF (Dk.new room).files = 0 := rfl
  have hr1 : B1.room = room := f1.room
  obtain ⟨B2, h2, f2, -⟩ := wrF_fresh (f := exS ++ dotB) twoEx.nb hg (piecesI l) B1 0 f1.sorted f1.fuse (by rw [f1.others _ twoEx.ne]; rfl) (by
    have := f1.size
    unfold Dk.free
    omega) p4 (by omega) (by omega)
  refine ⟨B2, ?_, ?_, f2.fuse⟩
  · unfold storeP
    rw [hd, if_pos rfl]
    unfold wrP halvesL
    simp only [wrL, h1, h2, if_pos rfl]
    rfl
  · have := f1.size
    have := f2.size
    have := f2.room
    unfold Dk.free
    omega
end Go.Proofs.YtanlgadijndmaaaDoor
/- pair.Load. -/
namespace Go.Proofs.YtanlgadijndmaaaDoor
open Go.RowKit HP
set_option linter.unusedSimpArgs false
set_option linter.unusedVariables false

def extN (A : Dk) (name : ByteArray) : Nat := (halvesL name).foldl (fun m f => max m (A.at f).length) 0
def loadG (A : Dk) (name : ByteArray) (gen : Int) : Nat → Nat → List Int → Option (List Int)
  | _, 0, out => some out
  | i, c + 1, out => if 0 ≤ (getP A name i).1 ∧ (getP A name i).1 = gen then loadG A name gen (i + 1) c (out ++ (getP A name i).2) else none
def loadP (A : Dk) (name : ByteArray) (gen : Int) : Option (List Int) := if extN A name = 0 then none else loadG A name gen 0 (extN A name) []
theorem getF_small {A : Dk} {i : Int} {st : Int × List Int} {f : ByteArray} (h : st.2.length ≤ 106) : (getF A i st f).2.length ≤ 106 := by
  unfold getF
  cases A.cel f i with
  | none => exact h
  | some c =>
    dsimp only
    cases ho : openI c.read f i with
    | none => exact h
    | some x =>
      dsimp only
      split
      · exact h
      · exact (openI_gen (p := x.1) (g := x.2) ho).2
theorem getP_small (A : Dk) (name : ByteArray) (i : Int) : (getP A name i).2.length ≤ 106 := by
  unfold getP halvesL
  exact getF_small (getF_small (Nat.zero_le _))
theorem extN_small {A : Dk} (h : ∀ s, (A.at s).length ≤ 100000) (name : ByteArray) : extN A name ≤ 100000 := by
  unfold extN halvesL
  simp only [List.foldl_cons, List.foldl_nil]
  have := h (name ++ dotA)
  have := h (name ++ dotB)
  omega
def loadEnd (E : Env) (q : HP) (r : Option (List Int)) (e : Ending) (w' : World) : Prop :=
  match r with
  | none => e = .returned (.tuple #[.slice none 0 0, .int .i64 50]) ∧ Sat E w' q
  | some l => ∃ v, e = .returned (.tuple #[v, .int .i64 0]) ∧ Sat E w' (HP.row 5 1 v l.length (b8s l) * q)
set_option maxHeartbeats 2000000 in
set_option maxRecDepth 100000 in
theorem pair_load (E : Env) (q : HP) (d : Nat) (A : Dk) (name : ByteArray) (gen : Int) (w : World) (hname : name.size + 2 ≤ maxLen) (hby : ∀ f ∈ halvesL name, ∀ i c, A.cel f i = some c → Bytes c.read)
    (hq : ∀ w, Sat E w q → Quarter w) (hw : Sat E w (HP.disk d A * q)) :
    Calls Tryd.prog 31 #[.pointer (some ⟨d, 0, none⟩), .string name, .int .i64 gen] w (loadEnd E (HP.disk d A * q) (loadP A name gen)) := by
  have hfa : (name ++ dotA).size ≤ maxLen := by rw [dotA_size]; exact hname
  have hfb : (name ++ dotB).size ≤ maxLen := by rw [dotB_size]; exact hname
  have HF : Aside (halvesL name = [name ++ dotA, name ++ dotB]) := ⟨rfl⟩
  have HSm : Aside (∀ s, (A.at s).length ≤ 100000) := ⟨fun s => at_small hw.disk_fine s⟩
  have HQ := Aside.mk (And.intro hq (And.intro hby hw))
  clear hq hby hw
  go_enter Tryd.func31, Tryd.ntmps31
  go_wp2_with fail
  refine (pair_none E q d A _ HQ.out.2.2).mono ?_
  rintro e w1 ⟨rfl, k1⟩
  have K1 := Aside.mk k1
  clear k1
  go_wp2_with fail
  refine (pair_halves E _ name _ hname K1.out).mono ?_
  rintro e w2 ⟨rfl, k2⟩
  obtain ⟨fa, hfae⟩ : ∃ fa, fa = name ++ dotA := ⟨_, rfl⟩
  obtain ⟨fb, hfbe⟩ : ∃ fb, fb = name ++ dotB := ⟨_, rfl⟩
  rw [← hfae] at hfa HF ⊢
  rw [← hfbe] at hfb HF ⊢
  clear hfae hfbe
  have K2 := Aside.mk k2
  clear k2 K1
  have i0 : ∀ w, (Instr.index 144 (.agg #[.string fa, .string fb]) (.int .i64 0)).run Tryd.prog w = .ok (.string fa) w := fun w => by kernel_rfl
  have i1 : ∀ w, (Instr.index 144 (.agg #[.string fa, .string fb]) (.int .i64 1)).run Tryd.prog w = .ok (.string fb) w := fun w => by kernel_rfl
  go_wp2
  go_loopw [8, 20] (fun v8 v20 wr => ∃ h m : Nat, h ≤ 2 ∧ v20 = .int .i64 h ∧ v8 = .int .i64 m ∧ m ≤ 100000 ∧ Aside (((halvesL name).drop h).foldl (fun m f => max m (A.at f).length) m = extN A name) ∧ Aside (Sat E wr (HP.disk d A * q))) (fun _ i _ => 2 - (intOf i).toNat)
  case atStart => exact ⟨0, 0, by omega, rfl, rfl, by omega, ⟨rfl⟩, K2⟩
  case round =>
    obtain ⟨h, m, hh, rfl, rfl, hm, HM, HS⟩ := hrel
    by_cases hlt : h < 2
    · obtain ⟨f, hf, hff, hix⟩ : ∃ f : ByteArray, f.size ≤ maxLen ∧ (halvesL name).drop h = f :: (halvesL name).drop (h + 1) ∧ ∀ w, (Instr.index 144 (.agg #[.string fa, .string fb]) (.int .i64 (h : Int))).run Tryd.prog w = .ok (.string f) w := by
        rw [HF.out]
        rcases Nat.lt_or_ge h 1 with h0 | h0
        · obtain rfl : h = 0 := by omega
          exact ⟨fa, hfa, rfl, i0⟩
        · obtain rfl : h = 1 := by omega
          exact ⟨fb, hfb, rfl, i1⟩
      rw [hff, List.foldl_cons] at HM
      have hlt2 : (h : Int) < 2 := by omega
      clear hff i0 i1
      go_wp2_with fail
      refine (disk_extents E q d A f _ hf HS.out).mono ?_
      rintro e w3 ⟨rfl, rfl⟩
      have hx := HSm.out f
      obtain ⟨x, hxe⟩ : ∃ x, x = (A.at f).length := ⟨_, rfl⟩
      rw [← hxe] at hx HM ⊢
      clear hxe
      have hmx : (if (x : Int) > (m : Int) then (x : Int) else m) = (max m x : Nat) := by split <;> omega
      obtain ⟨y, hy⟩ : ∃ y, y = max m x := ⟨_, rfl⟩
      have hy2 : y ≤ 100000 := by omega
      rw [← hy] at hmx HM
      have hmx2 : (if m < x then (x : Int) else (m : Int)) = (y : Int) := by split <;> omega
      clear hy
      go_wp2
      go_roundw
      case rel => exact ⟨h + 1, y, by omega, by push_cast; rfl, rfl, hy2, HM, HS⟩
      case measure => simp [intOf]; omega
    · have hh2 : h = 2 := by omega
      subst hh2
      rw [HF.out] at HM
      have HM2 : Aside (extN A name = m) := ⟨HM.out.symm⟩
      clear HM i0 i1
      have HS0 := Aside.mk (HS.out.row_nil 5 1 none)
      go_wp2
      go_loopw [11, 30] (fun v11 v30 wr => ∃ (i : Nat) (out : List Int), i ≤ m ∧ v30 = .int .i64 i ∧ out.length ≤ 106 * i ∧ Aside (loadG A name gen i (m - i) out = loadG A name gen 0 m []) ∧ Aside (Sat E wr (HP.row 5 1 v11 out.length (b8s out) * (HP.disk d A * q)))) (fun _ i _ => m - (intOf i).toNat)
      case atStart => exact ⟨0, [], by omega, rfl, by simp, ⟨rfl⟩, HS0⟩
      case round =>
        obtain ⟨i, out, hi, rfl, ho, HG, HT⟩ := hrel
        by_cases hlt : i < m
        · have hlt2 : (i : Int) < m := by omega
          go_wp2_with fail
          refine (pair_get E (HP.row 5 1 u11 out.length (b8s out) * q) d A name i _ hname (fun f hf c hc => HQ.out.2.1 f hf i c hc) (fun w h => HQ.out.1 _ h.right) HT.out.s2).mono ?_
          rintro e w4 ⟨v, rfl, h4⟩
          have hsm := getP_small A name i
          obtain ⟨j, hj⟩ : ∃ j, m - i = j + 1 := ⟨m - i - 1, by omega⟩
          have HL : Aside (loadG A name gen i (j + 1) out = if 0 ≤ (getP A name i).1 ∧ (getP A name i).1 = gen then loadG A name gen (i + 1) j (out ++ (getP A name i).2) else none) := ⟨rfl⟩
          rw [hj, HL.out] at HG
          clear HL
          have HP0 : Aside (loadP A name gen = loadG A name gen 0 m []) := ⟨by unfold loadP; rw [HM2.out, if_neg (by omega)]⟩
          obtain ⟨⟨best, p⟩, hst⟩ : ∃ st, st = getP A name i := ⟨_, rfl⟩
          rw [← hst] at h4 HG hsm ⊢
          clear hst
          dsimp only at h4 HG hsm
          unfold getEnd
          dsimp only
          by_cases hneg : best < 0
          · rw [if_pos hneg]
            have HX : Aside (loadP A name gen = none) := ⟨by rw [HP0.out, ← HG.out, if_neg (by omega)]⟩
            have H4 := Aside.mk (h4.right.perm (by ac_rfl) : Sat E w4 (HP.row 5 1 u11 out.length (b8s out) * (HP.disk d A * q)))
            clear h4 HG
            go_wp2
            go_ret2
            rw [HX.out]
            exact ⟨rfl, H4.out.right⟩
          · rw [if_neg hneg]
            obtain ⟨Av, cv, rfl, -, -⟩ := h4.row_slice
            by_cases heq : best = gen
            · subst heq
              rw [if_pos ⟨by omega, rfl⟩] at HG
              have h5 : Sat E w4 (HP.row 5 1 u11 out.length (b8s out) * (HP.row 5 1 (.slice Av p.length cv) p.length (b8s p) * (HP.disk d A * q))) := h4.perm (by ac_rfl)
              have H5 := Aside.mk (And.intro h5 (And.intro h4.row_cells (show (b8s p).length = p.length * 1 by rw [b8s_length, Nat.mul_one])))
              clear h4 h5
              obtain ⟨pl, hpl⟩ : ∃ pl, pl = p.length := ⟨_, rfl⟩
              obtain ⟨ol, hol⟩ : ∃ ol, ol = out.length := ⟨_, rfl⟩
              rw [← hpl, ← hol] at H5
              rw [← hpl] at hsm ⊢
              rw [← hol] at ho
              have HO := Aside.mk (And.intro hpl hol)
              clear hpl hol
              go_wp2_with (at_builtin; refine wpList_append_row slB8 rfl rfl (by rfl) (by rfl) H5.out.1 H5.out.2.1 H5.out.2.2 (b8s_one _) (by unfold maxLen; omega) (by omega) (fun v5 w5 hw5 => ?_); obtain ⟨A5, c5, rfl, -, -⟩ := hw5.row_slice; have HW5 := Aside.mk hw5; clear hw5)
              have H6 : Aside (Sat E w5 (HP.row 5 1 (.slice A5 (ol + pl) c5) (out ++ p).length (b8s (out ++ p)) * (HP.disk d A * q))) := ⟨by
                rw [List.length_append, b8s_append, ← HO.out.1, ← HO.out.2]
                exact HW5.out.drop2⟩
              have HG2 : Aside (loadG A name best (i + 1) (m - (i + 1)) (out ++ p) = loadG A name best 0 m []) := ⟨by rw [← HG.out, show m - (i + 1) = j by omega]⟩
              clear HG HW5 H5
              go_wp2
              refine ⟨?_, ?measure⟩
              (repeat apply Exists.intro)
              refine ⟨?rel, rfl⟩
              case rel => exact ⟨i + 1, out ++ p, by omega, by push_cast; rfl, by rw [List.length_append, ← HO.out.1, ← HO.out.2]; omega, HG2, H6⟩
              case measure => simp [intOf]; omega
            · rw [if_neg (fun h => heq h.2)] at HG
              have HX : Aside (loadP A name gen = none) := ⟨by rw [HP0.out, ← HG.out]⟩
              have H4 := Aside.mk (h4.right.perm (by ac_rfl) : Sat E w4 (HP.row 5 1 u11 out.length (b8s out) * (HP.disk d A * q)))
              clear h4 HG
              go_wp2
              go_ret2
              rw [HX.out]
              exact ⟨rfl, H4.out.right⟩
        · have hie : i = m := by omega
          subst hie
          rw [Nat.sub_self] at HG
          have HG2 : Aside (loadG A name gen 0 i [] = some out) := ⟨HG.out.symm⟩
          clear HG
          by_cases hz : i = 0
          · subst hz
            have HX : Aside (loadP A name gen = none) := ⟨by unfold loadP; rw [if_pos HM2.out]⟩
            clear HG2
            go_wp2
            go_ret2
            rw [HX.out]
            exact ⟨rfl, HT.out.right⟩
          · have HX : Aside (loadP A name gen = some out) := ⟨by unfold loadP; rw [HM2.out, if_neg hz]; exact HG2.out⟩
            have hb0 : ((i : Int) == 0) = false := by rw [beq_eq_false_iff_ne]; omega
            have hb1 : ¬ (i : Int) = 0 := by omega
            clear HG2
            go_wp2
            go_ret2
            rw [HX.out]
            exact ⟨_, rfl, HT.out⟩
end Go.Proofs.YtanlgadijndmaaaDoor
/- A disk on which both halves hold pieces. -/
namespace Go.Proofs.YtanlgadijndmaaaDoor
open Go.RowKit HP
set_option linter.unusedSimpArgs false
set_option linter.unusedVariables false

def newCels (f : ByteArray) (gen : Nat) : Nat → List (List Int) → List Cel
  | _, [] => []
  | i, p :: ps => Cel.zero.wrote (extI f i gen p) :: newCels f gen (i + 1) ps
theorem wrF_cels {f : ByteArray} {gen : Nat} (hn : namedB f = true) (hg : (gen : Int) ≤ 4611686018427387904) : ∀ (ps : List (List Int)) (A : Dk) (i : Nat), Sorted A.files → A.fuse = -1 → (A.at f).length = i → (ps.length : Int) ≤ A.free → (∀ p ∈ ps, p.length ≤ 106) → i + ps.length ≤ 2147483647 → 0 < i + ps.length →
    (wrF A f gen i ps).2.at f = (A.at f ++ newCels f gen i ps).map Cel.syncd
  | [], A, i, hs, he, hi, _, _, _, h0 => by
    have hl := at_some (A := A) (f := f) (by rw [hi]; simpa using h0)
    show (A.sync f).2.at f = _
    rw [sync_some hl (goes_ever he), burnt_ever he, at_set hs, if_pos rfl]
    simp [newCels]
  | p :: ps, A, i, hs, he, hi, hf, hp, hm, _ => by
    have hpl := hp p (List.mem_cons_self ..)
    simp only [List.length_cons] at hf hm
    have hfo : FrameOk (i : Int) gen p.length := ⟨by omega, by omega, by omega, hg, hpl⟩
    have hw : A.write f (i : Int) (extI f i gen p) = (0, A.set f (A.at f ++ [Cel.zero.wrote (extI f i gen p)])) := by
      have := write_end (A := A) (f := f) (I := extI f i gen p) hn (extI_length hpl) he (by omega)
      rw [hi] at this
      exact this
    have h1 := set_fresh (A := A) (f := f) (l := A.at f ++ [Cel.zero.wrote (extI f i gen p)]) (m := 1) hs he (by rw [List.length_append]; rfl)
    have hlen : ((A.set f (A.at f ++ [Cel.zero.wrote (extI f i gen p)])).at f).length = i + 1 := by rw [at_set hs, if_pos rfl, List.length_append, hi]; rfl
    have hB := wrF_cels hn hg ps (A.set f (A.at f ++ [Cel.zero.wrote (extI f i gen p)])) (i + 1) h1.sorted h1.fuse hlen (by
      have := h1.size
      show (ps.length : Int) ≤ (A.set f _).room - _
      unfold Dk.free at hf
      have h2 := h1.room
      omega) (fun x hx => hp x (List.mem_cons_of_mem _ hx)) (by omega) (by omega)
    unfold wrF
    rw [if_neg (by simpa using hfo), hw, if_pos rfl, hB, at_set hs, if_pos rfl]
    simp [newCels]
theorem newCels_get {f : ByteArray} {gen : Nat} : ∀ (ps : List (List Int)) (i k : Nat) (p : List Int), ps[k]? = some p → (newCels f gen i ps)[k]? = some (Cel.zero.wrote (extI f (i + k) gen p))
  | [], i, k, p, h => by simp at h
  | q :: ps, i, 0, p, h => by
    simp only [List.getElem?_cons_zero, Option.some.injEq] at h
    subst h
    rfl
  | q :: ps, i, k + 1, p, h => by
    have := newCels_get (f := f) (gen := gen) ps (i + 1) k p (by simpa using h)
    rw [show i + 1 + k = i + (k + 1) by omega] at this
    simpa [newCels] using this
theorem newCels_length {f : ByteArray} {gen : Nat} : ∀ (ps : List (List Int)) (i : Nat), (newCels f gen i ps).length = ps.length
  | [], _ => rfl
  | _ :: ps, i => by
    show (newCels f gen (i + 1) ps).length + 1 = ps.length + 1
    rw [newCels_length ps]
/-- A disk on which both halves hold these pieces, of one generation. -/
structure Holds (B : Dk) (x : ByteArray) (gen : Nat) (ps : List (List Int)) : Prop where
  a : B.at (x ++ dotA) = (newCels (x ++ dotA) gen 0 ps).map Cel.syncd
  b : B.at (x ++ dotB) = (newCels (x ++ dotB) gen 0 ps).map Cel.syncd
theorem held_cel {B : Dk} {f : ByteArray} {gen k : Nat} {ps : List (List Int)} {p : List Int} (h : B.at f = (newCels f gen 0 ps).map Cel.syncd) (hp : ps[k]? = some p) : B.cel f (k : Int) = some (stl (extI f k gen p)) := by
  unfold Dk.cel
  rw [if_pos (by omega), Int.toNat_natCast, h, List.getElem?_map, newCels_get ps 0 k p hp, Nat.zero_add]
  rfl
theorem held_get {B : Dk} {x : ByteArray} {gen k : Nat} {ps : List (List Int)} {p : List Int} (h : Holds B x gen ps) (hg : gen ≤ 4611686018427387904) (hk : k ≤ 2147483647) (hp : ps[k]? = some p) (hl : p.length ≤ 106) : getP B x (k : Int) = ((gen : Int), p) := by
  have oa := openI_extI (f := x ++ dotA) (i := k) hk hg hl
  have ob := openI_extI (f := x ++ dotB) (i := k) hk hg hl
  unfold getP halvesL
  simp only [List.foldl_cons, List.foldl_nil]
  rw [show getF B k (-1, []) (x ++ dotA) = ((gen : Int), p) by simp only [getF, held_cel h.a hp, stl, oa]; rw [if_neg (by show ¬ (gen : Int) ≤ -1; omega)]]
  simp only [getF, held_cel h.b hp, stl, ob]
  rw [if_pos (Int.le_refl _)]
end Go.Proofs.YtanlgadijndmaaaDoor
/- What is stored on a new disk is read. -/
namespace Go.Proofs.YtanlgadijndmaaaDoor
open Go.RowKit HP
set_option linter.unusedSimpArgs false
set_option linter.unusedVariables false

theorem held_loadG {B : Dk} {x : ByteArray} {gen : Nat} {ps : List (List Int)} (h : Holds B x gen ps) (hg : gen ≤ 4611686018427387904) (hm : ps.length ≤ 2147483647) (hl : ∀ p ∈ ps, p.length ≤ 106) : ∀ (c i : Nat) (out : List Int), i + c = ps.length → loadG B x gen i c out = some (out ++ (ps.drop i).flatten)
  | 0, i, out, hi => by
    rw [List.drop_of_length_le (by omega)]
    simp [loadG]
  | c + 1, i, out, hi => by
    have hil : i < ps.length := by omega
    have hg2 := held_get (k := i) h hg (by omega) (List.getElem?_eq_getElem hil) (hl _ (List.getElem_mem hil))
    unfold loadG
    rw [hg2, if_pos ⟨by show (0 : Int) ≤ gen; omega, rfl⟩, held_loadG h hg hm hl c (i + 1) _ (by omega)]
    have e : (ps.drop i).flatten = ps[i] ++ (ps.drop (i + 1)).flatten := by rw [List.drop_eq_getElem_cons hil, List.flatten_cons]
    rw [e, List.append_assoc]
theorem held_load {B : Dk} {x : ByteArray} {gen : Nat} {ps : List (List Int)} (h : Holds B x gen ps) (hg : gen ≤ 4611686018427387904) (h0 : ps ≠ []) (hm : ps.length ≤ 2147483647) (hl : ∀ p ∈ ps, p.length ≤ 106) : loadP B x gen = some ps.flatten := by
  have hn : extN B x = ps.length := by
    unfold extN halvesL
    simp only [List.foldl_cons, List.foldl_nil, h.a, h.b, List.length_map, newCels_length]
    omega
  unfold loadP
  rw [hn, if_neg (fun h => h0 (List.eq_nil_of_length_eq_zero h)), held_loadG h hg hm hl _ 0 [] (by omega)]
  simp
theorem pieces_flat (l : List Int) : ∀ (m k : Nat), 106 * (k + m) ≥ l.length → ((List.range' k m).map (piece l)).flatten = l.drop (106 * k)
  | 0, k, h => by
    rw [List.drop_of_length_le (by simpa using h)]
    rfl
  | m + 1, k, h => by
    have ih := pieces_flat l m (k + 1) (by omega)
    rw [List.range'_succ, List.map_cons, List.flatten_cons, ih]
    unfold piece
    rw [show 106 * (k + 1) = 106 * k + 106 by omega, ← List.drop_drop, List.take_append_drop]
theorem piecesI_flat (l : List Int) : (piecesI l).flatten = l := by
  unfold piecesI
  by_cases h : l.length = 0
  · rw [if_pos h, List.eq_nil_of_length_eq_zero h]; rfl
  · rw [if_neg h, List.range_eq_range', pieces_flat l _ 0 (by unfold chunkN; omega)]
    rfl
/-- A text stored on a new disk: what both halves hold. -/
theorem store_held {room : Int} {l : List Int} {gen : Nat} (hg : (gen : Int) ≤ 4611686018427387904) (hr : needI l.length ≤ room) (hl : (piecesI l).length ≤ 2147483647) : Holds (storeP (Dk.new room) exS gen l).2 exS gen (piecesI l) ∧ Sorted (storeP (Dk.new room) exS gen l).2.files := by
  obtain ⟨p1, p2, -, p4⟩ := pieces_count (l := l)
  have hd : dropP (Dk.new room) exS = (0, Dk.new room) := by simp [dropP, dropL, halvesL, Dk.at, Dk.new, lk_nil]
  have hs0 : Sorted (Dk.new room).files := List.Pairwise.nil
  have hz : sizeF (Dk.new room).files = 0 := rfl
  have c1 : ((piecesI l).length : Int) ≤ (Dk.new room).free := by show _ ≤ room - (0 : Nat); omega
  obtain ⟨B1, h1, f1, -⟩ := wrF_fresh (f := exS ++ dotA) twoEx.na hg (piecesI l) (Dk.new room) 0 hs0 rfl rfl c1 p4 (by omega) (by omega)
  have g1 := wrF_cels (f := exS ++ dotA) twoEx.na hg (piecesI l) (Dk.new room) 0 hs0 rfl rfl c1 p4 (by omega) (by omega)
  have hr1 : B1.room = room := f1.room
  have c2 : ((piecesI l).length : Int) ≤ B1.free := by
    have := f1.size
    unfold Dk.free
    omega
  have hb0 : (B1.at (exS ++ dotB)).length = 0 := by rw [f1.others _ twoEx.ne]; rfl
  obtain ⟨B2, h2, f2, -⟩ := wrF_fresh (f := exS ++ dotB) twoEx.nb hg (piecesI l) B1 0 f1.sorted f1.fuse hb0 c2 p4 (by omega) (by omega)
  have g2 := wrF_cels (f := exS ++ dotB) twoEx.nb hg (piecesI l) B1 0 f1.sorted f1.fuse hb0 c2 p4 (by omega) (by omega)
  have hst : storeP (Dk.new room) exS gen l = (0, B2) := by
    unfold storeP
    rw [hd, if_pos rfl]
    unfold wrP halvesL
    simp only [wrL, h1, h2, if_pos rfl]
    rfl
  rw [h1] at g1
  rw [h2] at g2
  rw [hst]
  refine ⟨⟨?_, ?_⟩, f2.sorted⟩
  · rw [f2.others _ (Ne.symm twoEx.ne)]
    exact g1
  · rw [List.eq_nil_of_length_eq_zero hb0, List.nil_append] at g2
    exact g2
theorem store_holds {room : Int} {l : List Int} {gen : Nat} (hg : (gen : Int) ≤ 4611686018427387904) (hr : needI l.length ≤ room) (hl : (piecesI l).length ≤ 2147483647) : Holds (storeP (Dk.new room) exS gen l).2 exS gen (piecesI l) := (store_held hg hr hl).1
theorem store_load {room : Int} {l : List Int} {gen : Nat} (hg : (gen : Int) ≤ 4611686018427387904) (hr : needI l.length ≤ room) (hl : (piecesI l).length ≤ 2147483647) : loadP (storeP (Dk.new room) exS gen l).2 exS gen = some l := by
  obtain ⟨p1, p2, -, p4⟩ := pieces_count (l := l)
  rw [held_load (store_holds hg hr hl) (by omega) (fun h => by rw [h] at p2; simp at p2) hl p4, piecesI_flat]
end Go.Proofs.YtanlgadijndmaaaDoor
/- PairLost, the plain part: an extent of which one byte is turned is not right. -/
namespace Go.Proofs.YtanlgadijndmaaaDoor
open Go.RowKit HP
set_option linter.unusedSimpArgs false
set_option linter.unusedVariables false

theorem xor_cancel {x y z : Nat} (h : x ^^^ z = y ^^^ z) : x = y := by
  have h := congrArg (· ^^^ z) h
  simpa only [Nat.xor_assoc, Nat.xor_self, Nat.xor_zero] using h
theorem quarterN_top : ∀ i : Nat, i < 4 → quarterN i / 1073741824 = i
  | 0, _ => rfl
  | 1, _ => rfl
  | 2, _ => rfl
  | 3, _ => rfl
  | n + 4, h => by omega
theorem crcQ_top {r : Nat} (h : r < 4294967296) : crcQ r / 1073741824 = r % 4 := by
  have h1 : crcQ r >>> 30 = r % 4 := by
    unfold crcQ
    rw [Nat.shiftRight_xor_distrib, Nat.shiftRight_eq_div_pow, Nat.shiftRight_eq_div_pow]
    rw [show r / 4 / 2 ^ 30 = 0 by omega, Nat.zero_xor]
    exact quarterN_top _ (by omega)
  rwa [Nat.shiftRight_eq_div_pow] at h1
theorem crcQ_inj {a b : Nat} (ha : a < 4294967296) (hb : b < 4294967296) (h : crcQ a = crcQ b) : a = b := by
  have h1 := crcQ_top ha
  have h2 := crcQ_top hb
  rw [h, h2] at h1
  unfold crcQ at h
  rw [← h1] at h
  have := xor_cancel h
  omega
theorem crcI_inj {a b : Nat} (ha : a < 4294967296) (hb : b < 4294967296) : ∀ k, crcI k a = crcI k b → a = b
  | 0, h => h
  | k + 1, h => crcI_inj ha hb k (crcQ_inj (crcI_lt ha k) (crcI_lt hb k) h)
theorem crcB_inj {r s x y : Nat} (hr : r < 4294967296) (hs : s < 4294967296) (hx : x < 256) (hy : y < 256) (h : crcB r x = crcB s y) : r ^^^ x = s ^^^ y := crcI_inj (xor_lt32 hr (by omega)) (xor_lt32 hs (by omega)) 4 h
theorem crcL_inj : ∀ {l : List Int}, Bytes l → ∀ {r s : Nat}, r < 4294967296 → s < 4294967296 → crcL r l = crcL s l → r = s
  | [], _, r, s, _, _, h => h
  | x :: l, hl, r, s, hr, hs, h => by
    have hx := hl x (List.mem_cons_self ..)
    have h1 := crcL_inj (fun y hy => hl y (List.mem_cons_of_mem _ hy)) (crcB_lt hr (by omega)) (crcB_lt hs (by omega)) h
    exact xor_cancel (crcB_inj hr hs (by omega) (by omega) h1)
theorem crcL_set : ∀ {l : List Int}, Bytes l → ∀ {r k : Nat} {y : Int}, r < 4294967296 → k < l.length → 0 ≤ y → y ≤ 255 → crcL r (l.set k y) = crcL r l → y = l.getD k 0
  | [], _, r, k, y, _, hk, _, _, _ => by simp at hk
  | x :: l, hl, r, 0, y, hr, hk, h0, h1, h => by
    have hx := hl x (List.mem_cons_self ..)
    have h2 := crcL_inj (fun y hy => hl y (List.mem_cons_of_mem _ hy)) (crcB_lt (x := y.toNat) hr (by omega)) (crcB_lt (x := x.toNat) hr (by omega)) h
    have h3 := crcB_inj hr hr (by omega) (by omega) h2
    rw [Nat.xor_comm r, Nat.xor_comm r] at h3
    have h4 := xor_cancel h3
    show y = x
    omega
  | x :: l, hl, r, k + 1, y, hr, hk, h0, h1, h => by
    have hx := hl x (List.mem_cons_self ..)
    have := crcL_set (fun y hy => hl y (List.mem_cons_of_mem _ hy)) (k := k) (y := y) (crcB_lt (x := x.toNat) hr (by omega)) (by simpa using hk) h0 h1 h
    simpa using this
theorem crcSum_set {l : List Int} (hl : Bytes l) {k : Nat} {y : Int} (hk : k < l.length) (h0 : 0 ≤ y) (h1 : y ≤ 255) (h : crcSum (l.set k y) = crcSum l) : y = l.getD k 0 := by
  unfold crcSum crcMore at h
  rw [Nat.xor_comm 4294967295 (crcL _ _), Nat.xor_comm 4294967295 (crcL _ _)] at h
  exact crcL_set hl (by decide) hk h0 h1 (xor_cancel h)
/-- The last four bytes are the sum of all ahead of them. -/
def SumOk (b : List Int) : Prop := b.length = 128 ∧ b.drop 124 = putI (crcSum (b.take 124)) 4
theorem extI_sumOk {f : ByteArray} {i g : Nat} {p : List Int} (h : p.length ≤ 106) : SumOk (extI f i g p) := by
  refine ⟨extI_length h, ?_⟩
  unfold extI
  rw [List.drop_left' (extH_length h), List.take_left' (extH_length h)]
theorem openI_sumOk {b : List Int} {f : ByteArray} {i : Int} {x : List Int × Nat} (h : openI b f i = some x) : SumOk b := by
  obtain ⟨p, g⟩ := x
  have hl := (openI_gen h).2
  unfold openI at h
  split at h
  · cases h
  · split at h
    · cases h
    · split at h
      · cases h
      · rename_i h1 h2 h3
        simp only [Option.some.injEq, Prod.mk.injEq] at h
        obtain ⟨h4, h5⟩ := h
        rw [h4, h5] at h3
        rw [← Decidable.of_not_not h3]
        exact extI_sumOk hl
theorem sumOk_set {o : List Int} (ho : SumOk o) (hb : Bytes o) {k : Nat} {y : Int} (hk : k < 128) (h0 : 0 ≤ y) (h1 : y ≤ 255) (hne : y ≠ o.getD k 0) : ¬ SumOk (o.set k y) := by
  rintro ⟨-, h⟩
  obtain ⟨hl, hs⟩ := ho
  have bt : Bytes (o.take 124) := fun x hx => hb x (List.mem_of_mem_take hx)
  by_cases hk2 : k < 124
  · have e1 : (o.set k y).drop 124 = o.drop 124 := by
      apply List.ext_getElem?
      intro j
      rw [List.getElem?_drop, List.getElem?_drop, List.getElem?_set_ne (by omega)]
    have e2 : (o.set k y).take 124 = (o.take 124).set k y := by rw [List.take_set]
    rw [e1, e2, hs] at h
    have h2 := congrArg getN h
    have l1 : Bytes ((o.take 124).set k y) := fun x hx => by
      rcases List.mem_or_eq_of_mem_set hx with hx | rfl
      · exact bt x hx
      · omega
    rw [getN_putI 4 _ (crcSum_lt bt), getN_putI 4 _ (crcSum_lt l1)] at h2
    have := crcSum_set bt (k := k) (y := y) (by rw [List.length_take]; omega) h0 h1 h2.symm
    apply hne
    rw [this]
    simp only [List.getD, List.getElem?_take, if_pos hk2]
  · have e2 : (o.set k y).take 124 = o.take 124 := by
      apply List.ext_getElem?
      intro j
      rw [List.getElem?_take, List.getElem?_take]
      split
      · rw [List.getElem?_set_ne (by omega)]
      · rfl
    rw [e2, ← hs] at h
    have h2 := congrArg (fun l => l[k - 124]?) h
    simp only [List.getElem?_drop] at h2
    rw [show 124 + (k - 124) = k by omega, List.getElem?_set_self (by omega)] at h2
    apply hne
    simp [List.getD, ← h2]
theorem xorB_byte {a m : Int} (h0 : 0 ≤ a) (h1 : a ≤ 255) (h2 : 0 ≤ m) (h3 : m ≤ 255) : 0 ≤ xorB a m ∧ xorB a m ≤ 255 := by
  unfold xorB
  rw [u8_xor a m h0 (by omega) h2 (by omega)]
  have := Nat.xor_lt_two_pow (n := 8) (x := a.toNat) (y := m.toNat) (by omega) (by omega)
  omega
theorem xorB_ne {a m : Int} (h0 : 0 ≤ a) (h1 : a ≤ 255) (h2 : 0 < m) (h3 : m ≤ 255) : xorB a m ≠ a := by
  unfold xorB
  rw [u8_xor a m h0 (by omega) (by omega) (by omega)]
  intro h
  have h4 : a.toNat ^^^ m.toNat = a.toNat := by omega
  have h5 : m.toNat ^^^ a.toNat = 0 ^^^ a.toNat := by rw [Nat.xor_comm, h4, Nat.zero_xor]
  have := xor_cancel h5
  omega
theorem getD_byte {l : List Int} (h : Bytes l) (k : Nat) : 0 ≤ l.getD k 0 ∧ l.getD k 0 ≤ 255 := by
  unfold List.getD
  cases hk : l[k]? with
  | none => simp
  | some x => exact h x (List.mem_of_getElem? hk)
theorem xorAt_bytes {l : List Int} (h : Bytes l) {k : Nat} {m : Int} (h2 : 0 ≤ m) (h3 : m ≤ 255) : Bytes (xorAt l k m) := fun x hx => by
  rcases List.mem_or_eq_of_mem_set hx with hx | rfl
  · exact h x hx
  · exact xorB_byte (getD_byte h k).1 (getD_byte h k).2 h2 h3
theorem openI_xorAt {f e : ByteArray} {i g : Nat} {j : Int} {p : List Int} (hp : p.length ≤ 106) (bp : Bytes p) {k : Nat} {m : Int} (hk : k < 128) (h2 : 0 < m) (h3 : m ≤ 255) : openI (xorAt (extI f i g p) k m) e j = none := by
  have hb := extI_bytes (name := f) (index := i) (gen := g) hp bp
  have hd := getD_byte hb k
  have hx := xorB_byte hd.1 hd.2 (by omega : 0 ≤ m) h3
  cases h : openI (xorAt (extI f i g p) k m) e j with
  | none => rfl
  | some x => exact absurd (openI_sumOk h) (sumOk_set (extI_sumOk hp) hb hk hx.1 hx.2 (xorB_ne hd.1 hd.2 h2 h3))
theorem held_bytes {B : Dk} {x : ByteArray} {gen : Nat} {ps : List (List Int)} (h : Holds B x gen ps) (hl : ∀ p ∈ ps, p.length ≤ 106) (hb : ∀ p ∈ ps, Bytes p) : ∀ f ∈ halvesL x, ∀ i c, B.cel f i = some c → Bytes c.read := by
  have key : ∀ f, B.at f = (newCels f gen 0 ps).map Cel.syncd → ∀ i c, B.cel f i = some c → Bytes c.read := by
    intro f hf i c hc
    have hc2 := hc
    unfold Dk.cel at hc
    split at hc
    · rename_i h0
      rw [hf, List.getElem?_map] at hc
      have hlt : i.toNat < ps.length := by
        refine Nat.lt_of_not_le fun hn => ?_
        rw [List.getElem?_eq_none (by rw [newCels_length]; omega)] at hc
        cases hc
      have hg := held_cel (k := i.toNat) hf (List.getElem?_eq_getElem hlt)
      rw [show ((i.toNat : Nat) : Int) = i by omega, hc2] at hg
      cases hg
      exact extI_bytes (hl _ (List.getElem_mem hlt)) (hb _ (List.getElem_mem hlt))
    · cases hc
  intro f hf
  rcases List.mem_cons.1 hf with rfl | hf
  · exact key _ h.a
  · rcases List.mem_cons.1 hf with rfl | hf
    · exact key _ h.b
    · cases hf
theorem loadG_lost {A : Dk} {x : ByteArray} {gen : Int} : ∀ (c i k : Nat) (out : List Int), i ≤ k → k < i + c → (getP A x k).1 < 0 → loadG A x gen i c out = none
  | 0, i, k, out, h1, h2, _ => by omega
  | c + 1, i, k, out, h1, h2, h => by
    unfold loadG
    by_cases hk : i = k
    · subst hk
      rw [if_neg (by omega)]
    · split
      · exact loadG_lost c (i + 1) k _ (by omega) (by omega) h
      · rfl
theorem loadP_lost {A : Dk} {x : ByteArray} {gen : Int} {k : Nat} (hk : k < extN A x) (h : (getP A x k).1 < 0) : loadP A x gen = none := by
  unfold loadP
  split
  · rfl
  · exact loadG_lost _ 0 k [] (by omega) (by omega) h
theorem rot_at {A : Dk} {f : ByteArray} {k t : Nat} {m : Int} {I : List Int} (hc : A.cel f k = some (stl I)) (ht : t < 128) : A.rot f k t m = (0, A.set f ((A.at f).set k ⟨xorAt I t m, xorAt I t m, I, I, false⟩)) := by
  unfold Dk.rot
  rw [hc]
  dsimp only
  rw [if_neg (by omega), Int.toNat_natCast, Int.toNat_natCast]
  rfl
theorem getF_none {A : Dk} {i : Int} {f : ByteArray} {st : Int × List Int} {c : Cel} (hc : A.cel f i = some c) (h : openI c.read f i = none) : getF A i st f = st := by
  unfold getF
  rw [hc]
  dsimp only
  rw [h]
theorem cel_set_self {A : Dk} (hs : Sorted A.files) {f : ByteArray} {k : Nat} {c d : Cel} (hc : A.cel f k = some c) : (A.set f ((A.at f).set k d)).cel f k = some d := by
  unfold Dk.cel at hc ⊢
  rw [if_pos (by omega), Int.toNat_natCast] at hc ⊢
  rw [at_set hs, if_pos rfl, List.getElem?_set_self]
  exact (List.getElem?_eq_some_iff.1 hc).1
theorem cel_set_bytes {A : Dk} (hs : Sorted A.files) {f : ByteArray} {k : Nat} {d : Cel} (hd : Bytes d.read) (g : ByteArray) (hb : ∀ i c, A.cel g i = some c → Bytes c.read) : ∀ i c, (A.set f ((A.at f).set k d)).cel g i = some c → Bytes c.read := by
  intro i c hc
  unfold Dk.cel at hc
  split at hc
  · rename_i h0
    rw [at_set hs] at hc
    split at hc
    · rename_i hgf
      subst hgf
      rcases List.mem_or_eq_of_mem_set (List.mem_of_getElem? hc) with hm | rfl
      · obtain ⟨j, hj⟩ := List.getElem?_of_mem hm
        exact hb (j : Int) c (by unfold Dk.cel; rw [if_pos (by omega), Int.toNat_natCast]; exact hj)
      · exact hd
    · exact hb i c (by unfold Dk.cel; rw [if_pos h0]; exact hc)
  · cases hc
structure LostEnd (B : Dk) (x : ByteArray) (k : Nat) : Prop where
  got : (getP B x k).1 < 0
  load : ∀ gen, loadP B x gen = none
  bytes : ∀ f ∈ halvesL x, ∀ i c, B.cel f i = some c → Bytes c.read
/-- With one byte turned in both, the piece is lost. -/
theorem rot_lost {B : Dk} {x : ByteArray} {gen : Nat} {ps : List (List Int)} (h : Holds B x gen ps) (hs : Sorted B.files) (hne : x ++ dotA ≠ x ++ dotB) (hl : ∀ p ∈ ps, p.length ≤ 106) (hb : ∀ p ∈ ps, Bytes p) {k t : Nat} (hk : k < ps.length) (ht : t < 128) {m n : Int} (hm : 0 < m) (hm2 : m ≤ 255) (hn : 0 < n) (hn2 : n ≤ 255) :
    LostEnd ((B.rot (x ++ dotA) k t m).2.rot (x ++ dotB) k t n).2 x k := by
  have hp := List.getElem?_eq_getElem hk
  have lp := hl _ (List.getElem_mem hk)
  have bp := hb _ (List.getElem_mem hk)
  have hB := held_bytes h hl hb
  generalize ps[k] = p at hp lp bp
  have ca := held_cel h.a hp
  have cb := held_cel h.b hp
  have bIa := xorAt_bytes (extI_bytes (name := x ++ dotA) (index := k) (gen := gen) lp bp) (k := t) (m := m) (by omega) hm2
  have bIb := xorAt_bytes (extI_bytes (name := x ++ dotB) (index := k) (gen := gen) lp bp) (k := t) (m := n) (by omega) hn2
  rw [rot_at ca ht]
  dsimp only
  obtain ⟨da, hda⟩ : ∃ da : Cel, da = ⟨xorAt (extI (x ++ dotA) k gen p) t m, xorAt (extI (x ++ dotA) k gen p) t m, extI (x ++ dotA) k gen p, extI (x ++ dotA) k gen p, false⟩ := ⟨_, rfl⟩
  have hs1 : Sorted (B.set (x ++ dotA) ((B.at (x ++ dotA)).set k da)).files := sorted_put _ _ hs
  have cb1 : (B.set (x ++ dotA) ((B.at (x ++ dotA)).set k da)).cel (x ++ dotB) k = some (stl (extI (x ++ dotB) k gen p)) := by
    unfold Dk.cel at cb ⊢
    rw [at_set hs, if_neg hne]
    exact cb
  have ca1 : (B.set (x ++ dotA) ((B.at (x ++ dotA)).set k da)).cel (x ++ dotA) k = some da := cel_set_self hs ca
  have rd : da.read = xorAt (extI (x ++ dotA) k gen p) t m := by rw [hda]
  have hB1 : ∀ f ∈ halvesL x, ∀ i c, (B.set (x ++ dotA) ((B.at (x ++ dotA)).set k da)).cel f i = some c → Bytes c.read := fun f hf => cel_set_bytes hs (by rw [rd]; exact bIa) f (hB f hf)
  have la1 : ((B.set (x ++ dotA) ((B.at (x ++ dotA)).set k da)).at (x ++ dotA)).length = ps.length := by
    rw [at_set hs, if_pos rfl, List.length_set, h.a, List.length_map, newCels_length]
  rw [← hda]
  clear hda
  generalize B.set (x ++ dotA) ((B.at (x ++ dotA)).set k da) = B1 at *
  rw [rot_at cb1 ht]
  dsimp only
  obtain ⟨db, hdb⟩ : ∃ db : Cel, db = ⟨xorAt (extI (x ++ dotB) k gen p) t n, xorAt (extI (x ++ dotB) k gen p) t n, extI (x ++ dotB) k gen p, extI (x ++ dotB) k gen p, false⟩ := ⟨_, rfl⟩
  have rdb : db.read = xorAt (extI (x ++ dotB) k gen p) t n := by rw [hdb]
  rw [← hdb]
  clear hdb
  have cb2 : (B1.set (x ++ dotB) ((B1.at (x ++ dotB)).set k db)).cel (x ++ dotB) k = some db := cel_set_self hs1 cb1
  have ca2 : (B1.set (x ++ dotB) ((B1.at (x ++ dotB)).set k db)).cel (x ++ dotA) k = some da := by
    unfold Dk.cel at ca1 ⊢
    rw [at_set hs1, if_neg (Ne.symm hne)]
    exact ca1
  have hg : getP (B1.set (x ++ dotB) ((B1.at (x ++ dotB)).set k db)) x k = (-1, []) := by
    unfold getP halvesL
    simp only [List.foldl_cons, List.foldl_nil]
    rw [getF_none ca2 (by rw [rd]; exact openI_xorAt lp bp ht hm hm2), getF_none cb2 (by rw [rdb]; exact openI_xorAt lp bp ht hn hn2)]
  have he : k < extN (B1.set (x ++ dotB) ((B1.at (x ++ dotB)).set k db)) x := by
    unfold extN halvesL
    simp only [List.foldl_cons, List.foldl_nil]
    rw [at_set hs1, if_neg (Ne.symm hne), la1]
    omega
  refine ⟨by rw [hg]; decide, fun gen => loadP_lost he (by rw [hg]; decide), fun f hf => cel_set_bytes hs1 (by rw [rdb]; exact bIb) f (hB1 f hf)⟩
end Go.Proofs.YtanlgadijndmaaaDoor
/- What turning bytes of one file makes of a disk whose extents do not wait: plain. -/
namespace Go.Proofs.YtanlgadijndmaaaDoor
open Go.RowKit HP
set_option linter.unusedSimpArgs false
set_option linter.unusedVariables false

theorem putF_putF {α : Type} {l : List (ByteArray × α)} (hs : Sorted l) (s : ByteArray) (u v : α) : putF (putF l s u) s v = putF l s v := by
  refine sorted_ext (sorted_put _ _ (sorted_put _ _ hs)) (sorted_put _ _ hs) fun t => ?_
  rw [lk_put _ _ _ (sorted_put _ _ hs), lk_put _ _ _ hs, lk_put _ _ _ hs]
  split <;> rfl
theorem Dk.set_set {A : Dk} (hs : Sorted A.files) (s : ByteArray) (l m : List Cel) : (A.set s l).set s m = A.set s m := by
  unfold Dk.set
  rw [putF_putF hs]
/-- An extent that does not wait, turned. -/
structure TurnC (c c' : Cel) : Prop where
  synced : c'.synced = c.synced
  written : c'.written = c.written
  waits : c'.waits = false
  same : c'.read = c'.durable
  len : c'.read.length = c.read.length
  byt : Bytes c.read → Bytes c'.read
structure Still (c : Cel) : Prop where
  waits : c.waits = false
  same : c.read = c.durable
theorem TurnC.refl {c : Cel} (h : Still c) : TurnC c c := ⟨rfl, rfl, h.waits, h.same, rfl, fun h => h⟩
theorem TurnC.rotd {c c' : Cel} (h : TurnC c c') (a : Nat) {m : Int} (h0 : 0 ≤ m) (h1 : m ≤ 255) : TurnC c (c'.rotd a m) := by
  have e : c'.rotd a m = ⟨xorAt c'.read a m, xorAt c'.durable a m, c'.synced, c'.written, c'.waits⟩ := by
    unfold Cel.rotd
    rw [h.waits]
    rfl
  rw [e]
  refine ⟨h.synced, h.written, h.waits, by rw [h.same], by rw [xorAt_length, h.len], fun hb => ?_⟩
  exact xorAt_bytes (h.byt hb) h0 h1
theorem rotS_at {f : ByteArray} {A B : Dk} (hs : Sorted A.files) (hl : lk A.files f = some (A.at f)) (hst : ∀ c ∈ A.at f, Still c) (h : RotS f A B) :
    ∃ l' : List Cel, B = A.set f l' ∧ l'.length = (A.at f).length ∧ ∀ (k : Nat) (c c' : Cel), (A.at f)[k]? = some c → l'[k]? = some c' → TurnC c c' := by
  induction h with
  | refl =>
    refine ⟨A.at f, ?_, rfl, fun k c c' h1 h2 => ?_⟩
    · have this : A.set f (A.at f) = A := by
        have e : putF A.files f (A.at f) = A.files := by
          refine sorted_ext (sorted_put f (A.at f) hs) hs fun t => ?_
          rw [lk_put _ _ _ hs]
          by_cases e : f = t
          · rw [if_pos e, ← e, hl]
          · rw [if_neg e]
        unfold Dk.set
        rw [e]
      exact this.symm
    · rw [h1] at h2; cases h2
      exact .refl (hst c (List.mem_of_getElem? h1))
  | step i a m hr h0 h1 ih =>
    obtain ⟨l', hB, hlen, hT⟩ := ih
    subst hB
    have hat : (A.set f l').at f = l' := by rw [at_set hs, if_pos rfl]
    unfold Dk.rot
    cases hc : (A.set f l').cel f i with
    | none => exact ⟨l', rfl, hlen, hT⟩
    | some c =>
      dsimp only
      by_cases ha : a < 0 ∨ 128 ≤ a
      · rw [if_pos ha]; exact ⟨l', rfl, hlen, hT⟩
      · rw [if_neg ha, hat]
        unfold Dk.cel at hc
        rw [hat] at hc
        split at hc
        · refine ⟨l'.set i.toNat (c.rotd a.toNat m), Dk.set_set hs _ _ _, by rw [List.length_set, hlen], fun k x x' hx hx' => ?_⟩
          rw [List.getElem?_set] at hx'
          split at hx'
          · rename_i e
            subst e
            split at hx'
            · cases hx'
              exact (hT _ x c hx hc).rotd a.toNat h0 h1
            · cases hx'
          · exact hT k x x' hx hx'
        · cases hc
end Go.Proofs.YtanlgadijndmaaaDoor
/- The document's sum, bit by bit, in plain numbers: it is the same. -/
namespace Go.Proofs.YtanlgadijndmaaaDoor
open Go.RowKit HP
set_option linter.unusedSimpArgs false
set_option linter.unusedVariables false

/-- One bit's step. -/
def crc1 (r : Nat) : Nat := if r % 2 = 1 then r / 2 ^^^ 2197175160 else r / 2
def crcJ : Nat → Nat → Nat
  | 0, r => r
  | k + 1, r => crc1 (crcJ k r)
theorem crc1_lt {r : Nat} (h : r < 4294967296) : crc1 r < 4294967296 := by
  unfold crc1
  split
  · exact xor_lt32 (by omega) (by decide)
  · omega
theorem crcJ_lt {r : Nat} (h : r < 4294967296) : ∀ k, crcJ k r < 4294967296
  | 0 => h
  | k + 1 => crc1_lt (crcJ_lt h k)
theorem xor_half (a b : Nat) : (a ^^^ b) / 2 = a / 2 ^^^ b / 2 := by
  have := Nat.shiftRight_xor_distrib (a := a) (b := b) (i := 1)
  simpa [Nat.shiftRight_succ, Nat.shiftRight_zero] using this
theorem xor_par (a b : Nat) (hb : b % 2 = 0) : (a ^^^ b) % 2 = a % 2 := by
  have h := Nat.xor_mod_two_pow (a := a) (b := b) (n := 1)
  rw [Nat.pow_one, hb, Nat.xor_zero] at h
  exact h
theorem crcQ_two (r : Nat) : crcQ r = crc1 (crc1 r) := by
  have hP : (2197175160 : Nat) % 2 = 0 := by decide
  have hH : (2197175160 : Nat) / 2 = 1098587580 := by decide
  have h4 : r % 4 = 0 ∨ r % 4 = 1 ∨ r % 4 = 2 ∨ r % 4 = 3 := by omega
  unfold crcQ
  rcases h4 with h | h | h | h
  · have e1 : crc1 r = r / 2 := by unfold crc1; rw [if_neg (by omega)]
    have e2 : crc1 (r / 2) = r / 2 / 2 := by unfold crc1; rw [if_neg (by omega)]
    rw [h, e1, e2, Nat.div_div_eq_div_mul]
    show r / 4 ^^^ 0 = _
    rw [Nat.xor_zero]
  · have e1 : crc1 r = r / 2 ^^^ 2197175160 := by unfold crc1; rw [if_pos (by omega)]
    have e0 : (r / 2 ^^^ 2197175160) % 2 = 0 := by rw [xor_par _ _ hP]; omega
    have e2 : crc1 (r / 2 ^^^ 2197175160) = (r / 2 ^^^ 2197175160) / 2 := by unfold crc1; rw [if_neg (by omega)]
    rw [h, e1, e2, xor_half, hH, Nat.div_div_eq_div_mul]
    rfl
  · have e1 : crc1 r = r / 2 := by unfold crc1; rw [if_neg (by omega)]
    have e2 : crc1 (r / 2) = r / 2 / 2 ^^^ 2197175160 := by unfold crc1; rw [if_pos (by omega)]
    rw [h, e1, e2, Nat.div_div_eq_div_mul]
    rfl
  · have e1 : crc1 r = r / 2 ^^^ 2197175160 := by unfold crc1; rw [if_pos (by omega)]
    have e0 : (r / 2 ^^^ 2197175160) % 2 = 1 := by rw [xor_par _ _ hP]; omega
    have e2 : crc1 (r / 2 ^^^ 2197175160) = (r / 2 ^^^ 2197175160) / 2 ^^^ 2197175160 := by unfold crc1; rw [if_pos e0]
    rw [h, e1, e2, xor_half, hH, Nat.div_div_eq_div_mul, Nat.xor_assoc]
    rfl
theorem crcJ_I (r : Nat) : ∀ k, crcJ (2 * k) r = crcI k r
  | 0 => rfl
  | k + 1 => by
    show crc1 (crc1 (crcJ (2 * k) r)) = crcQ (crcI k r)
    rw [crcJ_I r k, crcQ_two]
theorem crcB_bits (r x : Nat) : crcB r x = crcJ 8 (r ^^^ x) := (crcJ_I (r ^^^ x) 4).symm
end Go.Proofs.YtanlgadijndmaaaDoor
/- dryrotref01.More, Sum: the same sum, bit by bit. -/
namespace Go.Proofs.YtanlgadijndmaaaDoor
open Go.RowKit HP
set_option linter.unusedSimpArgs false
set_option linter.unusedVariables false

theorem bit_mask {r : Nat} (h : r < 4294967296) : bits .and .u32 (r : Int) 1 = ((r % 2 : Nat) : Int) := by
  have := u32_and_nat r 1 h (by decide)
  rw [Nat.and_one_is_mod] at this
  exact this
set_option maxHeartbeats 1000000 in
set_option maxRecDepth 100000 in
theorem ref_more (A : Option Addr) (l : List Int) (n c : Nat) (s : Nat) (w : World) (hln : l.length = n) (hs : s < 4294967296) (hl : n ≤ maxLen) (hb : Bytes l) (hc : Cells w A (b8s l)) :
    Calls Tryd.prog 176 #[.int .u32 s, .slice A n c] w fun e w' => e = .returned (.int .u32 (crcMore s l)) ∧ w' = w := by
  have x1 : bits BinOp.xor IntKind.u32 IntKind.u32.max (s : Int) = ((4294967295 ^^^ s : Nat) : Int) := u32_xor_nat 4294967295 s (by decide) hs
  have HX : Aside (4294967295 ^^^ s < 4294967296) := ⟨xor_lt32 (by decide) hs⟩
  obtain ⟨y, hy⟩ : ∃ y, y = 4294967295 ^^^ s := ⟨_, rfl⟩
  have HF : Aside (crcMore s l = 4294967295 ^^^ crcL y l) := ⟨by rw [hy]; rfl⟩
  rw [← hy] at x1 HX
  clear hy
  have HLN := Aside.mk hln
  have hl' : (n : Int) ≤ 9223372036854775807 := by have := hl; unfold maxLen at this; omega
  clear hln
  go_enter Tryd.func176, Tryd.ntmps176
  go_wp2
  go_loopw [5, 13] (fun v5 v13 wr => ∃ k : Nat, k ≤ n ∧ v13 = .int .i64 k ∧ (∃ r : Nat, v5 = .int .u32 r ∧ Aside (r = crcL y (l.take k) ∧ r < 4294967296)) ∧ wr = w) (fun _ i _ => n - (intOf i).toNat)
  case atStart => exact ⟨0, Nat.zero_le _, rfl, ⟨y, rfl, ⟨rfl, HX.out⟩⟩, rfl⟩
  case round =>
    obtain ⟨k, hk, rfl, ⟨r, rfl, HR⟩, rfl⟩ := hrel
    by_cases hlt : k < n
    · have hltl : k < l.length := by rw [HLN.out]; exact hlt
      obtain ⟨a, rfl, hcx⟩ := hc.at_ k (by simpa [b8s] using hltl)
      have hxb := hb _ (List.getElem_mem hltl)
      have HN : Aside (l.take (k + 1) = l.take k ++ [l[k]]) := ⟨List.take_succ_eq_append_getElem hltl⟩
      simp only [b8s, List.getElem_map] at hcx
      obtain ⟨m, hm⟩ := Int.eq_ofNat_of_zero_le hxb.1
      rw [hm] at hcx hxb HN
      have hm8 : m < 256 := by omega
      have x2 : bits .xor .u32 (r : Int) (m : Int) = ((r ^^^ m : Nat) : Int) := u32_xor_nat r m HR.out.2 (by omega)
      have HZ : Aside (r ^^^ m < 4294967296 ∧ crcB r m = crcJ 8 (r ^^^ m)) := ⟨xor_lt32 HR.out.2 (by omega), crcB_bits r m⟩
      obtain ⟨z, hz⟩ : ∃ z, z = r ^^^ m := ⟨_, rfl⟩
      rw [← hz] at x2 HZ
      clear hz hm hxb hb
      obtain ⟨wo, rfl⟩ : ∃ wo : World, wo = wr := ⟨_, rfl⟩
      go_wp2
      go_loopw [5, 21] (fun v5 v21 w2 => ∃ j : Nat, j ≤ 8 ∧ v21 = .int .i64 j ∧ (∃ t : Nat, v5 = .int .u32 t ∧ Aside (t = crcJ j z ∧ t < 4294967296)) ∧ w2 = wo) (fun _ i _ => 8 - (intOf i).toNat)
      case atStart => exact ⟨0, Nat.zero_le _, rfl, ⟨z, rfl, ⟨rfl, HZ.out.1⟩⟩, rfl⟩
      case round =>
        obtain ⟨j, hj, rfl, ⟨t, rfl, HT⟩, rfl⟩ := hrel
        by_cases hj8 : j < 8
        · have hj8I : (j : Int) < 8 := by omega
          have x3 := bit_mask HT.out.2
          have HQ := Aside.mk (crc1_lt HT.out.2)
          have HJ : Aside (crcJ (j + 1) z = crc1 t) := ⟨by rw [HT.out.1]; rfl⟩
          obtain ⟨h, hh⟩ : ∃ h, h = t / 2 := ⟨_, rfl⟩
          have x4 : (t : Int) / 2 = (h : Int) := by omega
          have hh32 : h < 4294967296 := by have := HT.out.2; omega
          have x6 : bits .xor .u32 (h : Int) 2197175160 = ((h ^^^ 2197175160 : Nat) : Int) := u32_xor_nat h 2197175160 hh32 (by decide)
          by_cases ho : t % 2 = 1
          · have HO : Aside (crc1 t = h ^^^ 2197175160) := ⟨by unfold crc1; rw [if_pos ho, hh]⟩
            rw [ho] at x3
            have x5 : bits .and .u32 (t : Int) 1 = 1 := x3
            obtain ⟨t', ht'⟩ : ∃ t', t' = h ^^^ 2197175160 := ⟨_, rfl⟩
            rw [← ht'] at x6 HO
            clear ht' ho x3 hh
            go_wp2
            go_roundw
            case rel => exact ⟨j + 1, by omega, by go_num, ⟨t', rfl, ⟨by rw [HJ.out, HO.out], by rw [← HO.out]; exact HQ.out⟩⟩, trivial⟩
            case measure => simp only [intOf]; omega
          · have ho0 : t % 2 = 0 := by omega
            have HO : Aside (crc1 t = h) := ⟨by unfold crc1; rw [if_neg ho, hh]⟩
            rw [ho0] at x3
            have x5 : bits .and .u32 (t : Int) 1 = 0 := x3
            clear ho ho0 x3 hh
            go_wp2
            go_roundw
            case rel => exact ⟨j + 1, by omega, by go_num, ⟨h, rfl, ⟨by rw [HJ.out, HO.out], hh32⟩⟩, trivial⟩
            case measure => simp only [intOf]; omega
        · have hj8' : j = 8 := by omega
          subst hj8'
          go_wp2
          go_roundw
          case rel =>
            refine ⟨k + 1, by omega, by go_num, ⟨t, rfl, ⟨?_, HT.out.2⟩⟩, trivial⟩
            rw [HN.out, crcL_append, ← HR.out.1, HT.out.1, ← HZ.out.2]
            rfl
          case measure => simp only [intOf]; omega
    · have hk' : k = n := by omega
      have x7 : bits BinOp.xor IntKind.u32 IntKind.u32.max (r : Int) = ((4294967295 ^^^ r : Nat) : Int) := u32_xor_nat 4294967295 r (by decide) HR.out.2
      have HE : Aside (crcMore s l = 4294967295 ^^^ r) := ⟨by rw [HF.out, HR.out.1, hk', ← HLN.out, List.take_length]⟩
      clear hk'
      go_wp2
      go_ret
      rw [HE.out]
      exact ⟨rfl, rfl⟩
set_option maxHeartbeats 1000000 in
set_option maxRecDepth 100000 in
theorem ref_sum (A : Option Addr) (l : List Int) (n c : Nat) (w : World) (hln : l.length = n) (hl : n ≤ maxLen) (hb : Bytes l) (hc : Cells w A (b8s l)) :
    Calls Tryd.prog 153 #[.slice A n c] w fun e w' => e = .returned (.int .u32 (crcSum l)) ∧ w' = w := by
  have HS := Aside.mk (And.intro hln (And.intro hl (And.intro hb hc)))
  clear hln hl hb hc
  go_enter Tryd.func153, Tryd.ntmps153
  go_wp2_with fail
  refine (ref_more A l n c 0 _ HS.out.1 (by decide) HS.out.2.1 HS.out.2.2.1 HS.out.2.2.2).mono ?_
  rintro e w1 ⟨rfl, hw1⟩
  subst w1
  go_wp2
  go_ret
  exact ⟨rfl, rfl⟩
end Go.Proofs.YtanlgadijndmaaaDoor
/- dryrotref01.Put, Get; dryrotref10.Big, Int. -/
namespace Go.Proofs.YtanlgadijndmaaaDoor
open Go.RowKit HP
set_option linter.unusedSimpArgs false
set_option linter.unusedVariables false

set_option maxHeartbeats 1000000 in
set_option maxRecDepth 100000 in
theorem ref_put (E : Env) (q : HP) (n wd : Nat) (w : World) (hwd : wd ≤ 8) (hn : n < 18446744073709551616) (hw : Sat E w q) :
    Calls Tryd.prog 120 #[.int .u64 n, .int .i64 wd] w fun e w' => ∃ g, e = .returned (.slice (some ⟨g, 0, none⟩) wd wd) ∧ Sat E w' (HP.row 5 1 (.slice (some ⟨g, 0, none⟩) wd wd) wd (b8s (putI n wd)) * q) := by
  have hz : (if (0 : Int) > (wd : Int) then (0 : Int) else wd) = wd := by split <;> omega
  have hm : (if (8 : Int) < (wd : Int) then (8 : Int) else wd) = wd := by split <;> omega
  have HW := Aside.mk hw
  clear hw
  go_enter Tryd.func120, Tryd.ntmps120
  go_wp2_with (first
    | (refine wpList_make_row (n := wd) slB8 rfl rfl rfl rfl rfl HW.out (by unfold maxLen; omega) (by omega) (fun g w2 hw2 => ?_); have HW2 := Aside.mk hw2; clear hw2))
  go_loopw [0, 7] (fun v0 v7 wr => ∃ k : Nat, k ≤ wd ∧ (∃ i : Int, v7 = .int .i64 i ∧ i = (wd : Int) - 1 - k) ∧ (∃ m : Nat, v0 = .int .u64 m ∧ m < 18446744073709551616 ∧ Aside (m = n / 256 ^ k)) ∧ Aside (Sat E wr (HP.row 5 1 (.slice (some ⟨g, 0, none⟩) wd wd) wd (b8s (List.replicate (wd - k) 0 ++ (putI n wd).drop (wd - k))) * q))) (fun _ i _ => (intOf i + 1).toNat)
  case atStart => exact ⟨0, Nat.zero_le _, ⟨_, rfl, by omega⟩, ⟨n, rfl, hn, ⟨by simp⟩⟩, ⟨HW2.out.perm (by rw [Nat.sub_zero, List.drop_of_length_le (by rw [putI_length]; exact Nat.le_refl _), List.append_nil]; unfold b8s; rw [List.map_replicate])⟩⟩
  case round =>
    obtain ⟨k, hk, ⟨i, rfl, hi⟩, ⟨m, rfl, hm64, HM⟩, HS⟩ := hrel
    by_cases hlt : k < wd
    · obtain ⟨t, ht⟩ : ∃ t : Nat, i = (t : Int) := ⟨wd - 1 - k, by omega⟩
      subst ht
      have ht2 : t = wd - 1 - k := by omega
      have htl : t < (b8s (List.replicate (wd - k) 0 ++ (putI n wd).drop (wd - k))).length := by rw [b8s_length, List.length_append, List.length_replicate, List.length_drop, putI_length]; omega
      have f1 := HS.out.row_thaw t htl
      rw [Nat.zero_add] at f1
      have c1 := HS.out.row_cell t _ (List.getElem?_eq_getElem htl)
      rw [Nat.zero_add] at c1
      generalize (b8s (List.replicate (wd - k) 0 ++ (putI n wd).drop (wd - k)))[t] = old at c1
      have hr2 : (m : Int) % 256 = putD n k := by unfold putD; rw [← HM.out]; omega
      have hr1 : (m : Int).tmod 256 = putD n k := by rw [Int.tmod_eq_emod_of_nonneg (by omega)]; exact hr2
      have hpd := putD_byte n k
      obtain ⟨m2, hm2⟩ : ∃ m2 : Nat, m2 = m / 256 := ⟨_, rfl⟩
      have hd2 : (m : Int) / 256 = (m2 : Int) := by omega
      have hd1 : (m : Int).tdiv 256 = (m2 : Int) := by rw [Int.tdiv_eq_ediv_of_nonneg (by omega)]; exact hd2
      have HM2 : Aside (m2 = n / 256 ^ (k + 1)) := ⟨by rw [hm2, HM.out, Nat.div_div_eq_div_mul, Nat.pow_succ]⟩
      have hm264 : m2 < 18446744073709551616 := by omega
      have h1 := HS.out.row_set t htl (.int .u8 (putD n k))
      rw [ht2, put_set n wd k hlt, ← ht2, Nat.zero_add] at h1
      have H1 := Aside.mk h1
      have HI : Aside ((t : Int) - 1 = (wd : Int) - 1 - ((k + 1 : Nat) : Int)) := ⟨by push_cast; omega⟩
      have ht3 : (t : Int) < wd := by omega
      have ht4 : (0 : Int) ≤ t := by omega
      clear h1 htl ht2 hi
      generalize putD n k = pd at *
      clear hm2
      go_wp2
      exact ⟨⟨k + 1, by omega, ⟨_, rfl, HI.out⟩, ⟨m2, rfl, hm264, HM2⟩, ⟨H1.out⟩⟩, by simp only [intOf]; omega⟩
    · have hk' : k = wd := by omega
      subst hk'
      have H1 : Aside (Sat E wr (HP.row 5 1 (.slice (some ⟨g, 0, none⟩) k k) k (b8s (putI n k)) * q)) := ⟨by have := HS.out; rw [Nat.sub_self] at this; exact this⟩
      have hi2 : i = -1 := by omega
      subst hi2
      go_wp2
      go_ret
      exact ⟨g, rfl, H1.out⟩
set_option maxHeartbeats 1000000 in
set_option maxRecDepth 100000 in
theorem ref_get (A : Option Addr) (l : List Int) (n c : Nat) (w : World) (hln : l.length = n) (h0 : 0 < n) (h8 : n ≤ 8) (hb : Bytes l) (hc : Cells w A (b8s l)) :
    Calls Tryd.prog 123 #[.slice A n c] w fun e w' => e = .returned (.tuple #[.int .u64 (getN l), .bool true]) ∧ w' = w := by
  have HL := Aside.mk hln
  clear hln
  have h0' : ¬ (n : Int) < 1 := by omega
  have h8' : ¬ (8 : Int) < (n : Int) := by omega
  go_enter Tryd.func123, Tryd.ntmps123
  go_wp2
  go_loopw [4, 17] (fun v4 v17 wr => ∃ k : Nat, k ≤ n ∧ v17 = .int .i64 k ∧ (∃ r : Nat, v4 = .int .u64 r ∧ Aside (r = getN (l.take k) ∧ r < 256 ^ k)) ∧ wr = w) (fun _ i _ => n - (intOf i).toNat)
  case atStart => exact ⟨0, Nat.zero_le _, rfl, ⟨0, rfl, ⟨rfl, by decide⟩⟩, rfl⟩
  case round =>
    obtain ⟨k, hk, rfl, ⟨r, rfl, HR⟩, rfl⟩ := hrel
    by_cases hlt : k < n
    · have hltl : k < l.length := by rw [HL.out]; exact hlt
      have hlt2 : (k : Int) < n := by omega
      obtain ⟨a, rfl, hcx⟩ := hc.at_ k (by simpa [b8s] using hltl)
      have hxb := hb _ (List.getElem_mem hltl)
      have HN : Aside (l.take (k + 1) = l.take k ++ [l[k]]) := ⟨List.take_succ_eq_append_getElem hltl⟩
      simp only [b8s, List.getElem_map] at hcx
      obtain ⟨m, hm⟩ := Int.eq_ofNat_of_zero_le hxb.1
      rw [hm] at hcx hxb HN
      have hm8 : m < 256 := by omega
      have hr7 : r < 72057594037927936 := Nat.lt_of_lt_of_le HR.out.2 (Nat.le_trans (Nat.pow_le_pow_right (by decide) (show k ≤ 7 by omega)) (by decide))
      have HZ : Aside (r * 256 + m = getN (l.take (k + 1)) ∧ r * 256 + m < 256 ^ (k + 1)) := ⟨by
        rw [HN.out, getN_append_one, ← HR.out.1, Int.toNat_natCast, Nat.pow_succ]
        have := HR.out.2
        omega⟩
      obtain ⟨y, hy⟩ : ∃ y : Nat, y = r * 256 := ⟨_, rfl⟩
      obtain ⟨z, hz⟩ : ∃ z : Nat, z = y + m := ⟨_, rfl⟩
      rw [← hy, ← hz] at HZ
      have x1 : (r : Int) * 256 = (y : Int) := by omega
      have x3 : (y : Int) + (m : Int) = (z : Int) := by omega
      have w1 : IntKind.u64.wrap (y : Int) = (y : Int) := by rw [IntKind.wrap_u64]; omega
      have w2 : IntKind.u64.wrap (z : Int) = (z : Int) := by rw [IntKind.wrap_u64]; omega
      clear hm hxb hltl hy hz HN hr7
      go_wp2
      exact ⟨⟨k + 1, by omega, by push_cast; rfl, ⟨z, rfl, HZ⟩, trivial⟩, by simp only [intOf]; omega⟩
    · have hk' : k = n := by omega
      subst hk'
      have HE : Aside (getN l = r) := ⟨by rw [HR.out.1, ← HL.out, List.take_length]⟩
      go_wp2
      go_ret2
      rw [HE.out]
      exact ⟨rfl, rfl⟩
end Go.Proofs.YtanlgadijndmaaaDoor
/- dryrotref04.Frame: an extent's bytes. -/
namespace Go.Proofs.YtanlgadijndmaaaDoor
open Go.RowKit HP
set_option linter.unusedSimpArgs false
set_option linter.unusedVariables false

theorem wpList_value_run {P : Program} {ops : Array Oper} {rest : List Oper} {o : Oper} {a : Act} {w w' : World} {Q : Exit → Act → World → Prop} {v : Value} (hg : o.guard = none) (hr : (execOp a.eval o).run P w = .ok (.value v) w') (hk : wpList P ops Q rest (a.put o.dst v) w') : wpList P ops Q (o :: rest) a w := by
  refine wpList_plain hg fun K hK => ?_
  exact wp_value_run hr (hK _ _ hk)
theorem Sat.row_new {E : Env} {w : World} {q : HP} {e : TypeId} (h : Sat E w q) (cs : List Value) (hn : cs.length ≤ maxLen) : Sat E (w.alloc (.cells cs.toArray e)) (HP.row e 1 (.slice (some ⟨w.heap.size, 0, none⟩) cs.length cs.length) cs.length cs * q) := by
  have h1 := h.alloc (.cells cs.toArray e)
  have h2 := Sat.row_mk (n := cs.length) (cap := cs.length) (off := 0) (size := 1) (cs := cs) h1 (Nat.le_refl _) hn (by simp) (by simp)
  simpa using h2
def sliceLen : Value → Nat
  | .slice _ n _ => n
  | _ => 0
set_option maxHeartbeats 4000000 in
set_option maxRecDepth 100000 in
theorem ref_frame (E : Env) (q : HP) (name : ByteArray) (index gen : Nat) (A : Option Addr) (p : List Int) (n c : Nat) (w : World) (hname : name.size ≤ maxLen) (hi : (index : Int) ≤ 2147483647) (hg : (gen : Int) ≤ 4611686018427387904) (hpn : p.length = n) (hn : n ≤ 106) (hp : Bytes p)
    (hq : ∀ w, Sat E w q → Cells w A (b8s p)) (hw : Sat E w q) :
    Calls Tryd.prog 124 #[.string name, .int .i64 index, .int .i64 gen, .slice A n c] w fun e w' => ∃ v, e = .returned (.tuple #[v, .int .i64 0]) ∧ Sat E w' (HP.row 5 1 v 128 (b8s (extI name index gen p)) * q) := by
  have HQ := Aside.mk (And.intro hq (And.intro hp hpn))
  have HNM := Aside.mk hname
  have hn' : (n : Int) ≤ 106 := by omega
  have hi0 : (0 : Int) ≤ (index : Int) := by omega
  have hg0 : (0 : Int) ≤ (gen : Int) := by omega
  have u1 : IntKind.u64.wrap (index : Int) = (index : Int) := by rw [IntKind.wrap_u64]; omega
  have u2 : IntKind.u64.wrap (gen : Int) = (gen : Int) := by rw [IntKind.wrap_u64]; omega
  have u3 : IntKind.u8.wrap (n : Int) = (n : Int) := by rw [IntKind.wrap_u8]; omega
  have h1 : Sat E (w.alloc (.cells #[.int .u8 229] 5)) (HP.row 5 1 (.slice (some ⟨w.heap.size, 0, none⟩) 1 1) 1 (b8s [229]) * q) := hw.row_new (b8s [229]) (by unfold maxLen; show 1 ≤ _; omega)
  obtain ⟨gs, cs, w2, hr2, h2, c2⟩ := run_str_bytes (dst := 52) Tryd.underlying9 Tryd.underlying52 Tryd.underlying5 name h1
  have H2 := Aside.mk (And.intro h2 c2)
  clear hq hw hp hpn h1 h2 c2 hname
  go_enter Tryd.func124, Tryd.ntmps124
  go_wp2_with (first | (refine wpList_value_run rfl (exec_convert rfl rfl hr2) ?_))
  clear hr2
  refine (ref_sum _ (strB name) name.size cs w2 (strB_length _) HNM.out (strB_bytes _) H2.out.2).mono ?_
  rintro e w3 ⟨rfl, hw3⟩
  subst w3
  obtain ⟨S, hS⟩ : ∃ S, S = crcSum (strB name) := ⟨_, rfl⟩
  have hS4 : S < 4294967296 := by rw [hS]; exact crcSum_lt (strB_bytes _)
  rw [← hS]
  have HSS := Aside.mk hS
  clear hS
  have u4 : IntKind.u64.wrap (S : Int) = (S : Int) := by rw [IntKind.wrap_u64]; omega
  go_wp2_with fail
  refine (ref_put E _ S 4 w2 (by omega) (by omega) H2.out.1).mono ?_
  rintro e w4 ⟨g4, rfl, h4⟩
  have H4 := Aside.mk (And.intro h4.s2 h4.row_cells)
  clear h4 H2 u4
  go_wp2_with (at_builtin; refine wpList_append_row slB8 rfl rfl (by rfl) (by rfl) H4.out.1 H4.out.2 (by rw [b8s_length, putI_length]) (b8s_one _) (by unfold maxLen; omega) (by omega) (fun v5 w5 h5 => ?_); rw [← b8s_append] at h5; obtain ⟨A5, c5, rfl, -, -⟩ := h5.row_slice; have H5 := Aside.mk h5.drop2; clear h5)
  refine (ref_put E _ index 4 _ (by omega) (by omega) H5.out).mono ?_
  rintro e w6 ⟨g6, rfl, h6⟩
  have H6 := Aside.mk (And.intro h6.s2 h6.row_cells)
  clear h6 H5 H4
  go_wp2_with (at_builtin; refine wpList_append_row slB8 rfl rfl (by rfl) (by rfl) H6.out.1 H6.out.2 (by rw [b8s_length, putI_length]) (b8s_one _) (by unfold maxLen; omega) (by omega) (fun v7 w7 h7 => ?_); rw [← b8s_append] at h7; obtain ⟨A7, c7, rfl, -, -⟩ := h7.row_slice; have H7 := Aside.mk h7.drop2; clear h7)
  refine (ref_put E _ gen 8 _ (by omega) (by omega) H7.out).mono ?_
  rintro e w8 ⟨g8, rfl, h8⟩
  have H8 := Aside.mk (And.intro h8.s2 h8.row_cells)
  clear h8 H7 H6
  have HCP : Aside (∀ w r, Sat E w (r * q) → Cells w A (b8s p)) := ⟨fun w r h => HQ.out.1 w h.right⟩
  go_wp2_with (at_builtin; first
    | (refine wpList_append_row slB8 rfl rfl (by rfl) (by rfl) H8.out.1 H8.out.2 (by rw [b8s_length, putI_length]) (b8s_one _) (by unfold maxLen; omega) (by omega) (fun v9 w9 h9 => ?_); rw [← b8s_append] at h9; obtain ⟨A9, c9, rfl, -, -⟩ := h9.row_slice; have H9 := Aside.mk h9.drop2; clear h9)
    | (refine wpList_append_new (news := b8s [(n : Int)]) slB8 rfl rfl (by rfl) (by rfl) H9.out (by rfl) (by rfl) (by unfold maxLen; omega) (by omega) (fun v10 w10 h10 => ?_); rw [← b8s_append] at h10; obtain ⟨A10, c10, rfl, -, -⟩ := h10.row_slice; have H10 := Aside.mk h10; clear h10)
    | (refine wpList_append_row slB8 rfl rfl (by rfl) (by rfl) H10.out (HCP.out _ _ H10.out) (by rw [b8s_length, HQ.out.2.2]; omega) (b8s_one _) (by unfold maxLen; omega) (by omega) (fun v11 w11 h11 => ?_); rw [← b8s_append] at h11; obtain ⟨A11, c11, rfl, -, -⟩ := h11.row_slice; have H11 := Aside.mk h11; clear h11))
  obtain ⟨hd, hhd⟩ : ∃ hd, hd = [229] ++ putI S 4 ++ putI index 4 ++ putI gen 8 ++ [(n : Int)] ++ p := ⟨_, rfl⟩
  rw [← hhd] at H11
  have HHD := Aside.mk hhd
  have H12 : Aside (Sat E w11 (HP.row 5 1 (.slice A11 (18 + n) c11) (18 + n) (b8s (hd ++ List.replicate 0 0)) * q)) := ⟨by rw [List.replicate_zero, List.append_nil]; exact H11.out⟩
  clear H11 H10 H9 H8 hhd
  go_loopw [10] (fun v10 wr => ∃ (m k : Nat) (A10 : Option Addr) (c10 : Nat), v10 = .slice A10 m c10 ∧ m = 18 + n + k ∧ m ≤ 124 ∧ Aside (Sat E wr (HP.row 5 1 (.slice A10 m c10) m (b8s (hd ++ List.replicate k 0)) * q))) (fun v _ => 124 - sliceLen v)
  case atStart => exact ⟨18 + n, 0, A11, c11, rfl, rfl, by omega, H12⟩
  case round =>
    clear H12
    obtain ⟨m, k, A10, c10, rfl, hm, hm2, HS⟩ := hrel
    by_cases hlt : m < 124
    · have hlt2 : (m : Int) < 124 := by omega
      have HE : Aside (hd ++ List.replicate k 0 ++ [0] = hd ++ List.replicate (k + 1) (0 : Int)) := ⟨by rw [List.append_assoc, List.replicate_succ']⟩
      have HM := Aside.mk hm
      clear hm
      go_wp2_with (at_builtin; refine wpList_append_new (news := b8s [0]) slB8 rfl rfl (by rfl) (by rfl) HS.out (by rfl) (by rfl) (by unfold maxLen; omega) (by omega) (fun v5 w5 h5 => ?_); rw [← b8s_append, HE.out] at h5; obtain ⟨A5, c5, rfl, -, -⟩ := h5.row_slice; have H5 := Aside.mk h5; clear h5)
      go_roundw
      case rel => exact ⟨m + 1, k + 1, A5, c5, rfl, by have := HM.out; omega, by omega, H5⟩
      case measure => simp only [sliceLen]; omega
    · have hm124 : m = 124 := by omega
      subst hm124
      have hk : k = 106 - p.length := by rw [HQ.out.2.2]; omega
      have HX : Aside (hd ++ List.replicate k 0 = extH name index gen p) := ⟨by rw [HHD.out, hk, HSS.out]; unfold extH; rw [HQ.out.2.2]⟩
      have h0 := HS.out
      rw [HX.out] at h0
      have H0 := Aside.mk h0
      obtain ⟨X, hX⟩ : ∃ X, X = extH name index gen p := ⟨_, rfl⟩
      have hXl : X.length = 124 := by rw [hX]; exact extH_length (by rw [HQ.out.2.2]; exact hn)
      have hXb : Bytes X := by rw [hX]; exact extH_bytes (by rw [HQ.out.2.2]; exact hn) HQ.out.2.1
      have HI : Aside (extI name index gen p = X ++ putI (crcSum X) 4) := ⟨by unfold extI; rw [← hX]⟩
      rw [← hX] at H0
      have HXP := Aside.mk (And.intro hXl hXb)
      clear hm hk h0 hX hXl hXb HS HX
      go_wp2_with fail
      refine (ref_sum _ X 124 _ _ HXP.out.1 (by unfold maxLen; omega) HXP.out.2 H0.out.row_cells).mono ?_
      rintro e w3 ⟨rfl, hw3⟩
      subst w3
      obtain ⟨T, hT⟩ : ∃ T, T = crcSum X := ⟨_, rfl⟩
      have hT4 : T < 4294967296 := by rw [hT]; exact crcSum_lt HXP.out.2
      rw [← hT] at HI ⊢
      clear hT
      have u4 : IntKind.u64.wrap (T : Int) = (T : Int) := by rw [IntKind.wrap_u64]; omega
      go_wp2_with fail
      refine (ref_put E _ T 4 _ (by omega) (by omega) H0.out).mono ?_
      rintro e w4 ⟨g4, rfl, h4⟩
      have H4 := Aside.mk (And.intro h4.s2 h4.row_cells)
      clear h4 H0 u4
      go_wp2_with (at_builtin; refine wpList_append_row slB8 rfl rfl (by rfl) (by rfl) H4.out.1 H4.out.2 (by rw [b8s_length, putI_length]) (b8s_one _) (by unfold maxLen; omega) (by omega) (fun v5 w5 h5 => ?_); rw [← b8s_append] at h5; obtain ⟨A5, c5, rfl, -, -⟩ := h5.row_slice; have H5 := Aside.mk h5.drop2; clear h5)
      go_ret2
      rw [HI.out]
      exact ⟨_, rfl, H5.out⟩
set_option maxHeartbeats 2000000 in
set_option maxRecDepth 100000 in
theorem ref_frame_bad (name : ByteArray) (index gen : Int) (A : Option Addr) (n c : Nat) (w : World) (h : ¬ FrameOk index gen n) :
    Calls Tryd.prog 124 #[.string name, .int .i64 index, .int .i64 gen, .slice A n c] w fun e w' => e = .returned (.tuple #[.slice none 0 0, .int .i64 1]) ∧ w' = w := by
  have hb : index < 0 ∨ 2147483647 < index ∨ gen < 0 ∨ 4611686018427387904 < gen ∨ 106 < (n : Int) := by unfold FrameOk at h; omega
  clear h
  have key : ((((index < 0 ∨ 2147483647 < index) ∨ gen < 0) ∨ 4611686018427387904 < gen) ∨ 106 < (n : Int)) := by omega
  go_enter Tryd.func124, Tryd.ntmps124
  go_wp2
  all_goals (go_ret2; exact ⟨rfl, rfl⟩)
end Go.Proofs.YtanlgadijndmaaaDoor
/- dryrotref04.Open: what an extent holds. -/
namespace Go.Proofs.YtanlgadijndmaaaDoor
open Go.RowKit HP
set_option linter.unusedSimpArgs false
set_option linter.unusedVariables false

theorem run_string_m {P : Program} {w : World} {src dst e : TypeId} {A : Option Addr} {l : List Int} {n c : Nat} (hn : l.length = n) (hs : P.underlying src = some (.slice e)) (he : P.underlying e = some (.int .u8)) (hd : P.underlying dst = some .string)
    (h : Cells w A (b8s l)) : (convert src dst (.slice A n c)).run P w = .ok (.string (strOf l)) w := by
  subst hn
  exact run_string hs he hd h
theorem strOf_eqb {a b : List Int} (ha : Bytes a) (hb : Bytes b) : ((strOf a).toList == (strOf b).toList) = decide (a = b) := by
  by_cases h : a = b
  · subst h; simp
  · have : ¬ (strOf a).toList = (strOf b).toList := fun h2 => h (strOf_inj ha hb (toList_inj h2))
    simp [h, this]
theorem openI_gen_none {b : List Int} {name : ByteArray} {index : Int} (h : 4611686018427387904 < getN ((b.drop 9).take 8)) : openI b name index = none := by
  unfold openI
  by_cases h1 : b.length ≠ 128 ∨ 106 < b.getD 17 0 ∨ index < 0 ∨ 2147483647 < index
  · rw [if_pos h1]
  · rw [if_neg h1, if_pos h]
set_option maxHeartbeats 4000000 in
set_option maxRecDepth 100000 in
theorem ref_open (E : Env) (q : HP) (name : ByteArray) (index : Int) (A : Option Addr) (b : List Int) (n c : Nat) (w : World) (hname : name.size ≤ maxLen) (hbn : b.length = n) (hnc : n ≤ c) (hb : Bytes b)
    (hq : ∀ w, Sat E w q → Cells w A (b8s b)) (hw : Sat E w q) :
    Calls Tryd.prog 78 #[.slice A n c, .string name, .int .i64 index] w fun e w' =>
      (openI b name index = none ∧ e = .returned (.tuple #[.slice none 0 0, .int .i64 0, .int .i64 40]) ∧ Sat E w' q) ∨
      (∃ p gen v, openI b name index = some (p, gen) ∧ e = .returned (.tuple #[v, .int .i64 gen, .int .i64 0]) ∧ Sat E w' (HP.row 5 1 v p.length (b8s p) * q)) := by
  by_cases hlen : n = 128
  · subst hlen
    have hcw := hq w hw
    obtain ⟨a, rfl, -⟩ := hcw.at_ 0 (by rw [b8s_length, hbn]; decide)
    obtain ⟨g, o, rfl⟩ := slice_addr hcw rfl (k := 0) (by rw [b8s_length, hbn]; decide)
    have g17 : b[17]? = some (b.getD 17 0) := by
      have : 17 < b.length := by omega
      simp [List.getD, this]
    have c17 : w.cell? ⟨g, o + 17, none⟩ = some (.int .u8 (b.getD 17 0)) := by
      have := hcw.some_ 17 (.int .u8 (b.getD 17 0)) (by unfold b8s; rw [List.getElem?_map, g17]; rfl)
      rw [addr_add] at this
      exact this
    have hx := hb _ (List.mem_of_getElem? g17)
    have HO : Aside (openI b name index = if b.length ≠ 128 ∨ 106 < b.getD 17 0 ∨ index < 0 ∨ 2147483647 < index then none else
        if 4611686018427387904 < getN ((b.drop 9).take 8) then none else
        if extI name index.toNat (getN ((b.drop 9).take 8)) ((b.drop 18).take (b.getD 17 0).toNat) ≠ b then none else
        some ((b.drop 18).take (b.getD 17 0).toNat, getN ((b.drop 9).take 8))) := ⟨rfl⟩
    obtain ⟨x, hxe⟩ : ∃ x : Nat, b.getD 17 0 = (x : Int) := ⟨(b.getD 17 0).toNat, by omega⟩
    rw [hxe] at c17 hx HO
    clear g17 hxe
    by_cases hbad : 106 < (x : Int)
    · have HN : Aside (openI b name index = none ∧ Sat E w q) := ⟨by rw [HO.out, if_pos (.inr (.inl hbad))], hw⟩
      clear HO hw hq hcw hbn
      go_enter Tryd.func78, Tryd.ntmps78
      go_wp2
      all_goals (go_ret3; exact .inl ⟨HN.out.1, rfl, HN.out.2⟩)
    · have hx1 : ¬ 106 < (x : Int) := hbad
      have HQ := Aside.mk (And.intro hq (And.intro hw (And.intro hb hbn)))
      have HNM := Aside.mk hname
      have cg : Cells w (some ⟨g, o + 9, none⟩) (b8s ((b.drop 9).take 8)) := by
        have := (hcw.drop 9).take 8
        rw [addr_add] at this
        unfold b8s at this ⊢
        rw [List.map_take, List.map_drop]
        exact this
      have CG := Aside.mk cg
      have HGN : Aside (∀ G, G = getN ((b.drop 9).take 8) → 4611686018427387904 < G → openI b name index = none) := ⟨fun G hG h => openI_gen_none (by rw [← hG]; exact h)⟩
      clear hbad hq hw hcw hbn cg hb hname
      go_enter Tryd.func78, Tryd.ntmps78
      go_wp2_with fail
      refine (ref_get (some ⟨g, o + 9, none⟩) ((b.drop 9).take 8) 8 (c - 9) w (by rw [List.length_take, List.length_drop, HQ.out.2.2.2]; rfl) (by decide) (by decide) (fun y hy => HQ.out.2.2.1 y (List.mem_of_mem_drop (List.mem_of_mem_take hy))) CG.out).mono ?_
      rintro e w1 ⟨rfl, hw1⟩
      subst w1
      obtain ⟨G, hGe⟩ : ∃ G, G = getN ((b.drop 9).take 8) := ⟨_, rfl⟩
      have HGN2 := Aside.mk (HGN.out G hGe)
      rw [← hGe] at HO ⊢
      clear CG HGN hGe
      by_cases hG : 4611686018427387904 < (G : Int)
      · have HN : Aside (openI b name index = none ∧ Sat E w q) := ⟨HGN2.out (by omega), HQ.out.2.1⟩
        clear HO
        go_wp2
        go_ret3
        exact .inl ⟨HN.out.1, rfl, HN.out.2⟩
      · have c17a : (w.alloc (.cells #[] 5)).cell? ⟨g, o + 17, none⟩ = some (.int .u8 (x : Int)) := by
          rw [World.cell?_of_block (w := w) (heap_alloc_old w _ (World.block_lt_of_cell? w _ c17))]; exact c17
        have hpl : ((b.drop 18).take x).length = x := by rw [List.length_take, List.length_drop, HQ.out.2.2.2]; omega
        have cp : Cells w (some ⟨g, o + 18, none⟩) (b8s ((b.drop 18).take x)) := by
          have := ((HQ.out.1 _ HQ.out.2.1).drop 18).take x
          rw [addr_add] at this
          unfold b8s at this ⊢
          rw [List.map_take, List.map_drop]
          exact this
        have hpb : Bytes ((b.drop 18).take x) := fun y hy => HQ.out.2.2.1 y (List.mem_of_mem_drop (List.mem_of_mem_take hy))
        rw [Int.toNat_natCast] at HO
        obtain ⟨p, hp⟩ : ∃ p, p = (b.drop 18).take x := ⟨_, rfl⟩
        rw [← hp] at HO hpl cp hpb
        have HP1 := Aside.mk (And.intro hpl (And.intro cp (And.intro hpb (show (b8s p).length = (18 + x - 18) * 1 by rw [b8s_length, hpl, Nat.mul_one]; omega))))
        clear hpl cp hpb hp
        go_wp2_with (at_builtin; go_loud (refine wpList_append_row slB8 rfl rfl (by rfl) (by rfl) (((HQ.out.2.1.alloc _).right).row_nil _ _ _) (HP1.out.2.1.alloc _) HP1.out.2.2.2 (b8s_one _) (by unfold maxLen; omega) (by omega) (fun v4 w4 hw4 => ?_); have HW4 := Aside.mk hw4; clear hw4))
        have hw4 : Sat E w4 (HP.row 5 1 v4 x (b8s p) * q) := by
          have := HW4.out
          rw [Nat.zero_add, List.nil_append, Nat.add_sub_cancel_left] at this
          exact this
        obtain ⟨A4, c4, rfl, -, -⟩ := hw4.row_slice
        have HW := Aside.mk hw4
        clear HW4 hw4 c17 c17a
        have hx106 : x ≤ 106 := by omega
        by_cases hbad : index < 0 ∨ 2147483647 < index
        · have HN : Aside (openI b name index = none) := ⟨by rw [HO.out, if_pos (.inr (.inr hbad))]⟩
          refine (ref_frame_bad name index G (A4) x c4 w4 (by unfold FrameOk; omega)).mono ?_
          rintro e w5 ⟨rfl, hw5⟩
          subst w5
          clear HO hbad
          go_wp2
          go_ret3
          exact .inl ⟨HN.out, rfl, HW.out.right⟩
        · obtain ⟨ix, rfl⟩ := Int.eq_ofNat_of_zero_le (show 0 ≤ index by omega)
          rw [if_neg (by rw [HQ.out.2.2.2]; intro h; rcases h with h | h | h; exact h rfl; omega; exact hbad h), if_neg (by omega), Int.toNat_natCast] at HO
          refine (ref_frame E _ name ix G A4 p x c4 w4 HNM.out (by omega) (by omega) HP1.out.1 hx106 HP1.out.2.2.1 (fun w h => h.row_cells) HW.out).mono ?_
          rintro e w5 ⟨v, rfl, h5⟩
          obtain ⟨A5, c5, rfl, -, -⟩ := h5.row_slice
          have hIl : (extI name ix G p).length = 128 := extI_length (by rw [HP1.out.1]; exact hx106)
          have hIb : Bytes (extI name ix G p) := extI_bytes (by rw [HP1.out.1]; exact hx106) HP1.out.2.2.1
          obtain ⟨I, hIe⟩ : ∃ I, I = extI name ix G p := ⟨_, rfl⟩
          rw [← hIe] at HO hIl hIb h5
          have e0 := run_string_m (P := Tryd.prog) (c := c5) hIl Tryd.underlying52 Tryd.underlying5 Tryd.underlying9 h5.row_cells
          have e1 := run_string_m (P := Tryd.prog) (c := c) HQ.out.2.2.2 Tryd.underlying52 Tryd.underlying5 Tryd.underlying9 (HQ.out.1 _ h5.right.right)
          have e2 := strOf_eqb hIb HQ.out.2.2.1
          have H5 : Aside (Sat E w5 (HP.row 5 1 (.slice A4 x c4) p.length (b8s p) * q)) := ⟨by rw [HP1.out.1]; exact h5.right⟩
          clear h5 hIe hIl hIb HW hbad
          by_cases hb : I = b
          · rw [decide_eq_true hb] at e2
            have HE : Aside (openI b name ix = some (p, G)) := ⟨by rw [HO.out, if_neg (by simpa using hb)]⟩
            clear HO hb
            generalize strOf I = s0 at *
            generalize strOf b = s1 at *
            go_wp2
            go_ret3
            exact .inr ⟨p, G, _, HE.out, rfl, H5.out⟩
          · rw [decide_eq_false hb] at e2
            have HE : Aside (openI b name ix = none) := ⟨by rw [HO.out, if_pos hb]⟩
            clear HO hb
            generalize strOf I = s0 at *
            generalize strOf b = s1 at *
            go_wp2
            go_ret3
            exact .inl ⟨HE.out, rfl, H5.out.right⟩
  · have HN : Aside (openI b name index = none ∧ Sat E w q) := ⟨by unfold openI; rw [if_pos (.inl (by rw [hbn]; exact hlen))], hw⟩
    have h2 : ¬ (n : Int) = 128 := by omega
    clear hw hq hbn hb
    go_enter Tryd.func78, Tryd.ntmps78
    go_wp2
    go_ret3
    exact .inl ⟨HN.out.1, rfl, HN.out.2⟩
end Go.Proofs.YtanlgadijndmaaaDoor
/- A disk's files that have not come yet, while they come in any order. -/
namespace Go.Proofs.YtanlgadijndmaaaDoor
open Go.RowKit HP
set_option linter.unusedSimpArgs false
set_option linter.unusedVariables false

theorem putF_perm {α : Type} {s : ByteArray} {v : α} : ∀ {l : List (ByteArray × α)}, lk l s = none → (putF l s v).Perm ((s, v) :: l)
  | [], _ => List.Perm.refl _
  | (t, u) :: l, h => by
    rw [lk_cons] at h
    split at h
    · cases h
    · rename_i hne
      unfold putF
      rw [if_neg hne]
      split
      · exact List.Perm.refl _
      · exact ((putF_perm h).cons _).trans (List.Perm.swap _ _ _)
theorem sortF_perm {fs : List Fil} (hn : (fs.map (·.name)).Nodup) : (sortF fs).Perm (fs.map fun f => (f.name, f.cs)) := by
  induction fs with
  | nil => exact List.Perm.refl _
  | cons f fs ih =>
    simp only [List.map_cons, List.nodup_cons] at hn
    have h2 : lk (sortF fs) f.name = none := by
      rw [sortF_lk]
      unfold lkF
      rw [Option.map_eq_none_iff, List.find?_eq_none]
      intro x hx he
      simp only [decide_eq_true_eq] at he
      exact hn.1 (List.mem_map.2 ⟨x, hx, he⟩)
    exact (putF_perm h2).trans ((ih hn.2).cons _)
theorem files_perm {A : Dk} {es : Array MapEntry} {clock : Nat} {fs : List Fil} (hv : View A es clock fs) : (fs.map fun f => (f.name, f.cs)).Perm A.files := by
  have e : sortF fs = A.files := sorted_ext (sortF_sorted fs) hv.fine.sorted fun s => by rw [sortF_lk, hv.same]
  rw [← e]
  exact (sortF_perm hv.map.2.2.1).symm
/-- The files that have not come yet. -/
def leftZ (es : Array MapEntry) (seen : Array Nat) (fs : List Fil) : List (MapEntry × Fil) := (es.toList.zip fs).filter fun x => !seen.contains x.1.born
theorem filter_out {α : Type} {b : α → Nat} : ∀ {l : List α} {x : α} {p : α → Bool}, (l.map b).Nodup → x ∈ l → p x = true → (l.filter p).Perm (x :: l.filter fun y => p y && !(b y == b x))
  | [], x, p, _, h, _ => by cases h
  | y :: l, x, p, hn, hx, hp => by
    simp only [List.map_cons, List.nodup_cons] at hn
    by_cases e : y = x
    · subst e
      rw [List.filter_cons_of_pos hp, List.filter_cons_of_neg (by simp)]
      refine List.Perm.cons _ (List.Perm.of_eq ?_)
      refine List.filter_congr fun z hz => ?_
      have : b z ≠ b y := fun h => hn.1 (by rw [← h]; exact List.mem_map.2 ⟨z, hz, rfl⟩)
      simp [this]
    · have hxl : x ∈ l := by
        rcases List.mem_cons.1 hx with h | h
        · exact absurd h.symm e
        · exact h
      have hb : b y ≠ b x := fun h => hn.1 (by rw [h]; exact List.mem_map.2 ⟨x, hxl, rfl⟩)
      have ih := filter_out hn.2 hxl hp
      by_cases hpy : p y = true
      · rw [List.filter_cons_of_pos hpy, List.filter_cons_of_pos (by simp [hpy, hb])]
        exact (ih.cons _).trans (List.Perm.swap _ _ _)
      · rw [List.filter_cons_of_neg hpy, List.filter_cons_of_neg (by simp [hpy])]
        exact ih
theorem leftZ_step {es : Array MapEntry} {seen : Array Nat} {fs : List Fil} {j : Nat} {e : MapEntry} {f : Fil} (hn : (es.toList.map (·.born)).Nodup) (hl : es.toList.length = fs.length) (hj : es.toList[j]? = some e) (hf : fs[j]? = some f) (he : seen.contains e.born = false) :
    (leftZ es seen fs).Perm ((e, f) :: leftZ es (seen.push e.born) fs) := by
  have hm : ((es.toList.zip fs).map fun x => x.1.born) = es.toList.map (·.born) := by
    rw [show (fun x : MapEntry × Fil => x.1.born) = (fun x : MapEntry => x.born) ∘ Prod.fst from rfl, ← List.map_map, List.map_fst_zip (by omega)]
  have hmem : (e, f) ∈ es.toList.zip fs := List.mem_of_getElem? (i := j) (by rw [List.getElem?_zip_eq_some]; exact ⟨hj, hf⟩)
  have := filter_out (b := fun x : MapEntry × Fil => x.1.born) (p := fun x => !seen.contains x.1.born) (by rw [hm]; exact hn) hmem (by show (!seen.contains e.born) = true; rw [he]; rfl)
  refine this.trans (List.Perm.of_eq ?_)
  unfold leftZ
  congr 1
  refine List.filter_congr fun z _ => ?_
  rw [Array.contains_push]
  simp [Bool.not_or]
theorem leftZ_start {es : Array MapEntry} {fs : List Fil} (hl : es.toList.length = fs.length) : (leftZ es #[] fs).map (·.2) = fs := by
  unfold leftZ
  rw [List.filter_eq_self.2 (by simp), List.map_snd_zip (by omega)]
theorem leftZ_end {es : Array MapEntry} {seen : Array Nat} {fs : List Fil} (h : leftL es seen = []) : leftZ es seen fs = [] := by
  unfold leftZ
  rw [List.filter_eq_nil_iff]
  rintro ⟨e, f⟩ hx
  have he := (List.of_mem_zip hx).1
  have := List.filter_eq_nil_iff.1 h e he
  simpa using this
end Go.Proofs.YtanlgadijndmaaaDoor
