/- Texts of one claim, one behind the other: ExtP, FreshP, NeedsP, PairLo, HeldP, LoadP, LostP, StP, StS, StT, AppZ, StR, StL, StM. -/
import Derived.Test.YtnpinegpajbkeaaGreatDoorLv5
import Derived.Lib.AppendZerosOnto
set_option linter.unusedSimpArgs false
set_option linter.unusedVariables false
namespace Go.Proofs.YtnpinegpajbkeaaGreatDoor
open Go.RowKit HP
theorem extI_parts {f : ByteArray} {i g : Nat} {p : List Int} (h : p.length ≤ 106) :
    (extI f i g p).getD 17 0 = p.length ∧ ((extI f i g p).drop 9).take 8 = putI g 8 ∧ ((extI f i g p).drop 18).take p.length = p := by
  have e : extI f i g p = ([229] ++ putI (crcSum (strB f)) 4 ++ putI i 4) ++ (putI g 8 ++ ((p.length : Int) :: (p ++ (List.replicate (106 - p.length) 0 ++ putI (crcSum (extH f i g p)) 4)))) := by
    unfold extI
    conv => lhs; arg 1; unfold extH
    simp only [List.append_assoc, List.cons_append, List.nil_append]
  have l1 : ([229] ++ putI (crcSum (strB f)) 4 ++ putI i 4 : List Int).length = 9 := by simp [putI_length]
  have d9 : (extI f i g p).drop 9 = putI g 8 ++ ((p.length : Int) :: (p ++ (List.replicate (106 - p.length) 0 ++ putI (crcSum (extH f i g p)) 4))) := by
    rw [e, ← l1, List.drop_left]
  have d17 : (extI f i g p).drop 17 = (p.length : Int) :: (p ++ (List.replicate (106 - p.length) 0 ++ putI (crcSum (extH f i g p)) 4)) := by
    rw [show 17 = 9 + 8 from rfl, ← List.drop_drop, d9, List.drop_left' (putI_length g 8)]
  refine ⟨?_, ?_, ?_⟩
  · have := congrArg (fun l => l[0]?) d17
    simp only [List.getElem?_drop, Nat.add_zero, List.getElem?_cons_zero] at this
    simp [List.getD, this]
  · rw [d9]
    have := putI_length g 8
    rw [List.take_append_of_le_length (by omega), List.take_of_length_le (by omega)]
  · rw [show 18 = 17 + 1 from rfl, ← List.drop_drop, d17, List.drop_one, List.tail_cons, List.take_left]
theorem openI_extI {f : ByteArray} {i g : Nat} {p : List Int} (hi : i ≤ 2147483647) (hg : g ≤ 4611686018427387904) (h : p.length ≤ 106) : openI (extI f i g p) f i = some (p, g) := by
  obtain ⟨h1, h2, h3⟩ := extI_parts (f := f) (i := i) (g := g) h
  unfold openI
  rw [h1, h2, Int.toNat_natCast, Int.toNat_natCast, h3, getN_putI 8 g (by omega)]
  rw [if_neg (by rw [extI_length h]; omega), if_neg (by omega), if_neg (by simp)]
def stl (I : List Int) : Cel := ⟨I, I, I, I, false⟩
structure TwoNames (fa fb : ByteArray) : Prop where
  na : namedB fa = true
  nb : namedB fb = true
  ne : fa ≠ fb
  lt : ltN fa fb = true
  gt : ltN fb fa = false
def wr1 (A : Dk) (f : ByteArray) (i : Int) (I : List Int) : Int × Dk := if (A.write f i I).1 = 0 then (A.write f i I).2.sync f else A.write f i I
def put2 (A : Dk) (fa fb : ByteArray) (i : Int) (Ia Ib : List Int) : Int × Dk :=
  if (wr1 A fa i Ia).1 = 0 then (if (wr1 (wr1 A fa i Ia).2 fb i Ib).1 = 0 then (0, (wr1 (wr1 A fa i Ia).2 fb i Ib).2) else wr1 (wr1 A fa i Ia).2 fb i Ib) else wr1 A fa i Ia
def two (room fuse : Int) (fa fb : ByteArray) (a b : Cel) : Dk := ⟨room, fuse, [(fa, [a]), (fb, [b])]⟩
section
variable {fa fb : ByteArray} {Ia Ib : List Int} (T : TwoNames fa fb) (la : Ia.length = 128) (lb : Ib.length = 128)
include T la lb
end
def exS : ByteArray := ⟨#[120]⟩
end Go.Proofs.YtnpinegpajbkeaaGreatDoor
namespace Go.Proofs.YtnpinegpajbkeaaGreatDoor
open Go.RowKit HP
theorem goes_ever {A : Dk} (h : A.fuse = -1) : A.goes = true := by simp [Dk.goes, burnI, h]
theorem burnt_ever {A : Dk} (h : A.fuse = -1) : A.burnt = A := by
  obtain ⟨r, f, fs⟩ := A
  simp only at h
  subst h
  rfl
theorem write_end {A : Dk} {f : ByteArray} {I : List Int} (hn : namedB f = true) (hl : I.length = 128) (he : A.fuse = -1) (hf : 0 < A.free) : A.write f ((A.at f).length : Int) I = (0, A.set f (A.at f ++ [Cel.zero.wrote I])) := by
  unfold Dk.write
  rw [if_neg (by rw [hn, hl]; simp), if_neg (by rw [goes_ever he]; simp), if_neg (by omega), if_pos rfl, burnt_ever he]
theorem at_some {A : Dk} {f : ByteArray} (h : 0 < (A.at f).length) : lk A.files f = some (A.at f) := by
  unfold Dk.at at h ⊢
  cases hk : lk A.files f with
  | none => rw [hk] at h; simp at h
  | some l => rfl
structure Fresh (A B : Dk) (f : ByteArray) (m : Nat) : Prop where
  sorted : Sorted B.files
  fuse : B.fuse = -1
  room : B.room = A.room
  size : sizeF B.files = sizeF A.files + m
  others : ∀ t, f ≠ t → B.at t = A.at t
theorem set_fresh {A : Dk} {f : ByteArray} {l : List Cel} {m : Nat} (hs : Sorted A.files) (he : A.fuse = -1) (hl : l.length = (A.at f).length + m) : Fresh A (A.set f l) f m :=
  ⟨sorted_put f l hs, he, rfl, by
    have := sizeF_put hs f l
    have h2 : ((lk A.files f).getD []).length = (A.at f).length := rfl
    show sizeF (putF A.files f l) = _
    omega, fun t ht => by rw [at_set hs l, if_neg ht]⟩
theorem wrF_fresh {f : ByteArray} {gen : Nat} (hn : namedB f = true) (hg : (gen : Int) ≤ 4611686018427387904) : ∀ (ps : List (List Int)) (A : Dk) (i : Nat), Sorted A.files → A.fuse = -1 → (A.at f).length = i → (ps.length : Int) ≤ A.free → (∀ p ∈ ps, p.length ≤ 106) → i + ps.length ≤ 2147483647 → 0 < i + ps.length →
    ∃ B, wrF A f gen i ps = (0, B) ∧ Fresh A B f ps.length ∧ (B.at f).length = i + ps.length
  | [], A, i, hs, he, hi, _, _, _, h0 => by
    have hl := at_some (A := A) (f := f) (by rw [hi]; simpa using h0)
    refine ⟨_, sync_some hl (goes_ever he), ?_, ?_⟩
    · rw [burnt_ever he]
      exact set_fresh hs he (by rw [List.length_map]; rfl)
    · rw [burnt_ever he, at_set hs, if_pos rfl, List.length_map, hi]; rfl
  | p :: ps, A, i, hs, he, hi, hf, hp, hm, _ => by
    have hpl := hp p (List.mem_cons_self ..)
    simp only [List.length_cons] at hf hm
    have hfo : FrameOk (i : Int) gen p.length := ⟨by omega, by omega, by omega, hg, hpl⟩
    have hw : A.write f (i : Int) (extI f i gen p) = (0, A.set f (A.at f ++ [Cel.zero.wrote (extI f i gen p)])) := by
      have := write_end (A := A) (f := f) (I := extI f i gen p) hn (extI_length hpl) he (by omega)
      rw [hi] at this
      exact this
    have h1 := set_fresh (A := A) (f := f) (l := A.at f ++ [Cel.zero.wrote (extI f i gen p)]) (m := 1) hs he (by rw [List.length_append]; rfl)
    have hlen : ((A.set f (A.at f ++ [Cel.zero.wrote (extI f i gen p)])).at f).length = i + 1 := by rw [at_set hs, if_pos rfl, List.length_append, hi]; rfl
    obtain ⟨B, hB, hF, hBl⟩ := wrF_fresh hn hg ps (A.set f (A.at f ++ [Cel.zero.wrote (extI f i gen p)])) (i + 1) h1.sorted h1.fuse hlen (by
      have := h1.size
      show (ps.length : Int) ≤ (A.set f _).room - _
      unfold Dk.free at hf
      have h2 := h1.room
      omega) (fun x hx => hp x (List.mem_cons_of_mem _ hx)) (by omega) (by omega)
    refine ⟨B, ?_, ⟨hF.sorted, hF.fuse, hF.room.trans h1.room, ?_, fun t ht => (hF.others t ht).trans (h1.others t ht)⟩, by rw [hBl, List.length_cons]; omega⟩
    · unfold wrF
      rw [if_neg (by simpa using hfo), hw, if_pos rfl]
      exact hB
    · rw [hF.size, h1.size, List.length_cons]; omega
def extN (A : Dk) (name : ByteArray) : Nat := (halvesL name).foldl (fun m f => max m (A.at f).length) 0
def loadG (A : Dk) (name : ByteArray) (gen : Int) : Nat → Nat → List Int → Option (List Int)
  | _, 0, out => some out
  | i, c + 1, out => if 0 ≤ (getP A name i).1 ∧ (getP A name i).1 = gen then loadG A name gen (i + 1) c (out ++ (getP A name i).2) else none
def loadP (A : Dk) (name : ByteArray) (gen : Int) : Option (List Int) := if extN A name = 0 then none else loadG A name gen 0 (extN A name) []
def loadEnd (E : Env) (q : HP) (r : Option (List Int)) (e : Ending) (w' : World) : Prop :=
  match r with
  | none => e = .returned (.tuple #[.slice none 0 0, .int .i64 50]) ∧ Sat E w' q
  | some l => ∃ v, e = .returned (.tuple #[v, .int .i64 0]) ∧ Sat E w' (HP.row 5 1 v l.length (b8s l) * q)
def newCels (f : ByteArray) (gen : Nat) : Nat → List (List Int) → List Cel
  | _, [] => []
  | i, p :: ps => Cel.zero.wrote (extI f i gen p) :: newCels f gen (i + 1) ps
theorem wrF_cels {f : ByteArray} {gen : Nat} (hn : namedB f = true) (hg : (gen : Int) ≤ 4611686018427387904) : ∀ (ps : List (List Int)) (A : Dk) (i : Nat), Sorted A.files → A.fuse = -1 → (A.at f).length = i → (ps.length : Int) ≤ A.free → (∀ p ∈ ps, p.length ≤ 106) → i + ps.length ≤ 2147483647 → 0 < i + ps.length →
    (wrF A f gen i ps).2.at f = (A.at f ++ newCels f gen i ps).map Cel.syncd
  | [], A, i, hs, he, hi, _, _, _, h0 => by
    have hl := at_some (A := A) (f := f) (by rw [hi]; simpa using h0)
    show (A.sync f).2.at f = _
    rw [sync_some hl (goes_ever he), burnt_ever he, at_set hs, if_pos rfl]
    simp [newCels]
  | p :: ps, A, i, hs, he, hi, hf, hp, hm, _ => by
    have hpl := hp p (List.mem_cons_self ..)
    simp only [List.length_cons] at hf hm
    have hfo : FrameOk (i : Int) gen p.length := ⟨by omega, by omega, by omega, hg, hpl⟩
    have hw : A.write f (i : Int) (extI f i gen p) = (0, A.set f (A.at f ++ [Cel.zero.wrote (extI f i gen p)])) := by
      have := write_end (A := A) (f := f) (I := extI f i gen p) hn (extI_length hpl) he (by omega)
      rw [hi] at this
      exact this
    have h1 := set_fresh (A := A) (f := f) (l := A.at f ++ [Cel.zero.wrote (extI f i gen p)]) (m := 1) hs he (by rw [List.length_append]; rfl)
    have hlen : ((A.set f (A.at f ++ [Cel.zero.wrote (extI f i gen p)])).at f).length = i + 1 := by rw [at_set hs, if_pos rfl, List.length_append, hi]; rfl
    have hB := wrF_cels hn hg ps (A.set f (A.at f ++ [Cel.zero.wrote (extI f i gen p)])) (i + 1) h1.sorted h1.fuse hlen (by
      have := h1.size
      show (ps.length : Int) ≤ (A.set f _).room - _
      unfold Dk.free at hf
      have h2 := h1.room
      omega) (fun x hx => hp x (List.mem_cons_of_mem _ hx)) (by omega) (by omega)
    unfold wrF
    rw [if_neg (by simpa using hfo), hw, if_pos rfl, hB, at_set hs, if_pos rfl]
    simp [newCels]
theorem newCels_get {f : ByteArray} {gen : Nat} : ∀ (ps : List (List Int)) (i k : Nat) (p : List Int), ps[k]? = some p → (newCels f gen i ps)[k]? = some (Cel.zero.wrote (extI f (i + k) gen p))
  | [], i, k, p, h => by simp at h
  | q :: ps, i, 0, p, h => by
    simp only [List.getElem?_cons_zero, Option.some.injEq] at h
    subst h
    rfl
  | q :: ps, i, k + 1, p, h => by
    have := newCels_get (f := f) (gen := gen) ps (i + 1) k p (by simpa using h)
    rw [show i + 1 + k = i + (k + 1) by omega] at this
    simpa [newCels] using this
theorem newCels_length {f : ByteArray} {gen : Nat} : ∀ (ps : List (List Int)) (i : Nat), (newCels f gen i ps).length = ps.length
  | [], _ => rfl
  | _ :: ps, i => by
    show (newCels f gen (i + 1) ps).length + 1 = ps.length + 1
    rw [newCels_length ps]
structure Holds (B : Dk) (x : ByteArray) (gen : Nat) (ps : List (List Int)) : Prop where
  a : B.at (x ++ dotA) = (newCels (x ++ dotA) gen 0 ps).map Cel.syncd
  b : B.at (x ++ dotB) = (newCels (x ++ dotB) gen 0 ps).map Cel.syncd
theorem held_cel {B : Dk} {f : ByteArray} {gen k : Nat} {ps : List (List Int)} {p : List Int} (h : B.at f = (newCels f gen 0 ps).map Cel.syncd) (hp : ps[k]? = some p) : B.cel f (k : Int) = some (stl (extI f k gen p)) := by
  unfold Dk.cel
  rw [if_pos (by omega), Int.toNat_natCast, h, List.getElem?_map, newCels_get ps 0 k p hp, Nat.zero_add]
  rfl
def SumOk (b : List Int) : Prop := b.length = 128 ∧ b.drop 124 = putI (crcSum (b.take 124)) 4
theorem xorB_byte {a m : Int} (h0 : 0 ≤ a) (h1 : a ≤ 255) (h2 : 0 ≤ m) (h3 : m ≤ 255) : 0 ≤ xorB a m ∧ xorB a m ≤ 255 := by
  unfold xorB
  rw [u8_xor a m h0 (by omega) h2 (by omega)]
  have := Nat.xor_lt_two_pow (n := 8) (x := a.toNat) (y := m.toNat) (by omega) (by omega)
  omega
theorem getD_byte {l : List Int} (h : Bytes l) (k : Nat) : 0 ≤ l.getD k 0 ∧ l.getD k 0 ≤ 255 := by
  unfold List.getD
  cases hk : l[k]? with
  | none => simp
  | some x => exact h x (List.mem_of_getElem? hk)
structure LostEnd (B : Dk) (x : ByteArray) (k : Nat) : Prop where
  got : (getP B x k).1 < 0
  load : ∀ gen, loadP B x gen = none
  bytes : ∀ f ∈ halvesL x, ∀ i c, B.cel f i = some c → Bytes c.read
def partI (l : List Int) (e : Nat) : List Int := (l.drop (105 * e)).take 105
def zipX (a b : List Int) : List Int := List.zipWith xorB a b
def parI (l : List Int) (g : Nat) : Nat → List Int
  | 0 => List.replicate 106 0
  | k + 1 => zipX (parI l g k) (slotI (partI l (3 * g + k)))
def sec (G : List Int) (s : Nat) : List Int := (G.drop (106 * s)).take 106
def splS (G : List Int) (s : Nat) (S : List Int) : List Int := G.take (106 * s) ++ S ++ G.drop (106 * s + 106)
def payS (l : List Int) (g k : Nat) : List Int := if k = 3 then parI l g 3 else partI l (3 * g + k)
def paysS (l : List Int) (n k : Nat) : List (List Int) := (List.range n).map fun g => payS l g k
def stripeF (x : ByteArray) (k : Nat) : ByteArray := if k = 0 then x ++ dot0 else if k = 1 then x ++ dot1 else if k = 2 then x ++ dot2 else x ++ dotP
def groupsN (m : Nat) : Nat := if m = 0 then 1 else (m - 1) / 105 / 3 + 1
def wrT (A : Dk) (gen : Nat) : List (ByteArray × List (List Int)) → Int × Dk
  | [] => (0, A)
  | (f, ps) :: r => if (wrF A f gen 0 ps).1 = 0 then wrT (wrF A f gen 0 ps).2 gen r else wrF A f gen 0 ps
def fsS (name : ByteArray) (l : List Int) : List (ByteArray × List (List Int)) :=
  [(name ++ dot0, paysS l (groupsN l.length) 0), (name ++ dot1, paysS l (groupsN l.length) 1), (name ++ dot2, paysS l (groupsN l.length) 2), (name ++ dotP, paysS l (groupsN l.length) 3)]
def storeS (A : Dk) (name : ByteArray) (gen : Nat) (l : List Int) : Int × Dk := if (dropS A name).1 = 0 then wrT (dropS A name).2 gen (fsS name l) else dropS A name
theorem groupsI_nat (m : Nat) : groupsI m = (groupsN m : Int) := by
  unfold groupsI groupsN
  by_cases h : m = 0
  · subst h; rfl
  · rw [if_neg (by omega), if_neg h]
    omega
theorem groupsN_bounds (m : Nat) : 1 ≤ groupsN m ∧ 315 * (groupsN m - 1) ≤ m ∧ m ≤ 315 * groupsN m := by
  unfold groupsN
  split <;> omega
theorem partI_length (l : List Int) (e : Nat) : (partI l e).length = min 105 (l.length - 105 * e) := by
  unfold partI
  rw [List.length_take, List.length_drop]
theorem partI_le (l : List Int) (e : Nat) : (partI l e).length ≤ 105 := by rw [partI_length]; omega
theorem partI_bytes {l : List Int} (hb : Bytes l) (e : Nat) : Bytes (partI l e) := fun x hx => hb x (List.mem_of_mem_drop (List.mem_of_mem_take hx))
theorem zipX_length (a b : List Int) : (zipX a b).length = min a.length b.length := by unfold zipX; rw [List.length_zipWith]
theorem parI_length (l : List Int) (g : Nat) : ∀ k, (parI l g k).length = 106
  | 0 => List.length_replicate ..
  | k + 1 => by rw [parI, zipX_length, parI_length, slotI_length (partI_le _ _)]; omega
theorem zipX_bytes {a b : List Int} (ha : Bytes a) (hb : Bytes b) : Bytes (zipX a b) := by
  intro x hx
  unfold zipX at hx
  obtain ⟨i, hi, rfl⟩ := List.mem_iff_getElem.1 hx
  rw [List.getElem_zipWith]
  have h1 := ha _ (List.getElem_mem (by rw [List.length_zipWith] at hi; omega : i < a.length))
  have h2 := hb _ (List.getElem_mem (by rw [List.length_zipWith] at hi; omega : i < b.length))
  exact xorB_byte h1.1 h1.2 h2.1 h2.2
theorem parI_bytes {l : List Int} (hb : Bytes l) (g : Nat) : ∀ k, Bytes (parI l g k)
  | 0 => fun x hx => by rw [List.eq_of_mem_replicate hx]; omega
  | k + 1 => zipX_bytes (parI_bytes hb g k) (slotI_bytes (partI_le _ _) (partI_bytes hb _))
theorem payS_length (l : List Int) (g k : Nat) : (payS l g k).length ≤ 106 := by
  unfold payS
  split
  · rw [parI_length]; omega
  · have := partI_le l (3 * g + k); omega
theorem payS_bytes {l : List Int} (hb : Bytes l) (g k : Nat) : Bytes (payS l g k) := by
  unfold payS
  split
  · exact parI_bytes hb g 3
  · exact partI_bytes hb _
theorem payI_slot {p : List Int} (h : p.length ≤ 105) {k : Nat} (hk : k ≠ 3) : payI k (slotI p) = p := by
  unfold payI slotI
  rw [if_neg hk]
  simp
theorem slotI_head (p : List Int) : (slotI p).headD 0 = (p.length : Int) := rfl
theorem sec_get {G : List Int} {s j : Nat} (h : 106 * s + 106 ≤ G.length) : (sec G s)[j]? = if j < 106 then G[106 * s + j]? else none := by
  unfold sec
  rw [List.getElem?_take]
  split
  · rw [List.getElem?_drop]
  · rfl
theorem sec_length {G : List Int} {s : Nat} (h : 106 * s + 106 ≤ G.length) : (sec G s).length = 106 := by
  unfold sec
  rw [List.length_take, List.length_drop]
  omega
theorem spl_length {G S : List Int} {s : Nat} (hS : S.length = 106) (h : 106 * s + 106 ≤ G.length) : (splS G s S).length = G.length := by
  unfold splS
  rw [List.length_append, List.length_append, List.length_take, List.length_drop, hS]
  omega
theorem spl_get {G S : List Int} {s : Nat} (hS : S.length = 106) (h : 106 * s + 106 ≤ G.length) (j : Nat) : (splS G s S)[j]? = if 106 * s ≤ j ∧ j < 106 * s + 106 then S[j - 106 * s]? else G[j]? := by
  unfold splS
  rw [List.append_assoc, List.getElem?_append, List.length_take, Nat.min_eq_left (by omega)]
  by_cases h1 : j < 106 * s
  · rw [if_pos h1, if_neg (by omega), List.getElem?_take, if_pos h1]
  · rw [if_neg h1, List.getElem?_append, hS]
    by_cases h2 : j - 106 * s < 106
    · rw [if_pos h2, if_pos (by omega)]
    · rw [if_neg h2, if_neg (by omega), List.getElem?_drop]
      congr 1
      omega
theorem sec_spl {G S : List Int} {s s' : Nat} (hS : S.length = 106) (h : 106 * s + 106 ≤ G.length) (h' : 106 * s' + 106 ≤ G.length) : sec (splS G s S) s' = if s = s' then S else sec G s' := by
  apply List.ext_getElem?
  intro j
  rw [sec_get (by rw [spl_length hS h]; exact h'), spl_get hS h]
  by_cases hj : j < 106
  · rw [if_pos hj]
    by_cases e : s = s'
    · subst e
      rw [if_pos (by omega), if_pos rfl]
      congr 1
      omega
    · rw [if_neg (by omega), if_neg e, sec_get h', if_pos hj]
  · rw [if_neg hj]
    split
    · rw [List.getElem?_eq_none (by omega)]
    · rw [sec_get h', if_neg hj]
theorem sec_mix {G O : List Int} {s s' : Nat} (hO : O.length = 106) (h : 106 * s + 106 ≤ G.length) (h' : 106 * s' + 106 ≤ G.length) : sec (mixN G (106 * s) O 106) s' = if s = s' then zipX (sec G s) O else sec G s' := by
  apply List.ext_getElem?
  intro j
  rw [sec_get (by rw [mixN_length]; exact h')]
  by_cases hj : j < 106
  · rw [if_pos hj]
    by_cases e : s = s'
    · subst e
      rw [if_pos rfl, mixN_in G (106 * s) O 106 j hj h]
      unfold zipX
      have hs : (sec G s)[j]? = some (G.getD (106 * s + j) 0) := by
        rw [sec_get h, if_pos hj, List.getD_eq_getElem?_getD, List.getElem?_eq_getElem (by omega)]; rfl
      have ho : O[j]? = some (O.getD j 0) := by rw [List.getD_eq_getElem?_getD, List.getElem?_eq_getElem (by omega)]; rfl
      rw [List.getElem?_zipWith, hs, ho]
    · rw [if_neg e, sec_get h', if_pos hj]
      rcases Nat.lt_or_ge s s' with h1 | h1
      · exact mixN_ge _ _ _ _ _ (by omega)
      · exact mixN_lt _ _ _ _ _ (by omega)
  · rw [if_neg hj]
    split
    · rw [List.getElem?_eq_none (by rw [zipX_length, sec_length h, hO]; omega)]
    · rw [sec_get h', if_neg hj]
structure Grp (l : List Int) (n : Nat) (G : List Int) (g k : Nat) : Prop where
  len : G.length = 424 * n
  slots : ∀ g' k', g' < n → k' < 3 → (g' < g ∨ g' = g ∧ k' < k) → sec G (4 * g' + k') = slotI (partI l (3 * g' + k'))
  par : ∀ g', g' < n → sec G (4 * g' + 3) = parI l g' (if g' < g then 3 else if g' = g then k else 0)
theorem grp_start (l : List Int) (n : Nat) : Grp l n (List.replicate (424 * n) 0) 0 0 := by
  refine ⟨List.length_replicate .., fun g' k' _ _ h => by omega, fun g' hg => ?_⟩
  have : (if g' < 0 then 3 else if g' = 0 then 0 else 0) = 0 := by split <;> (try split) <;> omega
  rw [this]
  unfold sec parI
  rw [List.drop_replicate, List.take_replicate, Nat.min_eq_left (by omega)]
theorem grp_step {l G : List Int} {n g k : Nat} (h : Grp l n G g k) (hg : g < n) (hk : k < 3) : Grp l n (mixN (splS G (4 * g + k) (slotI (partI l (3 * g + k)))) (106 * (4 * g + 3)) (slotI (partI l (3 * g + k))) 106) g (k + 1) := by
  have hS := slotI_length (partI_le l (3 * g + k))
  have hl := h.len
  have i1 : 106 * (4 * g + k) + 106 ≤ G.length := by omega
  have i2 : 106 * (4 * g + 3) + 106 ≤ G.length := by omega
  have l1 := spl_length hS i1
  refine ⟨by rw [mixN_length, l1, hl], fun g' k' hg' hk' ho => ?_, fun g' hg' => ?_⟩
  · rw [sec_mix hS (by rw [l1]; exact i2) (by rw [l1]; omega), if_neg (by omega), sec_spl hS i1 (by omega)]
    by_cases e : 4 * g + k = 4 * g' + k'
    · obtain rfl : g' = g := by omega
      obtain rfl : k' = k := by omega
      rw [if_pos rfl]
    · rw [if_neg e]
      exact h.slots g' k' hg' hk' (by omega)
  · by_cases e : g' = g
    · subst e
      rw [sec_mix hS (by rw [l1]; exact i2) (by rw [l1]; exact i2), if_pos rfl, sec_spl hS i1 i2, if_neg (by omega), h.par g' hg']
      simp only [Nat.lt_irrefl, if_false, if_true]
      rfl
    · rw [sec_mix hS (by rw [l1]; exact i2) (by rw [l1]; omega), if_neg (by omega), sec_spl hS i1 (by omega), if_neg (by omega), h.par g' hg']
      simp only [e, if_false]
theorem grp_next {l G : List Int} {n g : Nat} (h : Grp l n G g 3) (hg : g < n) : Grp l n G (g + 1) 0 := by
  refine ⟨h.len, fun g' k' hg' hk' ho => h.slots g' k' hg' hk' (by omega), fun g' hg' => ?_⟩
  rw [h.par g' hg']
  congr 1
  split
  · rw [if_pos (by omega)]
  · split
    · rw [if_pos (by omega)]
    · rw [if_neg (by omega)]
      split <;> rfl
theorem grp_pay {l G : List Int} {n g k : Nat} (h : Grp l n G n 0) (hg : g < n) (hk : k < 4) : payI k (sec G (4 * g + k)) = payS l g k ∧ (k ≠ 3 → 0 ≤ (sec G (4 * g + k)).headD 0 ∧ (sec G (4 * g + k)).headD 0 ≤ 105) ∧ (sec G (4 * g + k)).length = 106 := by
  have hl := h.len
  refine ⟨?_, fun h3 => ?_, sec_length (by omega)⟩
  · by_cases h3 : k = 3
    · subst h3
      unfold payI payS
      rw [if_pos rfl, if_pos rfl, h.par g hg, if_pos hg]
    · rw [h.slots g k hg (by omega) (by omega), payI_slot (partI_le _ _) h3]
      unfold payS
      rw [if_neg h3]
  · rw [h.slots g k hg (by omega) (by omega), slotI_head]
    have := partI_le l (3 * g + k)
    omega
theorem wpList_make_run {P : Program} {ops : Array Oper} {rest : List Oper} {o : Oper} {a : Act} {w w' : World} {Q : Exit → Act → World → Prop} {t : TypeId} {x y : Operand} {X Y V : Value} (hg : o.guard = none) (ho : o.op = .makeSlice t x y) (hx : a.eval x = X) (hy : a.eval y = Y)
    (hr : (Instr.makeSlice t X Y).run P w = .ok V w') (hk : wpList P ops Q rest (a.put o.dst V) w') : wpList P ops Q (o :: rest) a w := by
  refine wpList_plain hg fun K hK => ?_
  unfold Oper.wp execOp
  simp only [ho, hx, hy, Sem.run_bind, hr, Result.andThen_ok]
  exact hK _ _ hk
theorem info_four : (Tryz.prog.info? 102).map (fun i => (i.zero.map Value.cells, i.size, i.bytes)) = some (some (b8s (List.replicate 424 0)).toArray, 424, 424) := by kernel_rfl
theorem made_zero (k n : Nat) (hk : 0 < k) : (madeCells (b8s (List.replicate k 0)).toArray (n * k)) = (b8s (List.replicate (k * n) 0)).toArray := by
  apply Array.ext
  · simp [size_madeCells, b8s_length, Nat.mul_comm]
  · intro i h1 h2
    have hm : i % k < k := Nat.mod_lt _ hk
    simp [madeCells, b8s, List.getElem!_eq_getElem?_getD, hm]
theorem made_groups (n : Nat) : (madeCells (b8s (List.replicate 424 0)).toArray (n * 424)) = (b8s (List.replicate (424 * n) 0)).toArray := made_zero 424 n (by decide)
def cutA (Ap : Option Addr) (c a : Nat) : Option Addr := if c = a then Ap else Ap.map (·.add a)
theorem run_cut_bytes (w : World) (Ap : Option Addr) (m c a b : Nat) (h1 : a ≤ b) (h2 : b ≤ c) : (Instr.sliceAt 43 (.slice Ap m c) (some (.int .i64 (a : Int))) (some (.int .i64 (b : Int))) none).run Tryz.prog w = .ok (.slice (cutA Ap c a) (b - a) (c - a)) w := by
  have f1 : (0 : Int) ≤ (b : Int) ∧ (b : Int) ≤ (c : Int) := by omega
  have f2 : (0 : Int) ≤ (a : Int) ∧ (a : Int) ≤ (b : Int) := by omega
  have e6 : (sizeOf 5).run Tryz.prog w = .ok 1 w := by kernel_rfl
  simp [Instr.sliceAt, Instr.slice, run_underlying Tryz.underlying43, Instr.sliceBounds, Instr.sliceBound, asIntOf, f1, f2, h1, h2, e6, cutA]
theorem cut_cells {w : World} {Ap : Option Addr} {l : List Int} {c a b : Nat} (h : Cells w Ap (b8s l)) (h1 : a ≤ b) (h2 : b ≤ c) (h3 : b ≤ l.length) : Cells w (cutA Ap c a) (b8s ((l.drop a).take (b - a))) := by
  unfold cutA
  by_cases e : c = a
  · rw [if_pos e, show b - a = 0 by omega, List.take_zero]
    exact Cells.nil _ _
  · rw [if_neg e]
    cases Ap with
    | none =>
      have : l = [] := by
        cases l with
        | nil => rfl
        | cons x l => obtain ⟨a, ha, _⟩ := h.at_ 0 (by simp [b8s]); cases ha
      subst this
      simp only [List.drop_nil, List.take_nil]
      exact Cells.nil _ _
    | some p =>
      have := (h.drop a).take (b - a)
      unfold b8s at this ⊢
      rw [List.map_take, List.map_drop]
      exact this
theorem part_cut (l : List Int) (e m : Nat) (hm : l.length = m) : (l.drop (min (105 * e) m)).take (min (min (105 * e) m + 105) m - min (105 * e) m) = partI l e := by
  unfold partI
  rcases Nat.lt_or_ge m (105 * e) with h | h
  · rw [Nat.min_eq_right (by omega : m ≤ 105 * e), show min (m + 105) m - m = 0 by omega, List.take_zero, List.drop_of_length_le (by omega), List.take_nil]
  · rw [Nat.min_eq_left h]
    rcases Nat.lt_or_ge m (105 * e + 105) with h2 | h2
    · rw [Nat.min_eq_right (by omega), List.take_of_length_le (by rw [List.length_drop]; omega), List.take_of_length_le (by rw [List.length_drop]; omega)]
    · rw [Nat.min_eq_left h2, show 105 * e + 105 - 105 * e = 105 by omega]
theorem paysS_drop (l : List Int) (n k : Nat) {i : Nat} (h : i < n) : (paysS l n k).drop i = payS l i k :: (paysS l n k).drop (i + 1) := by
  unfold paysS
  rw [List.drop_eq_getElem_cons (by simp; omega)]
  simp
theorem splice_b8s (G S : List Int) (s : Nat) (h : S.length = 106) : splice (b8s G).toArray.toList (106 * s) (b8s S) = b8s (splS G s S) := by
  unfold splice splS b8s
  rw [List.length_map, h, List.map_append, List.map_append, List.map_take, List.map_drop]
theorem run_make_big {E : Env} {q : HP} {w : World} (h : Sat E w q) (n : Nat) (hn : n ≤ 600000000000) (kl kc : IntKind) :
    ∃ w', (Instr.makeSlice 98 (.int kl n) (.int kc n)).run Tryz.prog w = .ok (.slice (some ⟨w.heap.size, 0, none⟩) n n) w' ∧ Sat E w' (HP.pt w.heap.size (.cells (b8s (List.replicate (424 * n) 0)).toArray 102) * q) := by
  have hinf := info_four
  cases hi : Tryz.prog.info? 102 with
  | none => rw [hi] at hinf; cases hinf
  | some i =>
    rw [hi] at hinf
    simp only [Option.map_some, Option.some.injEq, Prod.mk.injEq] at hinf
    obtain ⟨hz0, hs, hb⟩ := hinf
    cases hz : i.zero with
    | none => rw [hz] at hz0; cases hz0
    | some z =>
      rw [hz] at hz0
      simp only [Option.map_some, Option.some.injEq] at hz0
      have hr := run_make (P := Tryz.prog) w 98 102 i z Tryz.underlying98 hi hz kl kc n n (by omega) (Int.le_refl _) (by rw [hb]; omega) (by omega)
      rw [Int.toNat_natCast, hs, hz0, made_groups] at hr
      exact ⟨_, hr, h.alloc _⟩
set_option maxHeartbeats 4000000 in
set_option maxRecDepth 100000 in
theorem stripe_store (E : Env) (q : HP) (d : Nat) (A : Dk) (name : ByteArray) (gen : Nat) (Ap : Option Addr) (l : List Int) (m c : Nat) (w : World) (hname : name.size + 2 ≤ maxLen) (hgen : (gen : Int) ≤ 4611686018427387904) (hlm : l.length = m) (hmc : m ≤ c) (hcm : c ≤ maxLen) (hm9 : m ≤ 140737488351232) (hl : Bytes l)
    (hq : ∀ w, Sat E w q → Quarter w ∧ Cells w Ap (b8s l)) (hw : Sat E w (HP.disk d A * q)) :
    Calls Tryz.prog 14 #[.pointer (some ⟨d, 0, none⟩), .string name, .int .i64 gen, .slice Ap m c] w fun e w' => e = .returned (.int .i64 (storeS A name gen l).1) ∧ Sat E w' (HP.disk d (storeS A name gen l).2 * q) := by
  have HS : Aside (storeS A name gen l = if (dropS A name).1 = 0 then wrT (dropS A name).2 gen (fsS name l) else dropS A name) := ⟨rfl⟩
  have HQ := Aside.mk (And.intro hq (And.intro hl (And.intro hlm (And.intro hw (And.intro hname hcm)))))
  clear hq hl hlm hw hcm
  go_enter Tryz.func14, Tryz.ntmps14
  go_wp2_with fail
  refine (stripe_none E q d A _ HQ.out.2.2.2.1).mono ?_
  rintro e w1 ⟨rfl, h1⟩
  have H1 := Aside.mk h1
  clear h1
  go_wp2_with fail
  refine (stripe_drop E q d A name _ hname H1.out).mono ?_
  rintro e w2 ⟨rfl, h2⟩
  have H2 := Aside.mk h2
  clear h2 H1 hname
  by_cases h0 : (dropS A name).1 = 0
  · rw [if_pos h0] at HS
    rw [h0]
    generalize (dropS A name).2 = B at *
    clear h0
    go_wp2_with fail
    refine (stripe_groups m _ (by unfold wf64; omega)).mono ?_
    rintro e w3 ⟨rfl, hw3⟩
    subst w3
    rw [groupsI_nat]
    obtain ⟨n, hn⟩ : ∃ n, n = groupsN m := ⟨_, rfl⟩
    have hn9 : n ≤ 600000000000 := by
      have := groupsN_bounds m
      omega
    rw [← hn]
    have HN := Aside.mk hn
    clear hn
    obtain ⟨w4, hmk, h4⟩ := run_make_big H2.out n hn9 .i64 .i64
    have H4 : Aside (∃ G, Grp l n G 0 0 ∧ Sat E w4 (HP.pt w2.heap.size (.cells (b8s G).toArray 102) * (HP.disk d B * q))) := ⟨_, grp_start l n, h4⟩
    clear h4 H2
    go_wp2_with (first | (refine wpList_make_run rfl rfl rfl rfl hmk ?_))
    clear hmk
    generalize w2.heap.size = bG at *
    go_loopw [45] (fun v45 wr => ∃ g : Nat, g ≤ n ∧ v45 = .int .i64 g ∧ Aside (∃ G, Grp l n G g 0 ∧ Sat E wr (HP.pt bG (.cells (b8s G).toArray 102) * (HP.disk d B * q)))) (fun i _ => n - (intOf i).toNat)
    case atStart => exact ⟨0, by omega, rfl, H4⟩
    case round =>
      clear H4
      obtain ⟨g, hg, rfl, HG⟩ := hrel
      by_cases hlt : g < n
      · have hlt2 : (g : Int) < n := by omega
        go_wp2
        go_loopw [48] (fun v48 w2 => ∃ k : Nat, k ≤ 3 ∧ v48 = .int .i64 k ∧ Aside (∃ G, Grp l n G g k ∧ Sat E w2 (HP.pt bG (.cells (b8s G).toArray 102) * (HP.disk d B * q)))) (fun i _ => 3 - (intOf i).toNat)
        case atStart => exact ⟨0, by omega, rfl, HG⟩
        case round =>
          clear HG
          obtain ⟨k, hk, rfl, HK⟩ := hrel
          by_cases hk3 : k < 3
          · have hk32 : (k : Int) < 3 := by omega
            obtain ⟨fr, hfr⟩ : ∃ fr, fr = min (105 * (3 * g + k)) m := ⟨_, rfl⟩
            obtain ⟨to, hto⟩ : ∃ to, to = min (fr + 105) m := ⟨_, rfl⟩
            have y1 : (if (m : Int) < 105 * (3 * (g : Int) + (k : Int)) then (m : Int) else 105 * (3 * (g : Int) + (k : Int))) = (fr : Int) := by split <;> omega
            have y2 : (if (m : Int) < (fr : Int) + 105 then (m : Int) else (fr : Int) + 105) = (to : Int) := by split <;> omega
            have y3 : fr ≤ to := by omega
            have y4 : to ≤ m := by omega
            have y5 : to ≤ c := by omega
            have y6 : to - fr ≤ 105 := by omega
            have HP : Aside ((l.drop fr).take (to - fr) = partI l (3 * g + k)) := ⟨by
              have := part_cut l (3 * g + k) m HQ.out.2.2.1
              rw [← hfr, ← hto] at this
              exact this⟩
            have sl := run_cut_bytes wr Ap m c fr to y3 y5
            have HC : Aside (∀ w', Sat E w' q → Cells w' (cutA Ap c fr) (b8s (partI l (3 * g + k)))) := ⟨fun w' h => by
              rw [← HP.out]
              exact cut_cells (HQ.out.1 w' h).2 y3 y5 (by rw [HQ.out.2.2.1]; exact y4)⟩
            have HPL : Aside ((partI l (3 * g + k)).length = to - fr) := ⟨by rw [← HP.out, List.length_take, List.length_drop, HQ.out.2.2.1]; omega⟩
            generalize cutA Ap c fr = A' at *
            obtain ⟨G, hG, hGS⟩ := HK.out
            have HG := Aside.mk hG
            have HGS := Aside.mk hGS
            clear hG hGS HK hfr hto
            go_wp2_with fail
            refine (stripe_of E _ A' (partI l (3 * g + k)) (to - fr) (c - fr) _ HPL.out y6 (fun w' h => HC.out w' h.right.right) HGS.out).mono ?_
            rintro e w5 ⟨rfl, h5⟩
            have hS := slotI_length (partI_le l (3 * g + k))
            have HGN := Aside.mk (grp_step HG.out hlt hk3)
            obtain ⟨S, hSe⟩ : ∃ S, S = slotI (partI l (3 * g + k)) := ⟨_, rfl⟩
            rw [← hSe] at hS HGN ⊢
            clear hSe
            have h6 := h5.alloc (.cells Tryz.zeroCells100 100)
            have r6 := run_storeAgg agSlot (g := w5.heap.size) (off := 0) (cs := b8s S) h6.get (by rw [b8s_length]; exact hS) (by rw [← zero_slot]; simp [b8s_length]) (b8s_one S)
            have h7 := h6.splice (splice Tryz.zeroCells100.toList 0 (b8s S))
            rw [splice_all hS] at h7 r6
            generalize World.setRow (w5.alloc (.cells Tryz.zeroCells100 100)) w5.heap.size (b8s S).toArray = w7 at *
            have HS7 := Aside.mk (And.intro hS h7)
            clear hS h7 h6 h5 sl y1 y2 HC HPL HP
            go_wp2_with (first | (refine wpList_store_run rfl rfl rfl rfl rfl r6 ?_))
            generalize w5.heap.size = bS at *
            have hgl := HG.out.len
            have e1 : g * 424 + k * 106 = 106 * (4 * g + k) := by omega
            have h8 : Sat E w7.drew (HP.pt bG (.cells (b8s G).toArray 102) * (HP.pt bS (.cells (b8s S).toArray 100) * (HP.disk d B * q))) := HS7.out.2.drew.perm (by ac_rfl)
            have rl := run_loadAgg (P := Tryz.prog) agSlot (by rw [b8s_length]; exact HS7.out.1) (Sat.ptCells (off := 0) (l := b8s S) HS7.out.2.drew (by rw [List.drop_zero, List.take_length]))
            have rst := run_storeAgg agSlot (g := bG) (off := 106 * (4 * g + k)) (cs := b8s S) h8.get (by rw [b8s_length]; exact HS7.out.1) (by simp [b8s_length]; omega) (b8s_one S)
            have h9 := h8.splice (splice (b8s G).toArray.toList (106 * (4 * g + k)) (b8s S))
            rw [splice_b8s G S _ HS7.out.1] at h9 rst
            rw [← e1] at rst
            generalize World.setRow w7.drew bG (b8s (splS G (4 * g + k) S)).toArray = w9 at *
            have H9 := Aside.mk h9
            clear h8 h9 e1
            have rl2 := run_loadAgg (P := Tryz.prog) agSlot (by rw [b8s_length]; exact HS7.out.1) (Sat.ptCells (off := 0) (l := b8s S) H9.out.drew.s2 (by rw [List.drop_zero, List.take_length]))
            have hmx := stripe_mix E _ bG (106 * (4 * g + 3)) 102 (splS G (4 * g + k) S) S w9.drew HS7.out.1 (by rw [spl_length HS7.out.1 (by omega)]; omega) H9.out.drew
            rw [show (⟨bG, 106 * (4 * g + 3), none⟩ : Addr) = ⟨bG, g * 424 + 318, none⟩ by congr 1; omega] at hmx
            obtain ⟨C, hC⟩ : ∃ C, C = (b8s S).toArray := ⟨_, rfl⟩
            rw [← hC] at rl rst rl2 hmx
            have HCC := Aside.mk hC
            clear hC
            have hk42 : (k : Int) < 4 := by omega
            refine region_R [6] [] (fun _ => True) #[false, false, false, false, false, false, false] (by kernel_rfl) rfl rfl ?_
            refine wpR_rd 0 #[true, false, false, false, false, false, false] rfl onlyN_noPanic (by kernel_rfl) (fun K hK => ?_); (go_simp; try go_bits); refine hK _ ?_; clear hK K
            refine wpR_rd 1 #[true, true, false, false, false, false, false] rfl onlyN_noPanic (by kernel_rfl) (fun K hK => ?_); (go_simp; try go_bits); refine hK _ ?_; clear hK K
            refine wpR_rd 2 #[true, true, true, false, false, false, false] rfl onlyN_noPanic (by kernel_rfl) (fun K hK => ?_); (go_simp; try go_bits); refine hK _ ?_; clear hK K
            refine wpR_read (i := 3) #[true, true, true, true, false, false, false] rfl onlyN_noPanic (by kernel_rfl) (.inl ⟨rfl, exec_load rfl rfl rl⟩) ?_
            simp only [Act.put, List.setIfInBounds_toArray, List.set_cons_zero, List.set_cons_succ]
            refine wpR_rd 4 #[true, true, true, true, true, false, false] rfl onlyN_noPanic (by kernel_rfl) (fun K hK => ?_); (go_simp; try go_bits); refine hK _ ?_; clear hK K
            refine wpR_rd 5 #[true, true, true, true, true, true, false] rfl onlyN_noPanic (by kernel_rfl) (fun K hK => ?_); (go_simp; try go_bits); refine hK _ ?_; clear hK K
            refine wpR_eff #[true, true, true, true, true, true, true] (i := 6) rfl (by kernel_rfl) (fun K hK => ?_)
            refine Eq.mpr (if_pos (by rfl)) ?_; refine wp_store_run rfl rfl rfl rfl rst ?_; refine hK _ _ ?_; clear hK K
            refine wpR_done (by kernel_rfl) ?_ _
            simp only [OnlyN]
            go_wp2
            refine region_R [5] [] (fun _ => True) #[false, false, false, false, false, false] (by kernel_rfl) rfl rfl ?_
            refine wpR_rd 0 #[true, false, false, false, false, false] rfl onlyN_noPanic (by kernel_rfl) (fun K hK => ?_); (go_simp; try go_bits); refine hK _ ?_; clear hK K
            refine wpR_rd 1 #[true, true, false, false, false, false] rfl onlyN_noPanic (by kernel_rfl) (fun K hK => ?_); (go_simp; try go_bits); refine hK _ ?_; clear hK K
            refine wpR_rd 2 #[true, true, true, false, false, false] rfl onlyN_noPanic (by kernel_rfl) (fun K hK => ?_); (go_simp; try go_bits); refine hK _ ?_; clear hK K
            refine wpR_rd 3 #[true, true, true, true, false, false] rfl onlyN_noPanic (by kernel_rfl) (fun K hK => ?_); (go_simp; try go_bits); refine hK _ ?_; clear hK K
            refine wpR_read (i := 4) #[true, true, true, true, true, false] rfl onlyN_noPanic (by kernel_rfl) (.inl ⟨rfl, exec_load rfl rfl rl2⟩) ?_
            simp only [Act.put, List.setIfInBounds_toArray, List.set_cons_zero, List.set_cons_succ]
            refine wpR_eff #[true, true, true, true, true, true] (i := 5) rfl (by kernel_rfl) (fun K hK => ?_)
            go_simp
            refine hmx.mono ?_
            rintro e w10 ⟨rfl, h10⟩
            have H10 := Aside.mk h10.drop2
            clear hmx h10 H9 rl rl2 rst
            refine hK _ _ ?_; clear hK K
            refine wpR_done (by kernel_rfl) ?_ _
            simp only [OnlyN]
            go_wp2
            go_roundw
            case rel => exact ⟨k + 1, by omega, by push_cast; rfl, ⟨_, HGN.out, H10.out⟩⟩
            case measure => simp [intOf]; omega
          · obtain rfl : k = 3 := by omega
            obtain ⟨G, hG, hGS⟩ := HK.out
            have HN2 : Aside (∃ G, Grp l n G (g + 1) 0 ∧ Sat E wr (HP.pt bG (.cells (b8s G).toArray 102) * (HP.disk d B * q))) := ⟨G, grp_next hG hlt, hGS⟩
            clear hG hGS HK
            go_wp2
            go_roundw
            case rel => exact ⟨g + 1, by omega, by push_cast; rfl, HN2⟩
            case measure => simp [intOf]; omega
      · obtain rfl : g = n := by omega
        obtain ⟨G, hG, hGS⟩ := HG.out
        have HG := Aside.mk hG
        have HGS := Aside.mk hGS
        clear hG hGS
        have hnm := HQ.out.2.2.2.2.1
        have hfa : (name ++ dot0).size ≤ maxLen := by rw [(dot_size name).1]; exact hnm
        have hfb : (name ++ dot1).size ≤ maxLen := by rw [(dot_size name).2.1]; exact hnm
        have hfc : (name ++ dot2).size ≤ maxLen := by rw [(dot_size name).2.2.1]; exact hnm
        have hfd : (name ++ dotP).size ≤ maxLen := by rw [(dot_size name).2.2.2]; exact hnm
        have HF : Aside (fsS name l = [(name ++ dot0, paysS l g 0), (name ++ dot1, paysS l g 1), (name ++ dot2, paysS l g 2), (name ++ dotP, paysS l g 3)]) := ⟨by unfold fsS; rw [HQ.out.2.2.1, ← HN.out]⟩
        go_wp2_with fail
        refine (stripe_names E _ name _ hnm HGS.out).mono ?_
        rintro e w5 ⟨rfl, h5⟩
        obtain ⟨fa, hfae⟩ : ∃ fa, fa = name ++ dot0 := ⟨_, rfl⟩
        obtain ⟨fb, hfbe⟩ : ∃ fb, fb = name ++ dot1 := ⟨_, rfl⟩
        obtain ⟨fc, hfce⟩ : ∃ fc, fc = name ++ dot2 := ⟨_, rfl⟩
        obtain ⟨fd, hfde⟩ : ∃ fd, fd = name ++ dotP := ⟨_, rfl⟩
        rw [← hfae] at hfa HF ⊢
        rw [← hfbe] at hfb HF ⊢
        rw [← hfce] at hfc HF ⊢
        rw [← hfde] at hfd HF ⊢
        have H5 := Aside.mk h5
        clear h5 HGS hfae hfbe hfce hfde hnm hg hlt HN
        have i0 : ∀ w, (Instr.index 104 (.agg #[.string fa, .string fb, .string fc, .string fd]) (.int .i64 0)).run Tryz.prog w = .ok (.string fa) w := fun w => by kernel_rfl
        have i1 : ∀ w, (Instr.index 104 (.agg #[.string fa, .string fb, .string fc, .string fd]) (.int .i64 1)).run Tryz.prog w = .ok (.string fb) w := fun w => by kernel_rfl
        have i2 : ∀ w, (Instr.index 104 (.agg #[.string fa, .string fb, .string fc, .string fd]) (.int .i64 2)).run Tryz.prog w = .ok (.string fc) w := fun w => by kernel_rfl
        have i3 : ∀ w, (Instr.index 104 (.agg #[.string fa, .string fb, .string fc, .string fd]) (.int .i64 3)).run Tryz.prog w = .ok (.string fd) w := fun w => by kernel_rfl
        have hg31 : g ≤ 600000000000 := hn9
        go_wp2
        go_loopw [84] (fun v84 wr => ∃ (h : Nat) (B' : Dk), h ≤ 4 ∧ v84 = .int .i64 h ∧ Aside (wrT B' gen ((fsS name l).drop h) = wrT B gen (fsS name l)) ∧ Aside (Sat E wr (HP.pt bG (.cells (b8s G).toArray 102) * (HP.disk d B' * q)))) (fun i _ => 4 - (intOf i).toNat)
        case atStart => exact ⟨0, B, by omega, rfl, ⟨rfl⟩, H5⟩
        case round =>
          clear H5
          obtain ⟨h, B', hh, rfl, HA, HX⟩ := hrel
          by_cases hlt : h < 4
          · obtain ⟨f, hf, hff, hix⟩ : ∃ f : ByteArray, f.size ≤ maxLen ∧ (fsS name l).drop h = (f, paysS l g h) :: (fsS name l).drop (h + 1) ∧ ∀ w, (Instr.index 104 (.agg #[.string fa, .string fb, .string fc, .string fd]) (.int .i64 (h : Int))).run Tryz.prog w = .ok (.string f) w := by
              rw [HF.out]
              have hc : h = 0 ∨ h = 1 ∨ h = 2 ∨ h = 3 := by omega
              rcases hc with h0 | h0 | h0 | h0 <;> subst h0
              · exact ⟨fa, hfa, rfl, i0⟩
              · exact ⟨fb, hfb, rfl, i1⟩
              · exact ⟨fc, hfc, rfl, i2⟩
              · exact ⟨fd, hfd, rfl, i3⟩
            rw [hff] at HA
            clear hff
            have hlt2 : (h : Int) < 4 := by omega
            have HW : Aside (wrT B' gen ((f, paysS l g h) :: (fsS name l).drop (h + 1)) = if (wrF B' f gen 0 (paysS l g h)).1 = 0 then wrT (wrF B' f gen 0 (paysS l g h)).2 gen ((fsS name l).drop (h + 1)) else wrF B' f gen 0 (paysS l g h)) := ⟨rfl⟩
            go_wp2
            go_loopw [90] (fun v90 w2 => ∃ (i : Nat) (B2 : Dk), i ≤ g ∧ v90 = .int .i64 i ∧ Aside (wrF B2 f gen i ((paysS l g h).drop i) = wrF B' f gen 0 (paysS l g h)) ∧ Aside (Sat E w2 (HP.pt bG (.cells (b8s G).toArray 102) * (HP.disk d B2 * q)))) (fun i _ => g - (intOf i).toNat)
            case atStart => exact ⟨0, B', by omega, rfl, ⟨rfl⟩, HX⟩
            case round =>
              clear HX
              obtain ⟨i, B2, hi, rfl, HB, HTT⟩ := hrel
              by_cases hin : i < g
              · have hpk := paysS_drop l g h hin
                obtain ⟨z1, z2, z3⟩ := grp_pay HG.out hin hlt
                have HZ := Aside.mk (And.intro z1 (And.intro (payS_length l i h) (payS_bytes HQ.out.2.1 i h)))
                have hgl := HG.out.len
                have rl := run_loadAgg (P := Tryz.prog) agSlot (a := ⟨bG, i * 424 + h * 106, none⟩) (cs := b8s (sec G (4 * i + h))) (by rw [b8s_length]; exact z3) (Sat.ptCells (off := i * 424 + h * 106) (l := b8s (sec G (4 * i + h))) HTT.out (by
                  rw [b8s_length, z3, show i * 424 + h * 106 = 106 * (4 * i + h) by omega]
                  unfold b8s sec
                  rw [List.map_take, List.map_drop]))
                have hin2 : (i : Int) < g := by omega
                rw [hpk] at HB
                clear hpk z1
                generalize sec G (4 * i + h) = S at *
                obtain ⟨p, hp⟩ : ∃ p, p = payS l i h := ⟨_, rfl⟩
                rw [← hp] at HB HZ
                clear hp
                have HN2 : Aside (wrF B2 f gen i (p :: (paysS l g h).drop (i + 1)) = if ¬ FrameOk i gen p.length then (1, B2) else if (B2.write f i (extI f i gen p)).1 = 0 then wrF (B2.write f i (extI f i gen p)).2 f gen (i + 1) ((paysS l g h).drop (i + 1)) else B2.write f i (extI f i gen p)) := ⟨rfl⟩
                rw [HB.out] at HN2
                have HS3 := Aside.mk (And.intro z3 z2)
                clear z2 z3 hgl
                go_wp2_with (first | (refine wpList_load_run rfl rfl rfl rl ?_))
                refine (stripe_payload E _ h S _ hlt HS3.out.1 HS3.out.2 HTT.out).mono ?_
                intro e w6 h6
                obtain ⟨Ap6, c6, m6, R6, rfl, hm6, hm106, hmc6, hcm6, hs6, hc6⟩ := h6
                rw [HZ.out.1] at hm6 hc6
                have H6 := Aside.mk (And.intro hs6 (And.intro hc6 hm6))
                clear hs6 hc6 hm6 rl HTT HS3
                by_cases hi31 : i ≤ 2147483647
                rotate_left
                · rw [if_pos (by
                    intro hn
                    have := hn.2.1
                    omega)] at HN2
                  have HX2 : Aside (storeS A name gen l = (1, B2)) := ⟨by rw [HS.out, ← HA.out, HW.out, HN2.out, if_neg (show ¬ (1 : Int) = 0 by decide)]⟩
                  have H9 : Aside (Sat E w6 (HP.disk d B2 * q)) := ⟨H6.out.1.right.right⟩
                  clear HN2 HB HA HW H6 HZ
                  go_wp2_with fail
                  refine (ext_frame_bad f i gen Ap6 m6 c6 _ (by intro hn; have := hn.2.1; omega)).mono ?_
                  rintro e w7 ⟨rfl, hw7⟩
                  subst w7
                  go_wp2
                  go_ret
                  rw [HX2.out]
                  exact ⟨rfl, H9.out⟩
                rw [if_neg (by
                  intro hn
                  exact hn ⟨by omega, by omega, by omega, hgen, HZ.out.2.1⟩)] at HN2
                go_wp2_with fail
                refine (ext_frame E _ f i gen Ap6 p m6 c6 _ hf (by omega) hgen H6.out.2.2 hm106 HZ.out.2.2 (fun w' h => ⟨(HQ.out.1 w' h.right.right.right).1, H6.out.2.1 w' _ h⟩) H6.out.1).mono ?_
                rintro e w7 ⟨gI, rfl, h7⟩
                have hIl : (extI f i gen p).length = 128 := extI_length HZ.out.2.1
                obtain ⟨I, hIe⟩ : ∃ I, I = extI f i gen p := ⟨_, rfl⟩
                rw [← hIe] at hIl h7 HN2
                clear hIe
                have H7 : Aside (Sat E w7 (HP.disk d B2 * (HP.pt gI (.cells (b8s I).toArray 162) * (HP.pt bG (.cells (b8s G).toArray 102) * q)))) := ⟨(h7.perm (by ac_rfl : _ = R6 * (HP.disk d B2 * (HP.pt gI (.cells (b8s I).toArray 162) * (HP.pt bG (.cells (b8s G).toArray 102) * q))))).right⟩
                have HIL := Aside.mk hIl
                clear h7 H6 hIl HZ hm106 hmc6 hcm6
                go_wp2_with fail
                refine (disk_write E _ d B2 f i (some ⟨gI, 0, none⟩) I 128 128 _ hf HIL.out (by unfold maxLen; omega) (fun w h => Sat.ptCells (off := 0) h (by rw [List.drop_zero, List.take_length])) H7.out).mono ?_
                rintro e w8 ⟨rfl, h8⟩
                have H8 : Aside (Sat E w8 (HP.pt bG (.cells (b8s G).toArray 102) * (HP.disk d (B2.write f (i : Int) I).2 * q))) := ⟨(h8.perm (by ac_rfl : _ = HP.pt gI (.cells (b8s I).toArray 162) * (HP.pt bG (.cells (b8s G).toArray 102) * (HP.disk d (B2.write f (i : Int) I).2 * q)))).right⟩
                clear h8 H7
                by_cases h0 : (B2.write f (i : Int) I).1 = 0
                · rw [h0]
                  rw [if_pos h0] at HN2
                  generalize (B2.write f (i : Int) I).2 = B3 at *
                  have HX2 : Aside (wrF B3 f gen (i + 1) ((paysS l g h).drop (i + 1)) = wrF B' f gen 0 (paysS l g h)) := ⟨by rw [HN2.out]⟩
                  clear HN2 h0 HB
                  go_wp2
                  go_roundw
                  case rel => exact ⟨i + 1, B3, by omega, by push_cast; rfl, HX2, H8⟩
                  case measure => simp [intOf]; omega
                · rw [if_neg h0] at HN2
                  have HX2 : Aside (storeS A name gen l = B2.write f (i : Int) I) := ⟨by rw [HS.out, ← HA.out, HW.out, HN2.out, if_neg h0]⟩
                  obtain ⟨ec, hec⟩ : ∃ ec, ec = (B2.write f (i : Int) I).1 := ⟨_, rfl⟩
                  rw [← hec] at h0 ⊢
                  have HE := Aside.mk hec
                  clear HN2 hec HB HA HW
                  go_wp2
                  go_ret
                  rw [HX2.out, ← HE.out]
                  exact ⟨rfl, H8.out.right⟩
              · obtain rfl : i = g := by omega
                have hpl : (paysS l i h).drop i = [] := List.drop_eq_nil_of_le (by unfold paysS; rw [List.length_map, List.length_range]; exact Nat.le_refl _)
                rw [hpl] at HB
                clear hpl
                have HB2 : Aside (wrF B' f gen 0 (paysS l i h) = B2.sync f) := ⟨by rw [← HB.out]; rfl⟩
                rw [HB2.out] at HW
                clear HB hix i0 i1 i2 i3
                go_wp2_with fail
                refine (disk_sync E (HP.pt bG (.cells (b8s G).toArray 102) * q) d B2 f _ hf (HTT.out.perm (by ac_rfl))).mono ?_
                rintro e w7 ⟨rfl, h7⟩
                have H7 : Aside (Sat E w7 (HP.pt bG (.cells (b8s G).toArray 102) * (HP.disk d (B2.sync f).2 * q))) := ⟨h7.perm (by ac_rfl)⟩
                clear h7 HTT
                by_cases h0 : (B2.sync f).1 = 0
                · rw [h0]
                  rw [if_pos h0] at HW
                  have HX2 : Aside (wrT (B2.sync f).2 gen ((fsS name l).drop (h + 1)) = wrT B gen (fsS name l)) := ⟨by rw [← HA.out, HW.out]⟩
                  generalize (B2.sync f).2 = B3 at *
                  clear HW HA HB2 h0
                  go_wp2
                  go_roundw
                  case rel => exact ⟨h + 1, B3, by omega, by push_cast; rfl, HX2, H7⟩
                  case measure => simp [intOf]; omega
                · rw [if_neg h0] at HW
                  have HX2 : Aside (storeS A name gen l = B2.sync f) := ⟨by rw [HS.out, ← HA.out, HW.out]⟩
                  obtain ⟨ec, hec⟩ : ∃ ec, ec = (B2.sync f).1 := ⟨_, rfl⟩
                  rw [← hec] at h0 ⊢
                  have HE := Aside.mk hec
                  clear hec HB2 HA HW
                  go_wp2
                  go_ret
                  rw [HX2.out, ← HE.out]
                  exact ⟨rfl, H7.out.right⟩
          · obtain rfl : h = 4 := by omega
            rw [HF.out] at HA
            have HX2 : Aside (storeS A name gen l = (0, B')) := ⟨by rw [HS.out, HF.out, ← HA.out]; rfl⟩
            clear HA i0 i1 i2 i3
            go_wp2
            go_ret
            rw [HX2.out]
            exact ⟨rfl, HX.out.right⟩
  · rw [if_neg h0] at HS
    obtain ⟨ec, hec⟩ : ∃ ec, ec = (dropS A name).1 := ⟨_, rfl⟩
    rw [← hec] at h0 ⊢
    have HE := Aside.mk hec
    clear hec
    go_wp2
    go_ret
    rw [HS.out, HE.out]
    exact ⟨rfl, H2.out⟩
theorem zeros_one (z : Value) (n : Nat) (h : z.cells = #[z]) : Builtin.zeroCells z.cells n = (List.replicate n z).toArray := by
  unfold Builtin.zeroCells
  rw [h]
  apply Array.ext
  · simp
  · intro i h1 h2
    simp [Nat.mod_one]
theorem run_append_zeros {P : Program} {E : Env} {q : HP} {w : World} {v : Value} {n : Nat} {cs : List Value} {e t tn ty : TypeId} {i : TypeInfo} {z : Value} {kq kn : IntKind} {bytes : Nat} (ht : P.underlying t = some (.slice e)) (htn : P.underlying tn = some (.int kn)) (hi : P.info? e = some i) (hz : i.zero = some z)
    (hsize : i.size = 1) (hby : i.bytes = bytes) (hz1 : z.cells = #[z]) (hz2 : z.oneCell' = true)
    (h : Sat E w (row e 1 v n cs * q)) (k : Nat) (h0 : 0 < k) (h63 : n + k ≤ maxLen) (hbytes : (n + k) * bytes ≤ 140737488355328) :
    ∃ v' w', (Builtin.append_ #[t, tn] ty #[v, .int kq k]).run P w = .ok v' w' ∧ Sat E w' (row e 1 v' (n + k) (cs ++ List.replicate k z) * q) := by
  subst hby
  have hsmall : n + k ≤ 9223372036854775807 := by simp only [maxLen] at h63; omega
  have hcl := h.row_cases.1
  rw [Nat.mul_one] at hcl
  have hlen : (cs ++ List.replicate k z).length = n + k := by rw [List.length_append, hcl, List.length_replicate]
  have hkb : k * i.bytes ≤ 140737488355328 := by
    rw [Nat.add_mul] at hbytes
    omega
  have grown : ∀ (old : Nat), old < n + k → Sat E w q →
      Sat E (w.drew.alloc (.cells (cs.toArray ++ Builtin.zeroCells z.cells k ++ Builtin.zeroCells z.cells (grownCap w (n + k) old e - (n + k))) e)) (row e 1 (.slice (some ⟨w.heap.size, 0, none⟩) (n + k) (grownCap w (n + k) old e)) (n + k) (cs ++ List.replicate k z) * q) := by
    intro old ho hq
    have hge := grownCap_ge w (n + k) old e
    have hcm : grownCap w (n + k) old e ≤ maxLen := grownCap_le_maxLen w (n + k) old e h63
    have hs := Sat.row_mk (n := n + k) (cap := grownCap w (n + k) old e) (off := 0) (size := 1) (cs := cs ++ List.replicate k z) (hq.drew.alloc (.cells (cs.toArray ++ Builtin.zeroCells z.cells k ++ Builtin.zeroCells z.cells (grownCap w (n + k) old e - (n + k))) e)) hge hcm ?_ ?_
    · simpa using hs
    · simp only [Array.size_append, List.size_toArray, zeros_one z _ hz1, List.length_replicate, hcl]
      omega
    · rw [zeros_one z _ hz1, zeros_one z _ hz1]
      simp only [Array.toList_append, Nat.zero_mul, List.drop_zero, Nat.mul_one, ← hlen]
      exact List.take_left
  rcases h.row_cases.2 with ⟨B, hv, hn, hq⟩ | ⟨g, off, cap, cur, hv, hnc, hcm, hs, htk, hp⟩
  · subst hv
    subst hn
    have hx : cs = [] := List.eq_nil_of_length_eq_zero hcl
    subst hx
    have hgr := grown 0 (by omega) hq
    cases B with
    | none =>
      have hr := Lib.run_append_nil_zeros (P := P) w t tn ty e i z kq kn ht htn hi hz k h0 (by omega) (by omega) (by omega)
      simp only [Nat.zero_add, List.nil_append, Array.empty_append] at hgr ⊢
      exact ⟨_, _, hr, hgr⟩
    | some b =>
      have hold : (Builtin.firstCells i.size 0 (.slice (some b) 0 0)).run P w.drew = .ok ([] : List Value).toArray w.drew := by
        simp [Builtin.firstCells, loadCells, loadCellsFrom]
      have hr := Lib.run_append_grow_zeros (P := P) w t tn ty e i z kq kn ht htn hi hz (some b) 0 0 [] hold k h0 (by omega) (by omega) (by omega) (by omega) (growslice_fits (by omega) (by simpa using hbytes))
      simp only [Nat.zero_add, List.nil_append, Array.empty_append] at hgr hr ⊢
      exact ⟨_, _, hr, hgr⟩
  · subst hv
    simp only [Nat.mul_one] at hs htk h ⊢
    have hcells : ∀ j u, cs[j]? = some u → w.cell? ((⟨g, off, none⟩ : Addr).add j) = some u := h.row_cells.some_
    by_cases hroom : n + k ≤ cap
    · have hfit : off + n + (List.replicate k z).length ≤ cur.size := by rw [List.length_replicate]; omega
      have hst := run_storeCells_at P g (off + n) e (List.replicate k z) 0 cur w hp.get (by simpa using hfit) (fun u hu => by rw [List.eq_of_mem_replicate hu]; exact hz2)
      simp only [Nat.add_zero] at hst
      have hneg : ¬ ((k : Int) < 0) := by omega
      have hk63 : IntKind.i64.wrap (k : Int) = k := by rw [IntKind.wrap_i64]; omega
      have h48i : ¬ (281474976710656 < (k : Int) * (i.bytes : Int)) := by
        rw [← Int.natCast_mul]
        omega
      have hkn : k ≠ 0 := by omega
      refine ⟨.slice (some ⟨g, off, none⟩) (n + k) cap, w.setRow g (cur.toList.take (off + n) ++ List.replicate k z ++ cur.toList.drop (off + n + (List.replicate k z).length)).toArray, ?_, ?_⟩
      · simp [Builtin.append_, run_underlying ht, run_underlying htn, sizeOf, typeInfo, zeroValue, hi, hz, asInt, asIntOf, hk63, hneg, h48i, hsize, hkn, hroom, Addr.add_lit, zeros_one z _ hz1, hst]
      · have ht' := hp.turn (w' := w.setRow g (cur.toList.take (off + n) ++ List.replicate k z ++ cur.toList.drop (off + n + (List.replicate k z).length)).toArray) (o' := .cells (cur.toList.take (off + n) ++ List.replicate k z ++ cur.toList.drop (off + n + (List.replicate k z).length)).toArray e) ⟨rfl, rfl, rfl, by simp⟩
          (setRow_heap w g cur _ e _ hp.get) (fun j hj _ => setRow_other w g j _ hj)
        have hm := ht'.row_mk (off := off) (size := 1) (n := n + k) (cap := cap) (cs := cs ++ List.replicate k z) hroom hcm ?_ ?_
        · simpa using hm
        · simp only [List.size_toArray, List.length_append, List.length_take, List.length_drop, Array.length_toList, List.length_replicate]
          omega
        · have := splice_take cur.toList (List.replicate k z) off n (by simpa using hfit)
          rw [htk, List.length_replicate] at this
          simp only [Nat.mul_one, List.length_replicate]
          exact this
    · have hold : (Builtin.firstCells i.size n (.slice (some ⟨g, off, none⟩) n cap)).run P w.drew = .ok cs.toArray w.drew := by
        have := run_firstCells_some (P := P) w.drew i.size n ⟨g, off, none⟩ n cap cs (by rw [hsize, hcl]; omega) (fun j u hj => hcells j u hj)
        exact this
      have hr := Lib.run_append_grow_zeros (P := P) w t tn ty e i z kq kn ht htn hi hz (some ⟨g, off, none⟩) n cap cs hold k h0 (by omega) (by omega) (by omega) (by omega) (growslice_fits (by omega) hbytes)
      exact ⟨_, _, hr, grown cap (by omega) hp.right⟩
theorem wpList_append_zeros {P : Program} {E : Env} {q : HP} {w : World} {v : Value} {n : Nat} {cs : List Value} {e t tn : TypeId} {z : Value} {kq kn : IntKind} {bytes : Nat} {ops : Array Oper} {rest : List Oper} {o : Oper} {a : Act} {Q : Exit → Act → World → Prop} {s x : Operand} (T : SlTy P t e z 1 bytes) (htn : P.underlying tn = some (.int kn)) (hz1 : z.cells = #[z]) (hz2 : z.oneCell' = true) (hgd : o.guard = none)
    (ho : o.op = .call { callee := .builtin .append, args := #[s, x], argTypes := #[t, tn] }) {k : Nat} (hs : a.eval s = v) (hx : a.eval x = .int kq k)
    (h : Sat E w (row e 1 v n cs * q)) (h0 : 0 < k) (h63 : n + k ≤ maxLen) (hbytes : (n + k) * bytes ≤ 140737488355328)
    (hk : ∀ v' w', Sat E w' (row e 1 v' (n + k) (cs ++ List.replicate k z) * q) → wpList P ops Q rest (a.put o.dst v') w') : wpList P ops Q (o :: rest) a w := by
  obtain ⟨i, hi, hz, hsize, hby⟩ := info_parts T.info
  obtain ⟨v', w', hr, h2⟩ := run_append_zeros (P := P) (ty := o.type) (kq := kq) T.under htn hi hz hsize hby hz1 hz2 h k h0 h63 hbytes
  exact Lib.wpList_append_run w hgd s x t tn ho v (.int kq k) hs hx v' w' hr (hk v' w' h2)
theorem run_append_zeros0 {P : Program} {E : Env} {q : HP} {w : World} {v : Value} {n : Nat} {cs : List Value} {e t tn ty : TypeId} {i : TypeInfo} {z : Value} {kq kn : IntKind} {bytes : Nat} (ht : P.underlying t = some (.slice e)) (htn : P.underlying tn = some (.int kn)) (hi : P.info? e = some i) (hz : i.zero = some z)
    (hsize : i.size = 1) (hby : i.bytes = bytes) (h : Sat E w (row e 1 v n cs * q)) : (Builtin.append_ #[t, tn] ty #[v, .int kq 0]).run P w = .ok v w := by
  obtain ⟨A, c, rfl, hnc, hcm⟩ := h.row_slice
  have hw0 : IntKind.i64.wrap 0 = 0 := by rw [IntKind.wrap_i64]; omega
  cases A <;> simp [Builtin.append_, run_underlying ht, run_underlying htn, sizeOf, typeInfo, zeroValue, hi, hz, asInt, asIntOf, hsize, hnc, hw0, storeCells]
theorem wpList_append_zeros_any {P : Program} {E : Env} {q : HP} {w : World} {v : Value} {n : Nat} {cs : List Value} {e t tn : TypeId} {z : Value} {kq kn : IntKind} {bytes : Nat} {ops : Array Oper} {rest : List Oper} {o : Oper} {a : Act} {Q : Exit → Act → World → Prop} {s x : Operand} (T : SlTy P t e z 1 bytes) (htn : P.underlying tn = some (.int kn)) (hz1 : z.cells = #[z]) (hz2 : z.oneCell' = true) (hgd : o.guard = none)
    (ho : o.op = .call { callee := .builtin .append, args := #[s, x], argTypes := #[t, tn] }) {k : Nat} (hs : a.eval s = v) (hx : a.eval x = .int kq k)
    (h : Sat E w (row e 1 v n cs * q)) (h63 : n + k ≤ maxLen) (hbytes : (n + k) * bytes ≤ 140737488355328)
    (hk : ∀ v' w', Sat E w' (row e 1 v' (n + k) (cs ++ List.replicate k z) * q) → wpList P ops Q rest (a.put o.dst v') w') : wpList P ops Q (o :: rest) a w := by
  rcases Nat.eq_zero_or_pos k with h0 | h0
  · subst h0
    obtain ⟨i, hi, hz, hsize, hby⟩ := info_parts T.info
    have hr := run_append_zeros0 (P := P) (ty := o.type) (kq := kq) T.under htn hi hz hsize hby h
    exact Lib.wpList_append_run w hgd s x t tn ho v (.int kq 0) hs hx v w hr (hk v w (by simpa using h))
  · exact wpList_append_zeros T htn hz1 hz2 hgd ho hs hx h h0 h63 hbytes hk
theorem results_ct {P : Program} {fn : Func} {t u : Tmp} {ty : TypeId} (h : fn.results = #[.cell t ty, .tmp u]) {tmps : Array Value} {w : World} {a : Addr} {V : Value} (ha : tmps.getD t undef = .pointer (some a)) (hr : (loadVar ty a).run P w = .ok V w) : (results fn tmps).run P w = .ok (.tuple #[V, tmps.getD u undef]) w := by
  have ha' : tmps[t]?.getD undef = .pointer (some a) := by simpa using ha
  unfold results
  rw [h]
  simp [ha', asAddr, hr]
def slotZ : List Int := List.replicate 106 0
def readT (file : Nat) (p : List Int) : List Int × Bool := if file = 3 then (p ++ List.replicate (106 - p.length) 0, decide (p.length = 106)) else (slotI (p.take 105), decide (p.length ≤ 105))
def readS (A : Dk) (f : ByteArray) (file : Nat) (gen i : Int) : List Int × Bool :=
  match A.cel f i with
  | none => (slotZ, false)
  | some c => match openI c.read f i with
    | none => (slotZ, false)
    | some x => if (x.2 : Int) ≠ gen then (slotZ, false) else readT file x.1
theorem readT_length (file : Nat) {p : List Int} (h : p.length ≤ 106) : (readT file p).1.length = 106 := by
  unfold readT
  split
  · simp only [List.length_append, List.length_replicate]; omega
  · exact slotI_length (by rw [List.length_take]; omega)
theorem readS_length (A : Dk) (f : ByteArray) (file : Nat) (gen i : Int) : (readS A f file gen i).1.length = 106 := by
  unfold readS
  split
  · rfl
  · split
    · rfl
    · rename_i x hx
      split
      · rfl
      · exact readT_length file (openI_gen (p := x.1) (g := x.2) hx).2
theorem run_store_slot {E : Env} {q : HP} {w : World} {g : Nat} {Z S : List Int} (hZ : Z.length = 106) (hS : S.length = 106) (h : Sat E w (HP.pt g (.cells (b8s Z).toArray 100) * q)) :
    ∃ w', (storeVar 100 ⟨g, 0, none⟩ (.agg (b8s S).toArray)).run Tryz.prog w = .ok () w' ∧ Sat E w' (HP.pt g (.cells (b8s S).toArray 100) * q) := by
  have r2 := run_storeAgg agSlot (g := g) (off := 0) (cs := b8s S) h.get (by rw [b8s_length]; exact hS) (by simp [b8s_length, hZ]) (b8s_one S)
  have h2 := h.splice (splice (b8s Z).toArray.toList 0 (b8s S))
  have e : splice (b8s Z).toArray.toList 0 (b8s S) = b8s S := by
    unfold splice
    rw [List.take_zero, List.nil_append, Nat.zero_add, List.drop_of_length_le (by simp [b8s_length, hS, hZ]), List.append_nil]
  rw [e] at h2 r2
  exact ⟨_, r2, h2⟩
theorem run_load_slot {E : Env} {q : HP} {w : World} {g : Nat} {S : List Int} (hS : S.length = 106) (h : Sat E w (HP.pt g (.cells (b8s S).toArray 100) * q)) : (loadVar 100 ⟨g, 0, none⟩).run Tryz.prog w = .ok (.agg (b8s S).toArray) w :=
  run_loadAgg agSlot (by rw [b8s_length]; exact hS) (Sat.ptCells (off := 0) (l := b8s S) h (by rw [List.drop_zero, List.take_length]))
theorem run_arraySlot (a : Option Addr) (n c : Nat) (h : 106 ≤ n) (w : World) : (Instr.arrayAt 100 (.slice a n c)).run Tryz.prog w = .ok (.pointer a) w := by
  have : ¬ n < 106 := by omega
  simp [Instr.arrayAt, run_underlying Tryz.underlying100, this]
set_option maxHeartbeats 4000000 in
set_option maxRecDepth 100000 in
theorem stripe_read (E : Env) (q : HP) (d : Nat) (A : Dk) (f : ByteArray) (file : Nat) (gen i : Int) (w : World) (hf : f.size ≤ maxLen) (hfl : file < 4) (hby : ∀ c, A.cel f i = some c → Bytes c.read)
    (hq : ∀ w, Sat E w q → Quarter w) (hw : Sat E w (HP.disk d A * q)) :
    Calls Tryz.prog 120 #[.pointer (some ⟨d, 0, none⟩), .string f, .int .i64 file, .int .i64 gen, .int .i64 i] w fun e w' => e = .returned (.tuple #[.agg (b8s (readS A f file gen i).1).toArray, .bool (readS A f file gen i).2]) ∧ Sat E w' (HP.disk d A * q) := by
  have h0 := hw.alloc (.cells Tryz.zeroCells100 100)
  rw [← zero_slot] at h0
  have H0 : Aside (Sat E (w.alloc (.cells Tryz.zeroCells100 100)) (HP.disk d A * (HP.pt w.heap.size (.cells (b8s slotZ).toArray 100) * q))) := ⟨by rw [← zero_slot]; exact h0.perm (by show HP.pt _ (.cells (b8s slotZ).toArray _) * (HP.disk d A * q) = _; ac_rfl)⟩
  have HQ := Aside.mk (And.intro hq hby)
  have HZL : Aside (slotZ.length = 106) := ⟨List.length_replicate ..⟩
  have hz2 : Tryz.zeroCells100 = (b8s slotZ).toArray := zero_slot.symm
  have HZ2 := Aside.mk hz2
  clear hz2 h0 hw hq hby
  go_enter Tryz.func120, Tryz.ntmps120
  go_wp2_with fail
  refine (disk_read_ok E _ d A f i _ hf H0.out).mono ?_
  intro e w3 h3
  generalize w.heap.size = r at *
  unfold readEnd at h3
  cases hc : A.cel f i with
  | none =>
    rw [hc] at h3
    obtain ⟨rfl, h3⟩ := h3
    have HR : Aside (readS A f file gen i = (slotZ, false)) := ⟨by unfold readS; rw [hc]⟩
    obtain ⟨w4, hr4, h4⟩ := run_store_slot HZL.out HZL.out (h3.perm (by ac_rfl : _ = HP.pt r (.cells (b8s slotZ).toArray 100) * (HP.disk d A * q)))
    have rl := run_load_slot HZL.out h4
    have H4 := Aside.mk h4.right
    rw [← HZ2.out] at hr4
    clear h3 h4 hc
    go_wp2_with (first | (refine wpList_store_run rfl rfl rfl rfl rfl hr4 ?_))
    refine bodyPost_ret (results_ct rfl rfl rl) rfl ?_
    rw [HR.out]
    exact ⟨rfl, H4.out⟩
  | some cl =>
    rw [hc] at h3
    obtain ⟨vr, rfl, h3⟩ := h3
    have hbr := HQ.out.2 cl hc
    obtain ⟨Ar, cr, rfl, hcr, -⟩ := h3.row_slice
    have hl128 : cl.read.length = 128 := by
      have := h3.row_cases.1
      rw [b8s_length] at this
      exact this
    have HR0 : Aside (readS A f file gen i = match openI cl.read f i with
      | none => (slotZ, false)
      | some x => if (x.2 : Int) ≠ gen then (slotZ, false) else readT file x.1) := ⟨by unfold readS; rw [hc]⟩
    have H3 := Aside.mk (And.intro h3 (And.intro hbr hl128))
    clear h3 hbr hl128 hc H0
    go_wp2_with fail
    refine (ext_open E _ f i Ar cl.read 128 cr _ hf H3.out.2.2 hcr H3.out.2.1 (fun w h => ⟨HQ.out.1 _ h.right.right.right, h.row_cells⟩) H3.out.1).mono ?_
    rintro e w4 (⟨ho, rfl, h4⟩ | ⟨p, G, vp, ho, rfl, h4⟩)
    · have HR : Aside (readS A f file gen i = (slotZ, false)) := ⟨by rw [HR0.out, ho]⟩
      obtain ⟨w5, hr5, h5⟩ := run_store_slot HZL.out HZL.out (h4.right.perm (by ac_rfl : _ = HP.pt r (.cells (b8s slotZ).toArray 100) * (HP.disk d A * q)))
      have rl := run_load_slot HZL.out h5
      have H5 := Aside.mk h5.right
      rw [← HZ2.out] at hr5
      clear h4 h5 ho HR0 H3
      go_wp2_with (first | (refine wpList_store_run rfl rfl rfl rfl rfl hr5 ?_))
      refine bodyPost_ret (results_ct rfl rfl rl) rfl ?_
      rw [HR.out]
      exact ⟨rfl, H5.out⟩
    · have hgp := openI_gen ho
      have HR1 : Aside (readS A f file gen i = if (G : Int) ≠ gen then (slotZ, false) else readT file p) := ⟨by rw [HR0.out, ho]⟩
      obtain ⟨Av, cv, rfl, hcv, hmv⟩ := h4.row_slice
      have h5 : Sat E w4 (HP.row 5 1 (.slice Av p.length cv) p.length (b8s p) * (HP.pt r (.cells (b8s slotZ).toArray 100) * (HP.disk d A * q))) := (h4.perm (by ac_rfl : _ = HP.row 5 1 (.slice Ar 128 cr) 128 (b8s cl.read) * (HP.row 5 1 (.slice Av p.length cv) p.length (b8s p) * (HP.pt r (.cells (b8s slotZ).toArray 100) * (HP.disk d A * q))))).right
      clear h4 ho HR0 H3 hcr
      by_cases hG : (G : Int) = gen
      · have HR2 : Aside (readS A f file gen i = readT file p) := ⟨by rw [HR1.out, if_neg (fun h => h hG)]⟩
        obtain ⟨n, hn⟩ : ∃ n, n = p.length := ⟨_, rfl⟩
        have hn6 : n ≤ 106 := by rw [hn]; exact hgp.2
        rw [← hn] at h5 hcv ⊢
        have HN := Aside.mk hn
        have hgg : ((G : Int) == gen) = true := by rw [hG]; exact beq_self_eq_true _
        subst hG
        clear hn hgp HR1
        by_cases h3f : file = 3
        · subst h3f
          have H5 := Aside.mk h5
          clear h5
          obtain ⟨S, hS⟩ : ∃ S, S = p ++ List.replicate (106 - n) 0 := ⟨_, rfl⟩
          have hSl : S.length = 106 := by rw [hS, List.length_append, List.length_replicate, ← HN.out]; omega
          have hcs : b8s p ++ List.replicate (106 - n) (.int .u8 0) = b8s S := by rw [hS]; unfold b8s; rw [List.map_append, List.map_replicate]
          have hn1 : n + (106 - n) = 106 := by omega
          obtain ⟨bb, hbb⟩ : ∃ bb, bb = decide (n = 106) := ⟨_, rfl⟩
          have hb1 : ((n : Int) == 106) = bb := by rw [hbb]; by_cases h : n = 106 <;> simp [h] <;> omega
          have HT : Aside (readT 3 p = (S, bb)) := ⟨by unfold readT; rw [if_pos rfl, hS, hbb, HN.out]⟩
          have HS := Aside.mk (And.intro hSl (And.intro hcs hn1))
          clear hSl hcs hn1 hS hbb
          go_wp2_with (first | (refine wpList_load_run rfl rfl rfl rl6 ?_) | (refine wpList_store_run rfl rfl rfl rfl rfl hr7 ?_) | (at_builtin; refine wpList_append_zeros_any slB8 Tryz.underlying3 (by rfl) (by rfl) rfl rfl (k := 106 - n) (by rfl) (by show Value.int .i64 (106 - (n : Int)) = _; congr 1; omega) H5.out (by unfold maxLen; omega) (by omega) (fun v6 w6 hw6 => ?_); rw [HS.out.2.2, HS.out.2.1] at hw6; obtain ⟨A6, c6, rfl, hc6, hm6⟩ := hw6.row_slice; obtain ⟨a6, rfl, -⟩ := hw6.row_cells.at_ 0 (by rw [b8s_length, HS.out.1]; decide); obtain ⟨g6, o6, rfl⟩ := slice_addr hw6.row_cells rfl (k := 0) (by rw [b8s_length, HS.out.1]; decide); have ar := run_arraySlot (some ⟨g6, o6, none⟩) 106 c6 (by omega) w6; have rl6 := run_loadAgg (P := Tryz.prog) agSlot (by rw [b8s_length]; exact HS.out.1) hw6.row_cells; obtain ⟨w7, hr7, h7⟩ := run_store_slot HZL.out HS.out.1 hw6.right; have rl7 := run_load_slot HS.out.1 h7; have H7 := Aside.mk h7.right; clear hw6 h7 H5))
          refine bodyPost_ret (results_ct rfl rfl rl7) rfl ?_
          rw [HR2.out, HT.out]
          exact ⟨rfl, H7.out⟩
        · have h3i : ((file : Int) == 3) = false := by rw [beq_eq_false_iff_ne]; omega
          have h3j : ¬ (file : Int) = 3 := by omega
          have H5 := Aside.mk h5
          clear h5
          obtain ⟨m, hm⟩ : ∃ m, m = min n 105 := ⟨_, rfl⟩
          have hm1 : (if 105 < (n : Int) then 105 else (n : Int)) = (m : Int) := by split <;> omega
          have hm2 : min (n : Int) 105 = (m : Int) := by omega
          have hmn : m ≤ n := by omega
          have hm5 : m ≤ 105 := by omega
          have hmc : m ≤ cv := by omega
          obtain ⟨bb, hbb⟩ : ∃ bb, bb = decide (n ≤ 105) := ⟨_, rfl⟩
          have hb1 : decide ((n : Int) ≤ 105) = bb := by rw [hbb]; by_cases h : n ≤ 105 <;> simp [h] <;> omega
          have HT : Aside (readT file p = (slotI (p.take m), bb)) := ⟨by
            unfold readT
            have e : p.take m = p.take 105 := by rw [hm, Nat.min_comm, ← List.take_take, List.take_of_length_le (show p.length ≤ n by rw [HN.out]; exact Nat.le_refl _)]
            rw [if_neg h3f, hbb, ← HN.out, e]⟩
          have HPL : Aside ((p.take m).length = m) := ⟨by rw [List.length_take, ← HN.out]; omega⟩
          have HC : Aside (∀ w', Sat E w' (HP.row 5 1 (.slice Av n cv) n (b8s p) * (HP.pt r (.cells (b8s slotZ).toArray 100) * (HP.disk d A * q))) → Cells w' Av (b8s (p.take m))) := ⟨fun w' h => by
            have := h.row_cells.take m
            unfold b8s at this ⊢
            rw [List.map_take]; exact this⟩
          clear hbb hm
          go_wp2_with fail
          refine (stripe_of E _ Av (p.take m) m cv _ HPL.out hm5 HC.out H5.out).mono ?_
          rintro e w6 ⟨rfl, h6⟩
          have hS := slotI_length (p := p.take m) (by rw [HPL.out]; exact hm5)
          obtain ⟨w7, hr7, h7⟩ := run_store_slot HZL.out hS h6.right
          have rl7 := run_load_slot hS h7
          have H7 := Aside.mk h7.right
          clear h6 h7 H5 hS hm1 hm2
          go_wp2_with (first | (refine wpList_store_run rfl rfl rfl rfl rfl hr7 ?_))
          refine bodyPost_ret (results_ct rfl rfl rl7) rfl ?_
          rw [HR2.out, HT.out]
          exact ⟨rfl, H7.out⟩
      · have HR : Aside (readS A f file gen i = (slotZ, false)) := ⟨by rw [HR1.out, if_pos hG]⟩
        have hgg : ((G : Int) == gen) = false := by rw [beq_eq_false_iff_ne]; exact hG
        obtain ⟨w6, hr6, h6⟩ := run_store_slot HZL.out HZL.out h5.right
        have rl := run_load_slot HZL.out h6
        have H6 := Aside.mk h6.right
        rw [← HZ2.out] at hr6
        clear h5 h6 HR1 hgp hcv hmv
        go_wp2_with (first | (refine wpList_store_run rfl rfl rfl rfl rfl hr6 ?_))
        refine bodyPost_ret (results_ct rfl rfl rl) rfl ?_
        rw [HR.out]
        exact ⟨rfl, H6.out⟩
def gCells (G : List Int) (R : List Bool) (n : Nat) : List Value := b8s G ++ (R.map Value.bool ++ [.int .i64 n])
theorem gCells_length {G : List Int} {R : List Bool} (n : Nat) (hG : G.length = 424) (hR : R.length = 4) : (gCells G R n).length = 429 := by
  unfold gCells
  rw [List.length_append, List.length_append, b8s_length, List.length_map, hG, hR]
  rfl
theorem gCells_one (G : List Int) (R : List Bool) (n : Nat) : (gCells G R n).all Value.oneCell' = true := by
  unfold gCells
  rw [List.all_append, b8s_one, Bool.true_and, List.all_append]
  simp [Value.oneCell']
theorem agGrp : AgTy Tryz.prog 115 429 := ⟨⟨_, Tryz.underlying115, rfl⟩, by kernel_rfl⟩
theorem zero_grp : (gCells (List.replicate 424 0) (List.replicate 4 false) 0).toArray = Tryz.zeroCells115 := by kernel_rfl
theorem gCells_right {G : List Int} {R : List Bool} {n k : Nat} {b : Bool} (hG : G.length = 424) (hR : R[k]? = some b) : (gCells G R n).toArray[424 + k]? = some (.bool b) := by
  rw [List.getElem?_toArray]
  unfold gCells
  have hk : k < R.length := (List.getElem?_eq_some_iff.1 hR).1
  rw [List.getElem?_append_right (by rw [b8s_length]; omega), b8s_length, hG, Nat.add_sub_cancel_left, List.getElem?_append_left (by rw [List.length_map]; exact hk), List.getElem?_map, hR]
  rfl
theorem gCells_bad {G : List Int} {R : List Bool} (n : Nat) (hG : G.length = 424) (hR : R.length = 4) : (gCells G R n).toArray[428]? = some (.int .i64 n) := by
  rw [List.getElem?_toArray]
  unfold gCells
  rw [List.getElem?_append_right (by rw [b8s_length]; omega), b8s_length, hG, List.getElem?_append_right (by rw [List.length_map]; omega), List.length_map, hR]
  rfl
theorem gCells_setR {G : List Int} {R : List Bool} {n k : Nat} (b : Bool) (hG : G.length = 424) (hk : k < R.length) : (gCells G R n).toArray.setIfInBounds (424 + k) (.bool b) = (gCells G (R.set k b) n).toArray := by
  rw [List.setIfInBounds_toArray]
  unfold gCells
  rw [List.set_append_right _ _ (by rw [b8s_length]; omega), b8s_length, hG, Nat.add_sub_cancel_left, List.set_append_left _ _ (by rw [List.length_map]; exact hk), List.map_set]
theorem gCells_setN {G : List Int} {R : List Bool} {n : Nat} (m : Nat) (hG : G.length = 424) (hR : R.length = 4) : (gCells G R n).toArray.setIfInBounds 428 (.int .i64 (m : Int)) = (gCells G R m).toArray := by
  rw [List.setIfInBounds_toArray]
  unfold gCells
  rw [List.set_append_right _ _ (by rw [b8s_length]; omega), b8s_length, hG, List.set_append_right _ _ (by rw [List.length_map]; omega), List.length_map, hR]
  rfl
theorem gCells_spl {G S : List Int} {R : List Bool} {n k : Nat} (hG : G.length = 424) (hk : k < 4) (hS : S.length = 106) : splice (gCells G R n) (106 * k) (b8s S) = gCells (splS G k S) R n := by
  unfold splice gCells splS
  rw [b8s_length, hS, List.take_append_of_le_length (by rw [b8s_length]; omega), List.drop_append_of_le_length (by rw [b8s_length]; omega), b8s_append, b8s_append]
  unfold b8s
  simp only [List.map_take, List.map_drop, List.append_assoc]
theorem gCells_sec {G : List Int} {R : List Bool} {n k : Nat} (hG : G.length = 424) (hk : k < 4) : ((gCells G R n).drop (106 * k)).take 106 = b8s (sec G k) := by
  unfold gCells sec
  rw [List.drop_append_of_le_length (by rw [b8s_length]; omega), List.take_append_of_le_length (by rw [List.length_drop, b8s_length]; omega)]
  unfold b8s
  rw [List.map_take, List.map_drop]
def slotOf (A : Dk) (x : ByteArray) (gen i : Int) (k : Nat) : List Int × Bool := readS A (stripeF x k) k gen i
def badN (A : Dk) (x : ByteArray) (gen i : Int) : Nat → Nat
  | 0 => 0
  | k + 1 => badN A x gen i k + (if (slotOf A x gen i k).2 = true then 0 else 1)
theorem badN_le (A : Dk) (x : ByteArray) (gen i : Int) : ∀ k, badN A x gen i k ≤ k
  | 0 => Nat.le_refl _
  | k + 1 => by
    have := badN_le A x gen i k
    rw [badN]
    split <;> omega
structure Looked (A : Dk) (x : ByteArray) (gen i : Int) (k : Nat) (G : List Int) (R : List Bool) (n : Nat) : Prop where
  len : G.length = 424
  rlen : R.length = 4
  slot : ∀ j, j < k → sec G j = (slotOf A x gen i j).1
  right : ∀ j, j < k → R[j]? = some (slotOf A x gen i j).2
  bad : n = badN A x gen i k
theorem looked_start (A : Dk) (x : ByteArray) (gen i : Int) : Looked A x gen i 0 (List.replicate 424 0) (List.replicate 4 false) 0 := ⟨List.length_replicate .., List.length_replicate .., fun j h => by omega, fun j h => by omega, rfl⟩
theorem looked_step {A : Dk} {x : ByteArray} {gen i : Int} {k : Nat} {G : List Int} {R : List Bool} {n : Nat} (h : Looked A x gen i k G R n) (hk : k < 4) : Looked A x gen i (k + 1) (splS G k (slotOf A x gen i k).1) (R.set k (slotOf A x gen i k).2) (n + (if (slotOf A x gen i k).2 = true then 0 else 1)) := by
  have hS : (slotOf A x gen i k).1.length = 106 := readS_length _ _ _ _ _
  have hl := h.len
  refine ⟨by rw [spl_length hS (by omega), hl], by rw [List.length_set, h.rlen], fun j hj => ?_, fun j hj => ?_, by rw [badN, h.bad]⟩
  · rw [sec_spl hS (by omega) (by omega)]
    split
    · rename_i e
      rw [e]
    · exact h.slot j (by omega)
  · rw [List.getElem?_set]
    by_cases e : k = j
    · subst e
      rw [if_pos rfl, if_pos (by rw [h.rlen]; exact hk)]
    · rw [if_neg e]
      exact h.right j (by omega)
def lookEnd (E : Env) (q : HP) (A : Dk) (x : ByteArray) (gen i : Int) (e : Ending) (w' : World) : Prop := ∃ G R n, e = .returned (.agg (gCells G R n).toArray) ∧ Looked A x gen i 4 G R n ∧ Sat E w' q
set_option maxHeartbeats 4000000 in
set_option maxRecDepth 100000 in
theorem stripe_look (E : Env) (q : HP) (d : Nat) (A : Dk) (name : ByteArray) (gen i : Int) (w : World) (hname : name.size + 2 ≤ maxLen) (hby : ∀ k, k < 4 → ∀ c, A.cel (stripeF name k) i = some c → Bytes c.read)
    (hq : ∀ w, Sat E w q → Quarter w) (hw : Sat E w (HP.disk d A * q)) :
    Calls Tryz.prog 70 #[.pointer (some ⟨d, 0, none⟩), .string name, .int .i64 gen, .int .i64 i] w (lookEnd E (HP.disk d A * q) A name gen i) := by
  have h0 := (hw.alloc (.cells Tryz.zeroCells115 115)).alloc (.cells Tryz.zeroCells115 115)
  rw [show (w.alloc (.cells Tryz.zeroCells115 115)).heap.size = w.heap.size + 1 by simp] at h0
  have HQ := Aside.mk (And.intro hq hby)
  obtain ⟨Z, hZ⟩ : ∃ Z, Z = Tryz.zeroCells115 := ⟨_, rfl⟩
  have HZ : Aside (Z = (gCells (List.replicate 424 0) (List.replicate 4 false) 0).toArray) := ⟨by rw [hZ]; exact zero_grp.symm⟩
  rw [← hZ] at h0
  have H0 := Aside.mk h0
  have hfa : (name ++ dot0).size ≤ maxLen := by rw [(dot_size name).1]; exact hname
  have hfb : (name ++ dot1).size ≤ maxLen := by rw [(dot_size name).2.1]; exact hname
  have hfc : (name ++ dot2).size ≤ maxLen := by rw [(dot_size name).2.2.1]; exact hname
  have hfd : (name ++ dotP).size ≤ maxLen := by rw [(dot_size name).2.2.2]; exact hname
  have HF : Aside (stripeF name 0 = name ++ dot0 ∧ stripeF name 1 = name ++ dot1 ∧ stripeF name 2 = name ++ dot2 ∧ stripeF name 3 = name ++ dotP) := ⟨rfl, rfl, rfl, rfl⟩
  have HZ9 := Aside.mk hZ
  clear h0 hw hq hby
  go_enter Tryz.func70, Tryz.ntmps70
  go_wp2_with fail
  rw [← HZ9.out]
  refine (stripe_names E _ name _ hname H0.out).mono ?_
  rintro e w1 ⟨rfl, h1⟩
  obtain ⟨fa, hfae⟩ : ∃ fa, fa = name ++ dot0 := ⟨_, rfl⟩
  obtain ⟨fb, hfbe⟩ : ∃ fb, fb = name ++ dot1 := ⟨_, rfl⟩
  obtain ⟨fc, hfce⟩ : ∃ fc, fc = name ++ dot2 := ⟨_, rfl⟩
  obtain ⟨fd, hfde⟩ : ∃ fd, fd = name ++ dotP := ⟨_, rfl⟩
  rw [← hfae] at hfa HF ⊢
  rw [← hfbe] at hfb HF ⊢
  rw [← hfce] at hfc HF ⊢
  rw [← hfde] at hfd HF ⊢
  have i0 : ∀ w, (Instr.index 104 (.agg #[.string fa, .string fb, .string fc, .string fd]) (.int .i64 0)).run Tryz.prog w = .ok (.string fa) w := fun w => by kernel_rfl
  have i1 : ∀ w, (Instr.index 104 (.agg #[.string fa, .string fb, .string fc, .string fd]) (.int .i64 1)).run Tryz.prog w = .ok (.string fb) w := fun w => by kernel_rfl
  have i2 : ∀ w, (Instr.index 104 (.agg #[.string fa, .string fb, .string fc, .string fd]) (.int .i64 2)).run Tryz.prog w = .ok (.string fc) w := fun w => by kernel_rfl
  have i3 : ∀ w, (Instr.index 104 (.agg #[.string fa, .string fb, .string fc, .string fd]) (.int .i64 3)).run Tryz.prog w = .ok (.string fd) w := fun w => by kernel_rfl
  have H1 : Aside (∃ G R n, Looked A name gen i 0 G R n ∧ Sat E w1 (HP.pt (w.heap.size + 1) (.cells (gCells G R n).toArray 115) * (HP.pt w.heap.size (.cells Z 115) * (HP.disk d A * q)))) := ⟨_, _, _, looked_start A name gen i, by rw [← HZ.out]; exact h1⟩
  clear h1 hfae hfbe hfce hfde H0 hZ
  generalize w.heap.size + 1 = b at *
  generalize w.heap.size = r at *
  go_wp2
  go_loopw [14] (fun v14 wr => ∃ k : Nat, k ≤ 4 ∧ v14 = .int .i64 k ∧ Aside (∃ G R n, Looked A name gen i k G R n ∧ Sat E wr (HP.pt b (.cells (gCells G R n).toArray 115) * (HP.pt r (.cells Z 115) * (HP.disk d A * q))))) (fun i _ => 4 - (intOf i).toNat)
  case atStart => exact ⟨0, by omega, rfl, H1⟩
  case round =>
    clear H1
    obtain ⟨k, hk, rfl, HK⟩ := hrel
    by_cases hlt : k < 4
    · obtain ⟨f, hf, hff, hix⟩ : ∃ f : ByteArray, f.size ≤ maxLen ∧ stripeF name k = f ∧ ∀ w, (Instr.index 104 (.agg #[.string fa, .string fb, .string fc, .string fd]) (.int .i64 (k : Int))).run Tryz.prog w = .ok (.string f) w := by
        have hc : k = 0 ∨ k = 1 ∨ k = 2 ∨ k = 3 := by omega
        rcases hc with h0 | h0 | h0 | h0 <;> subst h0
        · exact ⟨fa, hfa, HF.out.1, i0⟩
        · exact ⟨fb, hfb, HF.out.2.1, i1⟩
        · exact ⟨fc, hfc, HF.out.2.2.1, i2⟩
        · exact ⟨fd, hfd, HF.out.2.2.2, i3⟩
      obtain ⟨G, R, n, hG, hS⟩ := HK.out
      have hby := HQ.out.2 k hlt
      have HST := Aside.mk (looked_step hG hlt)
      have hSl : (slotOf A name gen i k).1.length = 106 := readS_length _ _ _ _ _
      have hso : readS A f k gen i = slotOf A name gen i k := by unfold slotOf; rw [hff]
      have hn4 : n ≤ 4 := by
        have := hG.bad
        have := badN_le A name gen i k
        omega
      rw [hff] at hby
      have HG := Aside.mk (And.intro hG.len (And.intro hG.rlen (And.intro hSl (And.intro hso hby))))
      have hS2 : Sat E wr (HP.disk d A * (HP.pt b (.cells (gCells G R n).toArray 115) * (HP.pt r (.cells Z 115) * q))) := hS.perm (by ac_rfl)
      have HS := Aside.mk hS2
      clear hG hS hS2 hby hSl hso hff HK i0 i1 i2 i3
      have hlt2 : (k : Int) < 4 := by omega
      go_wp2_with fail
      refine (stripe_read E _ d A f k gen i _ hf hlt HG.out.2.2.2.2 (fun w h => HQ.out.1 w h.right.right) HS.out).mono ?_
      rintro e w3 ⟨rfl, h3⟩
      rw [HG.out.2.2.2.1]
      have hSl := HG.out.2.2.1
      generalize slotOf A name gen i k = so at *
      obtain ⟨S, rt⟩ := so
      dsimp only at *
      have h4 : Sat E w3 (HP.pt b (.cells (gCells G R n).toArray 115) * (HP.pt r (.cells Z 115) * (HP.disk d A * q))) := h3.perm (by ac_rfl)
      have hr4 := run_storeAgg agSlot (g := b) (off := 106 * k) (cs := b8s S) h4.get (by rw [b8s_length]; exact hSl) (by rw [List.size_toArray, gCells_length n HG.out.1 HG.out.2.1]; omega) (b8s_one S)
      have h5 := h4.splice (splice (gCells G R n).toArray.toList (106 * k) (b8s S))
      have e5 : splice (gCells G R n).toArray.toList (106 * k) (b8s S) = gCells (splS G k S) R n := gCells_spl HG.out.1 hlt hSl
      rw [e5] at h5 hr4
      rw [Nat.mul_comm] at hr4
      generalize World.setRow w3 b (gCells (splS G k S) R n).toArray = w5 at *
      have hG5 : (splS G k S).length = 424 := by rw [spl_length hSl (by have := HG.out.1; omega), HG.out.1]
      have g5 : w5.cell? ⟨b, 424 + k, none⟩ = some (.bool (R[k]'(by rw [HG.out.2.1]; exact hlt))) := by rw [h5.cell (424 + k)]; exact gCells_right hG5 (List.getElem?_eq_getElem _)
      generalize (R[k]'(by rw [HG.out.2.1]; exact hlt)) = ob at g5
      have t5 : w5.frozen? ⟨b, 424 + k, none⟩ = false := h5.thaw (424 + k)
      have h6 := h5.set (i := 424 + k) (.bool rt)
      rw [gCells_setR rt hG5 (by rw [HG.out.2.1]; exact hlt)] at h6
      have hR6 : (R.set k rt)[k]? = some rt := by rw [List.getElem?_set_self (by rw [HG.out.2.1]; exact hlt)]
      have hRl : (R.set k rt).length = 4 := by rw [List.length_set]; exact HG.out.2.1
      have g6 : (w5.setCell ⟨b, 424 + k, none⟩ (.bool rt)).cell? ⟨b, 424 + k, none⟩ = some (.bool rt) := by rw [h6.cell (424 + k)]; exact gCells_right hG5 hR6
      have g7 : (w5.setCell ⟨b, 424 + k, none⟩ (.bool rt)).cell? ⟨b, 428, none⟩ = some (.int .i64 n) := by rw [h6.cell 428]; exact gCells_bad n hG5 hRl
      have t7 : (w5.setCell ⟨b, 424 + k, none⟩ (.bool rt)).frozen? ⟨b, 428, none⟩ = false := h6.thaw 428
      have H6 := Aside.mk (And.intro h6 (And.intro hG5 hRl))
      clear h3 h4 h5 h6 e5 hG5 hR6 hRl hSl HS
      cases rt with
      | true =>
        simp only [if_true] at HST
        have H8 : Aside (∃ G R n, Looked A name gen i (k + 1) G R n ∧ Sat E (w5.setCell ⟨b, 424 + k, none⟩ (.bool true)) (HP.pt b (.cells (gCells G R n).toArray 115) * (HP.pt r (.cells Z 115) * (HP.disk d A * q)))) := ⟨_, _, _, HST.out, H6.out.1⟩
        clear HST H6 t7 g7 HG
        go_wp2_with (first | (refine wpList_store_run rfl rfl rfl rfl rfl hr4 ?_))
        go_roundw
        case rel => exact ⟨k + 1, by omega, by push_cast; rfl, H8⟩
        case measure => simp [intOf]; omega
      | false =>
        have H8 : Aside (∃ G' R' n', Looked A name gen i (k + 1) G' R' n' ∧ Sat E ((w5.setCell ⟨b, 424 + k, none⟩ (.bool false)).setCell ⟨b, 428, none⟩ (.int .i64 ((n + 1 : Nat) : Int))) (HP.pt b (.cells (gCells G' R' n').toArray 115) * (HP.pt r (.cells Z 115) * (HP.disk d A * q)))) := ⟨_, _, n + 1, HST.out, by
          have h := H6.out.1.set (i := 428) (.int .i64 ((n + 1 : Nat) : Int))
          rw [gCells_setN (n + 1) H6.out.2.1 H6.out.2.2] at h
          exact h⟩
        push_cast at H8
        clear HST H6 HG
        go_wp2_with (first | (refine wpList_store_run rfl rfl rfl rfl rfl hr4 ?_))
        go_roundw
        case rel => exact ⟨k + 1, by omega, by push_cast; rfl, H8⟩
        case measure => simp [intOf]; omega
    · obtain rfl : k = 4 := by omega
      obtain ⟨G, R, n, hG, hS⟩ := HK.out
      have rl := run_loadAgg (P := Tryz.prog) agGrp (gCells_length n hG.len hG.rlen) (Sat.ptCells (off := 0) (l := gCells G R n) hS (by rw [List.drop_zero, List.take_length]))
      have h2 := hS.s2
      rw [HZ.out] at h2
      have hr2 := run_storeAgg agGrp (g := r) (off := 0) (cs := gCells G R n) h2.get (gCells_length n hG.len hG.rlen) (by rw [List.size_toArray, gCells_length 0 (List.length_replicate ..) (List.length_replicate ..)]; exact Nat.le_refl _) (gCells_one G R n)
      have h3 := h2.splice (splice (gCells (List.replicate 424 0) (List.replicate 4 false) 0).toArray.toList 0 (gCells G R n))
      have e3 : splice (gCells (List.replicate 424 0) (List.replicate 4 false) 0).toArray.toList 0 (gCells G R n) = gCells G R n := by
        unfold splice
        rw [List.take_zero, List.nil_append, Nat.zero_add, List.drop_of_length_le (by rw [show (gCells (List.replicate 424 0) (List.replicate 4 false) 0).toArray.toList.length = 429 from gCells_length 0 (List.length_replicate ..) (List.length_replicate ..), gCells_length n hG.len hG.rlen]; exact Nat.le_refl _), List.append_nil]
      rw [e3] at h3 hr2
      generalize World.setRow wr r (gCells G R n).toArray = w4 at *
      have rl4 := run_loadAgg (P := Tryz.prog) agGrp (gCells_length n hG.len hG.rlen) (Sat.ptCells (off := 0) (l := gCells G R n) h3 (by rw [List.drop_zero, List.take_length]))
      have H3 := Aside.mk (And.intro h3 hG)
      clear hG hS h2 h3 e3 HK i0 i1 i2 i3
      obtain ⟨C, hC⟩ : ∃ C, C = (gCells G R n).toArray := ⟨_, rfl⟩
      rw [← hC] at rl hr2 rl4
      have HC := Aside.mk hC
      clear hC
      go_wp2_with (first | (refine wpList_load_run rfl rfl rfl rl ?_) | (refine wpList_store_run rfl rfl rfl rfl rfl hr2 ?_))
      refine bodyPost_ret (results_cell (t := 8) rfl rfl rl4) rfl ?_
      exact ⟨G, R, n, by rw [HC.out], H3.out.2, H3.out.1.right.right⟩
end Go.Proofs.YtnpinegpajbkeaaGreatDoor
