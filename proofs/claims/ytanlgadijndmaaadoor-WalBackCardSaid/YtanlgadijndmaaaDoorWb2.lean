/- strconv.Itoa, laid at this program (printed by the kit's own tool). -/
import Derived.Test.YtanlgadijndmaaaDoorWb1
import Derived.Test.YtanlgadijndmaaaDoorProg
import Derived.Shelf.Strconv.Itoa3
import Derived.Shelf.Spec.SlicesGrow
namespace Go.Proofs.YtanlgadijndmaaaDoor
open Go.Shelf Go.RowKit HP
set_option linter.unusedSimpArgs false
set_option linter.unusedVariables false

def laysItoa_ren : Go.Shelf.Ren := ⟨fun | 171 => 69 | 243 => 117 | 246 => 148 | 283 => 170 | 284 => 171 | 285 => 172 | 286 => 173 | 129 => 146 | 317 => 183 | 318 => 184 | 319 => 185 | 320 => 186 | 337 => 198 | 338 => 199 | n => n, fun | 3 => 3 | 9 => 9 | 2 => 2 | 4 => 4 | 171 => 234 | 0 => 0 | 53 => 152 | 37 => 52 | 5 => 5 | 173 => 236 | 212 => 250 | 51 => 210 | 20 => 20 | 213 => 251 | 46 => 60 | 232 => 264 | 233 => 265 | n => n, fun | 17 => 1 | 18 => 4 | 19 => 5 | n => n⟩
theorem laysItoa : Go.Proofs.LaysM.n171 Tryd.prog laysItoa_ren := {
  mixed := by kernel_rfl
  f129 := Tryd.func146.trans (congrArg some (by kernel_rfl))
  f171 := Tryd.func69.trans (congrArg some (by kernel_rfl))
  f243 := Tryd.func117.trans (congrArg some (by kernel_rfl))
  f246 := Tryd.func148.trans (congrArg some (by kernel_rfl))
  f283 := Tryd.func170.trans (congrArg some (by kernel_rfl))
  f284 := Tryd.func171.trans (congrArg some (by kernel_rfl))
  f285 := Tryd.func172.trans (congrArg some (by kernel_rfl))
  f286 := Tryd.func173.trans (congrArg some (by kernel_rfl))
  f317 := Tryd.func183.trans (congrArg some (by kernel_rfl))
  f318 := Tryd.func184.trans (congrArg some (by kernel_rfl))
  f319 := Tryd.func185.trans (congrArg some (by kernel_rfl))
  f320 := Tryd.func186.trans (congrArg some (by kernel_rfl))
  f337 := Tryd.func198.trans (congrArg some (by kernel_rfl))
  f338 := Tryd.func199.trans (congrArg some (by kernel_rfl))
  t0 := Tryd.underlying0
  a0 := Tryd.isAgg0
  z0 := Tryd.sizeOf0
  v0 := Tryd.zeroValue0
  t2 := Tryd.underlying2
  a2 := Tryd.isAgg2
  z2 := Tryd.sizeOf2
  v2 := Tryd.zeroValue2
  t3 := Tryd.underlying3
  a3 := Tryd.isAgg3
  z3 := Tryd.sizeOf3
  v3 := Tryd.zeroValue3
  t4 := Tryd.underlying4
  a4 := Tryd.isAgg4
  z4 := Tryd.sizeOf4
  v4 := Tryd.zeroValue4
  t5 := Tryd.underlying5
  a5 := Tryd.isAgg5
  z5 := Tryd.sizeOf5
  v5 := Tryd.zeroValue5
  t9 := Tryd.underlying9
  a9 := Tryd.isAgg9
  z9 := Tryd.sizeOf9
  v9 := Tryd.zeroValue9
  t20 := Tryd.underlying20
  a20 := Tryd.isAgg20
  z20 := Tryd.sizeOf20
  v20 := Tryd.zeroValue20
  t37 := Tryd.underlying52
  a37 := Tryd.isAgg52
  z37 := Tryd.sizeOf52
  v37 := Tryd.zeroValue52
  t46 := Tryd.underlying60
  a46 := Tryd.isAgg60
  z46 := Tryd.sizeOf60
  v46 := Tryd.zeroValue60
  t51 := Tryd.underlying210
  a51 := Tryd.isAgg210
  z51 := Tryd.sizeOf210
  v51 := Tryd.zeroValue210
  t53 := Tryd.underlying152
  a53 := Tryd.isAgg152
  z53 := Tryd.sizeOf152
  v53 := Tryd.zeroValue152
  t171 := Tryd.underlying234
  a171 := Tryd.isAgg234
  z171 := Tryd.sizeOf234
  v171 := Tryd.zeroValue234
  t173 := Tryd.underlying236
  a173 := Tryd.isAgg236
  z173 := Tryd.sizeOf236
  v173 := Tryd.zeroValue236
  t212 := Tryd.underlying250
  a212 := Tryd.isAgg250
  z212 := Tryd.sizeOf250
  v212 := Tryd.zeroValue250
  t213 := Tryd.underlying251
  a213 := Tryd.isAgg251
  z213 := Tryd.sizeOf251
  t232 := Tryd.underlying264
  a232 := Tryd.isAgg264
  z232 := Tryd.sizeOf264
  v232 := Tryd.zeroValue264
  t233 := Tryd.underlying265
  a233 := Tryd.isAgg265
  z233 := Tryd.sizeOf265
  v233 := Tryd.zeroValue265
  g17 := by kernel_rfl
  g18 := by kernel_rfl
  g19 := by kernel_rfl
  i0 := by kernel_rfl
  i2 := by kernel_rfl
  i3 := by kernel_rfl
  i4 := by kernel_rfl
  i5 := by kernel_rfl
  i9 := by kernel_rfl
  i20 := by kernel_rfl
  i37 := by kernel_rfl
  i46 := by kernel_rfl
  i51 := by kernel_rfl
  i53 := by kernel_rfl
  i171 := by kernel_rfl
  i173 := by kernel_rfl
  i212 := by kernel_rfl
  i232 := by kernel_rfl
  i233 := by kernel_rfl
  m17 := by kernel_rfl
  m18 := by kernel_rfl
  m19 := by kernel_rfl }
theorem Sat.grown {E : Env} {q : HP} : ∀ (l : List Obj) {w : World}, Sat E w q → Sat E (Go.Sort.grow w l.toArray) q
  | [], w, h => by
    have : Go.Sort.grow w ([] : List Obj).toArray = w := by simp [Go.Sort.grow]
    rw [this]; exact h
  | o :: l, w, h => by
    have h1 : Sat E (w.alloc o) q := (h.alloc o).right
    have h2 := Sat.grown l h1
    rw [Go.Sort.alloc_eq_grow, Go.Sort.grow_grow] at h2
    have e : #[o] ++ l.toArray = (o :: l).toArray := by simp
    rw [e] at h2; exact h2
theorem itoa_ok (E : Env) (q : HP) (n : Int) (w : World) (hn : wf64 n) (ht : ∀ w, Sat E w q → Lib.TabIs Tryd.prog w "internal/strconv.uint64pow10" .u64 Lib.pow10Tab) (hw : Sat E w q) :
    Calls Tryd.prog 69 #[.int .i64 n] w fun e w' => e = .returned (.string ⟨(Lib.itoa n).toArray⟩) ∧ Sat E w' q := by
  refine (Any.strconv_Itoa laysItoa n hn.1 hn.2 w (ht w hw)).mono ?_
  rintro e w' ⟨rfl, k, os, rfl⟩
  refine ⟨rfl, ?_⟩
  have := Sat.grown os.toList (hw.drewN (n := k))
  simpa using this
end Go.Proofs.YtanlgadijndmaaaDoor
/- dryrotref17.Digits, Names; anchor.Names. -/
namespace Go.Proofs.YtanlgadijndmaaaDoor
open Go.RowKit HP
set_option linter.unusedSimpArgs false
set_option linter.unusedVariables false

def decB (m : Nat) : ByteArray := ⟨(Lib.decDigits m).toArray⟩
def digB (d : Nat) : ByteArray := ⟨#[UInt8.ofNat (48 + d)]⟩
theorem decB_small {m : Nat} (h : m < 10) : decB m = digB m := by
  unfold decB digB Lib.decDigits
  rw [dif_pos h]
theorem decB_more {m : Nat} (h : ¬ m < 10) : decB m = decB (m / 10) ++ digB (m % 10) := by
  unfold decB digB
  rw [Lib.decDigits, dif_neg h]
  apply ByteArray.ext
  simp
theorem decB_size : ∀ (k u : Nat), u < 10 ^ (k + 1) → (decB u).size ≤ k + 1
  | 0, u, h => by rw [decB_small (by omega)]; exact Nat.le_refl _
  | k + 1, u, h => by
    by_cases h10 : u < 10
    · rw [decB_small h10]
      show 1 ≤ k + 1 + 1
      omega
    · rw [decB_more h10, ByteArray.size_append]
      have h2 : u / 10 < 10 ^ (k + 1) := by
        rw [Nat.pow_succ] at h
        omega
      have := decB_size k (u / 10) h2
      show _ + 1 ≤ k + 1 + 1
      omega
theorem app_assoc (a b c : ByteArray) : a ++ b ++ c = a ++ (b ++ c) := by
  apply ByteArray.ext
  simp [Array.append_assoc]
end Go.Proofs.YtanlgadijndmaaaDoor
/- wal, the plain part: what is appended, and what is read of it. -/
namespace Go.Proofs.YtanlgadijndmaaaDoor
open Go.RowKit HP
set_option linter.unusedSimpArgs false
set_option linter.unusedVariables false

def chunkW (n : Nat) : Nat := (n + 105) / 106
def pieceW (l : List Int) (k : Nat) : List Int := (l.drop (106 * k)).take 106
def piecesW (l : List Int) : List (List Int) := (List.range (chunkW l.length)).map (pieceW l)
def wneedI (s : Int) : Int := if s < 1 ∨ 1000000 < s then 0 else (s + 109) / 106
def textW (b : List Int) : List Int := putI b.length 4 ++ b
def wB : ByteArray := ⟨#[119]⟩
def nameW (seg : Int) : ByteArray := wB ++ decB seg.toNat
def AppOk (seg at_ lsn : Int) (n : Int) : Prop := n ≠ 0 ∧ 0 ≤ seg ∧ seg ≤ 4611686018427387904 ∧ 0 ≤ lsn ∧ lsn ≤ 4611686018427387904 ∧ 0 ≤ at_ ∧ at_ ≤ 2147483647 - n
instance (seg at_ lsn n : Int) : Decidable (AppOk seg at_ lsn n) := by unfold AppOk; infer_instance
def appendW (A : Dk) (seg at_ lsn : Int) (b : List Int) : (Int × Int) × Dk :=
  if AppOk seg at_ lsn (wneedI b.length) then
    (if (wrP A (nameW seg) at_.toNat lsn.toNat (piecesW (textW b))).1 = 0 then (wneedI b.length, 0) else (0, (wrP A (nameW seg) at_.toNat lsn.toNat (piecesW (textW b))).1), (wrP A (nameW seg) at_.toNat lsn.toNat (piecesW (textW b))).2)
  else ((0, 1), A)
def moreW (A : Dk) (name : ByteArray) (g : Int) (en : Nat) : Nat → Nat → List Int → List Int → Option (List Int × Nat)
  | 0, at_, _, text => some (text, at_)
  | c + 1, at_, last, text => if last.length = 106 ∧ at_ < en ∧ 0 ≤ (getP A name at_).1 ∧ (getP A name at_).1 = g then moreW A name g en c (at_ + 1) (getP A name at_).2 (text ++ (getP A name at_).2) else none
def sizeW (p : List Int) : Nat := getN (p.take 4)
def recW (A : Dk) (name : ByteArray) (en at_ : Nat) : Option (List Int × Nat) :=
  if at_ < en ∧ 0 ≤ (getP A name at_).1 ∧ 4 ≤ (getP A name at_).2.length then
    match moreW A name (getP A name at_).1 en (wneedI (sizeW (getP A name at_).2) - 1).toNat (at_ + 1) (getP A name at_).2 (getP A name at_).2 with
    | none => none
    | some (t, a) => if wneedI (sizeW (getP A name at_).2) ≠ 0 ∧ t.length = sizeW (getP A name at_).2 + 4 then some (t.drop 4, a) else none
  else none
def readG (A : Dk) (name : ByteArray) (en : Nat) : Nat → Nat → List (List Int) → Option (List (List Int))
  | 0, _, out => some out
  | c + 1, at_, out => if at_ < en then (match recW A name en at_ with | none => none | some (t, a) => readG A name en c a (out ++ [t])) else some out
theorem textW_length (b : List Int) : (textW b).length = b.length + 4 := by
  unfold textW
  rw [List.length_append, putI_length]
  omega
theorem textW_bytes {b : List Int} (hb : Bytes b) : Bytes (textW b) := (putI_bytes _ _).append hb
theorem wneed_chunk {n : Nat} (h1 : 1 ≤ n) (h2 : n ≤ 1000000) : wneedI n = (chunkW (n + 4) : Int) := by
  unfold wneedI chunkW
  rw [if_neg (by omega)]
  omega
theorem piecesW_length (l : List Int) : (piecesW l).length = chunkW l.length := by unfold piecesW; rw [List.length_map, List.length_range]
theorem piecesW_at {l : List Int} {k : Nat} (h : k < chunkW l.length) : (piecesW l)[k]? = some (pieceW l k) := by
  unfold piecesW
  rw [List.getElem?_map, List.getElem?_range h]
  rfl
theorem pieceW_length (l : List Int) (k : Nat) : (pieceW l k).length = min 106 (l.length - 106 * k) := by
  unfold pieceW
  rw [List.length_take, List.length_drop]
theorem piecesW_mem {l p : List Int} (h : p ∈ piecesW l) : p.length ≤ 106 ∧ ∀ x ∈ p, x ∈ l := by
  obtain ⟨k, -, rfl⟩ := List.mem_map.1 h
  exact ⟨by rw [pieceW_length]; omega, fun x hx => List.mem_of_mem_drop (List.mem_of_mem_take hx)⟩
/-- An extent stands at a place, whatever else the disk has. -/
def HasAt (B : Dk) (f : ByteArray) (i0 gen : Nat) (ps : List (List Int)) : Prop := ∀ k p, ps[k]? = some p → ∃ c, B.cel f ((i0 + k : Nat) : Int) = some c ∧ c.read = extI f (i0 + k) gen p
structure HasBoth (B : Dk) (x : ByteArray) (i0 gen : Nat) (ps : List (List Int)) : Prop where
  a : HasAt B (x ++ dotA) i0 gen ps
  b : HasAt B (x ++ dotB) i0 gen ps
theorem has_get {B : Dk} {x : ByteArray} {i0 gen k : Nat} {ps : List (List Int)} {p : List Int} (h : HasBoth B x i0 gen ps) (hg : gen ≤ 4611686018427387904) (hk : i0 + k ≤ 2147483647) (hp : ps[k]? = some p) (hl : p.length ≤ 106) : getP B x ((i0 + k : Nat) : Int) = ((gen : Int), p) := by
  obtain ⟨ca, ha, ra⟩ := h.a k p hp
  obtain ⟨cb, hb, rb⟩ := h.b k p hp
  have oa := openI_extI (f := x ++ dotA) (i := i0 + k) hk hg hl
  have ob := openI_extI (f := x ++ dotB) (i := i0 + k) hk hg hl
  rw [← ra] at oa
  rw [← rb] at ob
  unfold getP halvesL
  simp only [List.foldl_cons, List.foldl_nil]
  rw [show getF B ((i0 + k : Nat) : Int) (-1, []) (x ++ dotA) = ((gen : Int), p) by simp only [getF, ha, oa]; rw [if_neg (by show ¬ (gen : Int) ≤ -1; omega)]]
  simp only [getF, hb, ob]
  rw [if_pos (Int.le_refl _)]
theorem none_get {B : Dk} {x : ByteArray} {i : Int} (ha : B.cel (x ++ dotA) i = none) (hb : B.cel (x ++ dotB) i = none) : (getP B x i).1 = -1 := by
  unfold getP halvesL
  simp only [List.foldl_cons, List.foldl_nil, getF, ha, hb]
section
variable {B : Dk} {x : ByteArray} {i0 gen en : Nat} {l : List Int}
theorem more_has (h : HasBoth B x i0 gen (piecesW l)) (hg : gen ≤ 4611686018427387904) (hm : i0 + chunkW l.length ≤ 2147483647) (he : i0 + chunkW l.length ≤ en) :
    ∀ (c k : Nat), 1 ≤ k → k + c = chunkW l.length → moreW B x gen en c (i0 + k) (pieceW l (k - 1)) (l.take (106 * k)) = some (l, i0 + chunkW l.length)
  | 0, k, _, hk => by
    unfold moreW
    have : l.take (106 * k) = l := List.take_of_length_le (by unfold chunkW at hk; omega)
    rw [this, show i0 + k = i0 + chunkW l.length by omega]
  | c + 1, k, h1, hk => by
    have hlt : k < chunkW l.length := by omega
    have hg2 := has_get (k := k) h hg (by omega) (piecesW_at hlt) (by rw [pieceW_length]; omega)
    unfold moreW
    rw [hg2]
    rw [if_pos ⟨by rw [pieceW_length]; unfold chunkW at hlt; omega, by omega, by show (0 : Int) ≤ gen; omega, rfl⟩]
    have ih := more_has h hg hm he c (k + 1) (by omega) (by omega)
    rw [Nat.add_sub_cancel] at ih
    have e : l.take (106 * k) ++ pieceW l k = l.take (106 * (k + 1)) := by
      unfold pieceW
      rw [show 106 * (k + 1) = 106 * k + 106 by omega, List.take_add]
    dsimp only
    rw [e, show i0 + k + 1 = i0 + (k + 1) by omega]
    exact ih
theorem more_cut (h : HasBoth B x i0 gen (piecesW l)) (hg : gen ≤ 4611686018427387904) (hm : i0 + chunkW l.length ≤ 2147483647) (he : en < i0 + chunkW l.length) :
    ∀ (c k : Nat), 1 ≤ k → k + c = chunkW l.length → i0 + k ≤ en → ∀ last text, moreW B x gen en c (i0 + k) last text = none
  | 0, k, _, hk, hen, last, text => by omega
  | c + 1, k, h1, hk, hen, last, text => by
    unfold moreW
    by_cases hc : last.length = 106 ∧ i0 + k < en ∧ 0 ≤ (getP B x ((i0 + k : Nat) : Int)).1 ∧ (getP B x ((i0 + k : Nat) : Int)).1 = gen
    · rw [if_pos hc, show i0 + k + 1 = i0 + (k + 1) by omega]
      exact more_cut h hg hm he c (k + 1) (by omega) (by omega) (by omega) _ _
    · rw [if_neg hc]
end
theorem pieceW_zero {b : List Int} : (pieceW (textW b) 0).take 4 = putI b.length 4 := by
  unfold pieceW
  rw [Nat.mul_zero, List.drop_zero, List.take_take, show min 4 106 = 4 from rfl]
  unfold textW
  rw [List.take_left' (putI_length _ _)]
theorem sizeW_piece {b : List Int} (h : b.length < 4294967296) : sizeW (pieceW (textW b) 0) = b.length := by
  unfold sizeW
  rw [pieceW_zero, getN_putI 4 _ (by omega)]
theorem textW_drop (b : List Int) : (textW b).drop 4 = b := by
  unfold textW
  rw [List.drop_left' (putI_length _ _)]
/-- A record that is there is read; one that ends behind what is asked is not. -/
theorem rec_has {B : Dk} {x : ByteArray} {i0 gen en : Nat} {b : List Int} (h1 : 1 ≤ b.length) (h2 : b.length ≤ 1000000) (h : HasBoth B x i0 gen (piecesW (textW b))) (hg : gen ≤ 4611686018427387904) (hm : i0 + chunkW (b.length + 4) ≤ 2147483647) (hi : i0 < en) :
    recW B x en i0 = if i0 + chunkW (b.length + 4) ≤ en then some (b, i0 + chunkW (b.length + 4)) else none := by
  have hc : chunkW (textW b).length = chunkW (b.length + 4) := by rw [textW_length]
  have h0 : 0 < chunkW (b.length + 4) := by unfold chunkW; omega
  have hg0 := has_get (k := 0) h hg (by omega) (piecesW_at (by rw [hc]; exact h0)) (by rw [pieceW_length]; omega)
  rw [Nat.add_zero] at hg0
  unfold recW
  rw [hg0]
  dsimp only
  rw [if_pos ⟨hi, by omega, by rw [pieceW_length, textW_length]; omega⟩, sizeW_piece (by omega), wneed_chunk h1 h2]
  rw [show ((chunkW (b.length + 4) : Int) - 1).toNat = chunkW (b.length + 4) - 1 by omega]
  by_cases he : i0 + chunkW (b.length + 4) ≤ en
  · have hm2 := more_has (en := en) h hg (by rw [hc]; exact hm) (by rw [hc]; exact he) (chunkW (b.length + 4) - 1) 1 (Nat.le_refl _) (by rw [hc]; omega)
    rw [show (1 : Nat) - 1 = 0 from rfl, Nat.mul_one, show (textW b).take 106 = pieceW (textW b) 0 by unfold pieceW; rw [Nat.mul_zero, List.drop_zero]] at hm2
    rw [hm2]
    dsimp only
    rw [if_pos ⟨by omega, textW_length b⟩, if_pos he, hc, textW_drop]
  · have hm2 := more_cut (en := en) h hg (by rw [hc]; exact hm) (by rw [hc]; omega) (chunkW (b.length + 4) - 1) 1 (Nat.le_refl _) (by rw [hc]; omega) (by omega) (pieceW (textW b) 0) (pieceW (textW b) 0)
    rw [hm2, if_neg he]
end Go.Proofs.YtanlgadijndmaaaDoor
/- wal, the plain part: records on a new disk. -/
namespace Go.Proofs.YtanlgadijndmaaaDoor
open Go.RowKit HP
set_option linter.unusedSimpArgs false
set_option linter.unusedVariables false

structure NewHas (room : Int) (x : ByteArray) (gen : Nat) (ps : List (List Int)) (B : Dk) : Prop where
  eq : wrP (Dk.new room) x 0 gen ps = (0, B)
  held : Holds B x gen ps
  has : HasBoth B x 0 gen ps
  free : B.free = room - 2 * ps.length
  fuse : B.fuse = -1
  sorted : Sorted B.files
  bytes : ∀ f ∈ halvesL x, ∀ i c, B.cel f i = some c → Bytes c.read
theorem holds_bytes {B : Dk} {x : ByteArray} {gen : Nat} {ps : List (List Int)} (h : Holds B x gen ps) (hl : ∀ p ∈ ps, p.length ≤ 106) (hb : ∀ p ∈ ps, Bytes p) : ∀ f ∈ halvesL x, ∀ i c, B.cel f i = some c → Bytes c.read := by
  have key : ∀ f, B.at f = (newCels f gen 0 ps).map Cel.syncd → ∀ i c, B.cel f i = some c → Bytes c.read := by
    intro f hf i c hc
    have hc2 := hc
    unfold Dk.cel at hc
    split at hc
    · rename_i h0
      rw [hf, List.getElem?_map] at hc
      have hlt : i.toNat < ps.length := by
        refine Nat.lt_of_not_le fun hn => ?_
        rw [List.getElem?_eq_none (by rw [newCels_length]; omega)] at hc
        cases hc
      have hg := held_cel (k := i.toNat) hf (List.getElem?_eq_getElem hlt)
      rw [show ((i.toNat : Nat) : Int) = i by omega, hc2] at hg
      cases hg
      exact extI_bytes (hl _ (List.getElem_mem hlt)) (hb _ (List.getElem_mem hlt))
    · cases hc
  intro f hf
  rcases List.mem_cons.1 hf with rfl | hf
  · exact key _ h.a
  · rcases List.mem_cons.1 hf with rfl | hf
    · exact key _ h.b
    · cases hf
theorem holds_has {B : Dk} {x : ByteArray} {gen : Nat} {ps : List (List Int)} (h : Holds B x gen ps) : HasBoth B x 0 gen ps :=
  ⟨fun k p hp => ⟨_, by rw [Nat.zero_add]; exact held_cel h.a hp, by rw [Nat.zero_add]; rfl⟩, fun k p hp => ⟨_, by rw [Nat.zero_add]; exact held_cel h.b hp, by rw [Nat.zero_add]; rfl⟩⟩
theorem cel_past {B : Dk} {f : ByteArray} {k : Nat} (h : (B.at f).length ≤ k) : B.cel f k = none := by
  unfold Dk.cel
  rw [if_pos (by omega), Int.toNat_natCast, List.getElem?_eq_none h]
theorem holds_past {B : Dk} {x : ByteArray} {gen k : Nat} {ps : List (List Int)} (h : Holds B x gen ps) (hk : ps.length ≤ k) : (getP B x k).1 = -1 :=
  none_get (cel_past (by rw [h.a, List.length_map, newCels_length]; exact hk)) (cel_past (by rw [h.b, List.length_map, newCels_length]; exact hk))
theorem new_has {x : ByteArray} (T : TwoNames (x ++ dotA) (x ++ dotB)) {room : Int} {gen : Nat} {ps : List (List Int)} (hg : (gen : Int) ≤ 4611686018427387904) (h0 : 0 < ps.length) (hr : 2 * (ps.length : Int) ≤ room) (hm : ps.length ≤ 2147483647) (hp : ∀ p ∈ ps, p.length ≤ 106) (hb : ∀ p ∈ ps, Bytes p) : ∃ B, NewHas room x gen ps B := by
  have hs0 : Sorted (Dk.new room).files := List.Pairwise.nil
  have hz : sizeF (Dk.new room).files = 0 := rfl
  have c1 : (ps.length : Int) ≤ (Dk.new room).free := by show _ ≤ room - (0 : Nat); omega
  obtain ⟨B1, h1, f1, -⟩ := wrF_fresh (f := x ++ dotA) T.na hg ps (Dk.new room) 0 hs0 rfl rfl c1 hp (by omega) (by omega)
  have g1 := wrF_cels (f := x ++ dotA) T.na hg ps (Dk.new room) 0 hs0 rfl rfl c1 hp (by omega) (by omega)
  have hr1 : B1.room = room := f1.room
  have c2 : (ps.length : Int) ≤ B1.free := by
    have := f1.size
    unfold Dk.free
    omega
  have hb0 : (B1.at (x ++ dotB)).length = 0 := by rw [f1.others _ T.ne]; rfl
  obtain ⟨B2, h2, f2, -⟩ := wrF_fresh (f := x ++ dotB) T.nb hg ps B1 0 f1.sorted f1.fuse hb0 c2 hp (by omega) (by omega)
  have g2 := wrF_cels (f := x ++ dotB) T.nb hg ps B1 0 f1.sorted f1.fuse hb0 c2 hp (by omega) (by omega)
  have hst : wrP (Dk.new room) x 0 gen ps = (0, B2) := by
    unfold wrP halvesL
    simp only [wrL, h1, h2, if_pos rfl]
    rfl
  rw [h1] at g1
  rw [h2] at g2
  have hH : Holds B2 x gen ps := by
    refine ⟨?_, ?_⟩
    · rw [f2.others _ (Ne.symm T.ne)]
      exact g1
    · rw [List.eq_nil_of_length_eq_zero hb0, List.nil_append] at g2
      exact g2
  exact ⟨B2, hst, hH, holds_has hH, by
    have := f1.size
    have := f2.size
    have := f2.room
    unfold Dk.free
    omega, f2.fuse, f2.sorted, holds_bytes hH hp hb⟩
theorem nameW_one : nameW 1 = ⟨#[119, 49]⟩ := by
  unfold nameW
  rw [show (1 : Int).toNat = 1 from rfl, decB_small (by omega)]
  rfl
theorem nameW_three : nameW 3 = ⟨#[119, 51]⟩ := by
  unfold nameW
  rw [show (3 : Int).toNat = 3 from rfl, decB_small (by omega)]
  rfl
theorem twoW1 : TwoNames (nameW 1 ++ dotA) (nameW 1 ++ dotB) := by
  rw [nameW_one]
  exact ⟨by kernel_rfl, by kernel_rfl, by decide, by kernel_rfl, by kernel_rfl⟩
theorem twoW3 : TwoNames (nameW 3 ++ dotA) (nameW 3 ++ dotB) := by
  rw [nameW_three]
  exact ⟨by kernel_rfl, by kernel_rfl, by decide, by kernel_rfl, by kernel_rfl⟩
theorem piecesW_bytes {b : List Int} (hb : Bytes b) : ∀ p ∈ piecesW (textW b), Bytes p := fun p hp x hx => textW_bytes hb x ((piecesW_mem hp).2 x hx)
/-- A record appended to an empty disk. -/
structure AppNew (room seg : Int) (b : List Int) (B : Dk) : Prop where
  eq : appendW (Dk.new room) seg 0 1 b = ((wneedI b.length, 0), B)
  has : NewHas room (nameW seg) 1 (piecesW (textW b)) B
theorem app_new {room seg : Int} {b : List Int} (T : TwoNames (nameW seg ++ dotA) (nameW seg ++ dotB)) (hs : 0 ≤ seg) (hs2 : seg ≤ 4611686018427387904) (hb : Bytes b) (h1 : 1 ≤ b.length) (h2 : b.length ≤ 1000000) (hr : 2 * wneedI b.length ≤ room) : ∃ B, AppNew room seg b B := by
  have hw := wneed_chunk h1 h2
  have hc : (piecesW (textW b)).length = chunkW (b.length + 4) := by rw [piecesW_length, textW_length]
  have hc0 : 0 < chunkW (b.length + 4) := by unfold chunkW; omega
  have hc1 : chunkW (b.length + 4) ≤ 10000 := by unfold chunkW; omega
  obtain ⟨B, hB⟩ := new_has T (room := room) (gen := 1) (ps := piecesW (textW b)) (by omega) (by omega) (by omega) (by omega) (fun p hp => (piecesW_mem hp).1) (piecesW_bytes hb)
  refine ⟨B, ?_, hB⟩
  unfold appendW
  rw [if_pos ⟨by omega, hs, hs2, by omega, by omega, by omega, by omega⟩]
  have e : wrP (Dk.new room) (nameW seg) (0 : Int).toNat (1 : Int).toNat (piecesW (textW b)) = (0, B) := hB.eq
  rw [e]
  rfl
theorem app_none {A : Dk} {seg at_ lsn : Int} : appendW A seg at_ lsn [] = ((0, 1), A) := by
  unfold appendW
  rw [if_neg (fun h => h.1 rfl)]
/-- What a record's segment gives, read so far. -/
theorem read_all {room seg : Int} {b : List Int} {B : Dk} (h : AppNew room seg b B) (h1 : 1 ≤ b.length) (h2 : b.length ≤ 1000000) : readG B (nameW seg) (chunkW (b.length + 4)) (chunkW (b.length + 4)) 0 [] = some [b] := by
  have h0 : 0 < chunkW (b.length + 4) := by unfold chunkW; omega
  have hc1 : chunkW (b.length + 4) ≤ 10000 := by unfold chunkW; omega
  have hr := rec_has (en := chunkW (b.length + 4)) h1 h2 h.has.has (by omega) (by omega) h0
  obtain ⟨c, hc⟩ : ∃ c, chunkW (b.length + 4) = c + 1 := ⟨chunkW (b.length + 4) - 1, by omega⟩
  rw [if_pos (by omega), Nat.zero_add] at hr
  rw [hc] at hr ⊢
  unfold readG
  rw [if_pos (by omega), hr]
  dsimp only
  cases c with
  | zero => rfl
  | succ c => unfold readG; rw [if_neg (by omega)]; rfl
theorem read_cut {room seg : Int} {b : List Int} {B : Dk} (h : AppNew room seg b B) (h1 : 1 ≤ b.length) (h2 : b.length ≤ 1000000) {m : Nat} (hm : 0 < m) (hm2 : m < chunkW (b.length + 4)) : readG B (nameW seg) m m 0 [] = none := by
  have hc1 : chunkW (b.length + 4) ≤ 10000 := by unfold chunkW; omega
  have hr := rec_has (en := m) h1 h2 h.has.has (by omega) (by omega) hm
  obtain ⟨c, rfl⟩ : ∃ c, m = c + 1 := ⟨m - 1, by omega⟩
  unfold readG
  rw [if_pos (by omega), hr, if_neg (by omega)]
theorem rec_past {B : Dk} {x : ByteArray} {en at_ : Nat} (h : (getP B x at_).1 < 0) : recW B x en at_ = none := by
  unfold recW
  rw [if_neg (fun h2 => by omega)]
theorem read_past {room seg : Int} {b : List Int} {B : Dk} (h : AppNew room seg b B) (h1 : 1 ≤ b.length) (h2 : b.length ≤ 1000000) : readG B (nameW seg) (chunkW (b.length + 4) + 1) (chunkW (b.length + 4) + 1) 0 [] = none := by
  have h0 : 0 < chunkW (b.length + 4) := by unfold chunkW; omega
  have hc1 : chunkW (b.length + 4) ≤ 10000 := by unfold chunkW; omega
  have hr := rec_has (en := chunkW (b.length + 4) + 1) h1 h2 h.has.has (by omega) (by omega) (by omega)
  rw [if_pos (by omega), Nat.zero_add] at hr
  have hp := holds_past (k := chunkW (b.length + 4)) h.has.held (by rw [piecesW_length, textW_length]; exact Nat.le_refl _)
  have hl := rec_past (B := B) (x := nameW seg) (en := chunkW (b.length + 4) + 1) (at_ := chunkW (b.length + 4)) (by rw [hp]; decide)
  obtain ⟨c, hc⟩ : ∃ c, chunkW (b.length + 4) = c + 1 := ⟨chunkW (b.length + 4) - 1, by omega⟩
  rw [hc] at hr hl ⊢
  unfold readG
  rw [if_pos (by omega), hr]
  dsimp only
  unfold readG
  rw [if_pos (by omega), hl]
end Go.Proofs.YtanlgadijndmaaaDoor
/- WalBack, the plain part: records appended one behind the other, one half turned, are read. -/
namespace Go.Proofs.YtanlgadijndmaaaDoor
open Go.RowKit HP
set_option linter.unusedSimpArgs false
set_option linter.unusedVariables false

def GetsAt (B : Dk) (x : ByteArray) (i0 g : Nat) (ps : List (List Int)) : Prop := ∀ (k : Nat) (p : List Int), ps[k]? = some p → getP B x ((i0 + k : Nat) : Int) = ((g : Int), p)
section
variable {B : Dk} {x : ByteArray} {i0 gen en : Nat} {l : List Int}
theorem more_gets (h : GetsAt B x i0 gen (piecesW l)) (he : i0 + chunkW l.length ≤ en) :
    ∀ (c k : Nat), 1 ≤ k → k + c = chunkW l.length → moreW B x gen en c (i0 + k) (pieceW l (k - 1)) (l.take (106 * k)) = some (l, i0 + chunkW l.length)
  | 0, k, _, hk => by
    unfold moreW
    have : l.take (106 * k) = l := List.take_of_length_le (by unfold chunkW at hk; omega)
    rw [this, show i0 + k = i0 + chunkW l.length by omega]
  | c + 1, k, h1, hk => by
    have hlt : k < chunkW l.length := by omega
    have hg2 := h k _ (piecesW_at hlt)
    unfold moreW
    rw [hg2]
    rw [if_pos ⟨by rw [pieceW_length]; unfold chunkW at hlt; omega, by omega, by show (0 : Int) ≤ gen; omega, rfl⟩]
    have ih := more_gets h he c (k + 1) (by omega) (by omega)
    rw [Nat.add_sub_cancel] at ih
    have e : l.take (106 * k) ++ pieceW l k = l.take (106 * (k + 1)) := by
      unfold pieceW
      rw [show 106 * (k + 1) = 106 * k + 106 by omega, List.take_add]
    dsimp only
    rw [e, show i0 + k + 1 = i0 + (k + 1) by omega]
    exact ih
end
theorem rec_gets {B : Dk} {x : ByteArray} {i0 gen en : Nat} {b : List Int} (h1 : 1 ≤ b.length) (h2 : b.length ≤ 1000000) (h : GetsAt B x i0 gen (piecesW (textW b))) (he : i0 + chunkW (b.length + 4) ≤ en) :
    recW B x en i0 = some (b, i0 + chunkW (b.length + 4)) := by
  have hc : chunkW (textW b).length = chunkW (b.length + 4) := by rw [textW_length]
  have h0 : 0 < chunkW (b.length + 4) := by unfold chunkW; omega
  have hg0 := h 0 _ (piecesW_at (by rw [hc]; exact h0))
  rw [Nat.add_zero] at hg0
  unfold recW
  rw [hg0]
  dsimp only
  rw [if_pos ⟨by omega, by omega, by rw [pieceW_length, textW_length]; omega⟩, sizeW_piece (by omega), wneed_chunk h1 h2]
  rw [show ((chunkW (b.length + 4) : Int) - 1).toNat = chunkW (b.length + 4) - 1 by omega]
  have hm2 := more_gets (en := en) h (by rw [hc]; exact he) (chunkW (b.length + 4) - 1) 1 (Nat.le_refl _) (by rw [hc]; omega)
  rw [show (1 : Nat) - 1 = 0 from rfl, Nat.mul_one, show (textW b).take 106 = pieceW (textW b) 0 by unfold pieceW; rw [Nat.mul_zero, List.drop_zero]] at hm2
  rw [hm2]
  dsimp only
  rw [if_pos ⟨by omega, textW_length b⟩, hc, textW_drop]
/-- The extents of records, one behind the other. -/
def gpR (recs : List (Nat × List Int)) : List (Nat × List Int) := recs.flatMap fun r => gpOf r.1 (piecesW (textW r.2))
theorem gpR_snoc (recs : List (Nat × List Int)) (r : Nat × List Int) : gpR (recs ++ [r]) = gpR recs ++ gpOf r.1 (piecesW (textW r.2)) := by
  unfold gpR
  rw [List.flatMap_append]
  simp
structure RecsOk (recs : List (Nat × List Int)) : Prop where
  few : recs.length ≤ 12
  each : ∀ r ∈ recs, r.1 ≤ 12 ∧ 1 ≤ r.2.length ∧ r.2.length ≤ 500 ∧ Bytes r.2
theorem pieces_few {b : List Int} (h : b.length ≤ 500) : (piecesW (textW b)).length ≤ 5 := by
  rw [piecesW_length, textW_length]
  unfold chunkW
  omega
theorem gpR_length : ∀ (recs : List (Nat × List Int)), (∀ r ∈ recs, r.2.length ≤ 500) → (gpR recs).length ≤ 5 * recs.length
  | [], _ => Nat.le_refl _
  | r :: recs, h => by
    have ih := gpR_length recs fun x hx => h x (List.mem_cons_of_mem _ hx)
    have h1 := pieces_few (h r (List.mem_cons_self ..))
    unfold gpR at ih ⊢
    rw [List.flatMap_cons, List.length_append, gpOf_length, List.length_cons]
    omega
theorem gpR_ok {recs : List (Nat × List Int)} (h : RecsOk recs) : GpOk (gpR recs) := by
  refine ⟨?_, fun x hx => ?_⟩
  · have h1 := gpR_length recs fun r hr => (h.each r hr).2.2.1
    have h2 := h.few
    omega
  · unfold gpR at hx
    obtain ⟨r, hr, hx⟩ := List.mem_flatMap.1 hx
    unfold gpOf at hx
    obtain ⟨p, hp, rfl⟩ := List.mem_map.1 hx
    have h1 := h.each r hr
    exact ⟨by show r.1 ≤ _; omega, (piecesW_mem hp).1, piecesW_bytes h1.2.2.2 p hp⟩
theorem read_gets {B : Dk} {x : ByteArray} {en : Nat} : ∀ (post pre : List (Nat × List Int)) (c : Nat) (out : List (List Int)), RecsOk (pre ++ post) → (gpR (pre ++ post)).length = en → (∀ (k : Nat) (y : Nat × List Int), (gpR (pre ++ post))[k]? = some y → getP B x (k : Int) = ((y.1 : Int), y.2)) → post.length ≤ c →
    readG B x en c (gpR pre).length out = some (out ++ post.map (·.2))
  | [], pre, c, out, hok, hen, hg, hc => by
    rw [List.append_nil] at hen
    rw [List.map_nil, List.append_nil]
    cases c with
    | zero => rfl
    | succ c => unfold readG; rw [if_neg (by omega)]
  | r :: post, pre, c, out, hok, hen, hg, hc => by
    have hr := hok.each r (List.mem_append_right _ (List.mem_cons_self ..))
    have e : gpR (pre ++ r :: post) = gpR pre ++ (gpOf r.1 (piecesW (textW r.2)) ++ gpR post) := by
      unfold gpR
      rw [List.flatMap_append, List.flatMap_cons]
    have hl : (piecesW (textW r.2)).length = chunkW (r.2.length + 4) := by rw [piecesW_length, textW_length]
    have h0 : 0 < chunkW (r.2.length + 4) := by unfold chunkW; omega
    have hen2 : (gpR pre).length + (chunkW (r.2.length + 4) + (gpR post).length) = en := by rw [← hen, e, List.length_append, List.length_append, gpOf_length, hl]
    have hga : GetsAt B x (gpR pre).length r.1 (piecesW (textW r.2)) := fun k p hp => by
      refine hg ((gpR pre).length + k) (r.1, p) ?_
      have hk : k < (piecesW (textW r.2)).length := (List.getElem?_eq_some_iff.1 hp).1
      rw [e, List.getElem?_append_right (by omega), Nat.add_sub_cancel_left, List.getElem?_append_left (by rw [gpOf_length]; exact hk)]
      exact gpOf_get hp
    have hrec := rec_gets (en := en) hr.2.1 (by omega) hga (by omega)
    obtain ⟨c, rfl⟩ : ∃ c', c = c' + 1 := ⟨c - 1, by simp only [List.length_cons] at hc; omega⟩
    have hn : (gpR (pre ++ [r])).length = (gpR pre).length + chunkW (r.2.length + 4) := by rw [gpR_snoc, List.length_append, gpOf_length, hl]
    have ea : pre ++ r :: post = (pre ++ [r]) ++ post := by simp
    rw [ea] at hok hen hg
    have ih := read_gets post (pre ++ [r]) c (out ++ [r.2]) hok hen hg (by simp only [List.length_cons] at hc; omega)
    rw [hn] at ih
    unfold readG
    rw [if_pos (by omega), hrec]
    dsimp only
    rw [ih, List.map_cons, List.append_assoc]
    rfl
theorem nameW_seven : nameW 7 = ⟨#[119, 55]⟩ := by
  unfold nameW
  rw [show (7 : Int).toNat = 7 from rfl, decB_small (by omega)]
  rfl
theorem twoW7 : TwoNames (nameW 7 ++ dotA) (nameW 7 ++ dotB) := by
  rw [nameW_seven]
  exact ⟨by kernel_rfl, by kernel_rfl, by decide, by kernel_rfl, by kernel_rfl⟩
/-- What is on the disk when records were appended. -/
structure WHold (A : Dk) (recs : List (Nat × List Int)) : Prop where
  hold : HoldG A (nameW 7) (gpR recs)
  free : A.free = 300 - 2 * ((gpR recs).length : Int)
  ok : RecsOk recs
theorem whold_new : WHold (Dk.new 300) [] := ⟨⟨rfl, rfl, List.Pairwise.nil, rfl, fun _ _ _ => rfl⟩, rfl, ⟨by decide, fun r hr => (by cases hr)⟩⟩
/-- A record appended behind the others. -/
theorem whold_append {A : Dk} {recs : List (Nat × List Int)} (H : WHold A recs) (h12 : recs.length < 12) {i : Nat} (hi : i < 12) {b : List Int} (h1 : 1 ≤ b.length) (h5 : b.length ≤ 500) (hb : Bytes b) :
    ∃ A', appendW A 7 ((gpR recs).length : Int) ((i : Int) + 1) b = ((wneedI b.length, 0), A') ∧ WHold A' (recs ++ [(i + 1, b)]) ∧ ((gpR (recs ++ [(i + 1, b)])).length : Int) = (gpR recs).length + wneedI b.length ∧ 1 ≤ wneedI b.length := by
  have hw := wneed_chunk h1 (show b.length ≤ 1000000 by omega)
  have hc : (piecesW (textW b)).length = chunkW (b.length + 4) := by rw [piecesW_length, textW_length]
  have hc0 : 0 < chunkW (b.length + 4) := by unfold chunkW; omega
  have hc5 : chunkW (b.length + 4) ≤ 5 := by unfold chunkW; omega
  have hl := gpR_length recs fun r hr => (H.ok.each r hr).2.2.1
  obtain ⟨A', hA, hH, hF⟩ := hold_append twoW7 H.hold H.free (gen := i + 1) (by omega) (ps := piecesW (textW b)) (by omega) (fun p hp => (piecesW_mem hp).1) (by omega) (by omega)
  refine ⟨A', ?_, ⟨?_, ?_, ?_⟩, ?_, by omega⟩
  · unfold appendW
    rw [if_pos ⟨by omega, by omega, by omega, by omega, by omega, by omega, by omega⟩, Int.toNat_natCast, show ((i : Int) + 1).toNat = i + 1 by omega, hA, if_pos rfl]
  · rw [gpR_snoc]; exact hH
  · rw [gpR_snoc]; exact hF
  · refine ⟨by rw [List.length_append]; simp; omega, fun r hr => ?_⟩
    rcases List.mem_append.1 hr with hr | hr
    · exact H.ok.each r hr
    · obtain rfl := List.mem_singleton.1 hr
      exact ⟨by show i + 1 ≤ 12; omega, h1, h5, hb⟩
  · rw [gpR_snoc, List.length_append, gpOf_length, hc, hw]
    push_cast
    rfl
/-- One half turned: what is read. -/
structure WTurned (A B : Dk) (recs : List (Nat × List Int)) : Prop where
  rb : B.RByt
  told : toldB B A = true → readG B (nameW 7) (gpR recs).length (gpR recs).length 0 [] = some (recs.map (·.2))
theorem gpR_many {recs : List (Nat × List Int)} (h : RecsOk recs) : recs.length ≤ (gpR recs).length := by
  have key : ∀ l : List (Nat × List Int), l.length ≤ (gpR l).length := by
    intro l
    induction l with
    | nil => exact Nat.le_refl _
    | cons r l ih =>
      unfold gpR at ih ⊢
      rw [List.flatMap_cons, List.length_append, gpOf_length, piecesW_length, textW_length, List.length_cons]
      have : 0 < chunkW (r.2.length + 4) := by unfold chunkW; omega
      omega
  exact key recs
theorem whold_turned {A B : Dk} {recs : List (Nat × List Int)} (H : WHold A recs) {f : ByteArray} (hf : f ∈ halvesL (nameW 7)) (h : RotS f A B) : WTurned A B recs := by
  have hok := gpR_ok H.ok
  have fin : B.RByt → (toldB B A = true → ∀ (k : Nat) (y : Nat × List Int), (gpR recs)[k]? = some y → getP B (nameW 7) (k : Int) = ((y.1 : Int), y.2)) → WTurned A B recs := fun hrb hg => by
    refine ⟨hrb, fun ht => ?_⟩
    have := read_gets (B := B) (x := nameW 7) (en := (gpR recs).length) recs [] (gpR recs).length [] H.ok rfl (hg ht) (gpR_many H.ok)
    rw [List.nil_append] at this
    exact this
  by_cases h0 : 0 < (gpR recs).length
  · obtain ⟨l', hT⟩ := turned_of H.hold hok h0 hf h
    exact fin hT.rb hT.told
  · have hnil : gpR recs = [] := List.eq_nil_of_length_eq_zero (by omega)
    have hat : A.at f = [] := by rw [H.hold.at_f hf, hnil]; rfl
    have hB := rotS_nil h hat
    subst hB
    exact fin (H.hold.rbyt hok) fun _ k y hy => by rw [hnil] at hy; cases hy
end Go.Proofs.YtanlgadijndmaaaDoor
/- wal: a reader's next extent. -/
namespace Go.Proofs.YtanlgadijndmaaaDoor
open Go.RowKit HP
set_option linter.unusedSimpArgs false
set_option linter.unusedVariables false

def nextEnd (E : Env) (q : HP) (d br : Nat) (A : Dk) (name : ByteArray) (at_ en : Nat) (gen : Int) (pay : Value) (e : Ending) (w' : World) : Prop :=
      (at_ < en ∧ 0 ≤ (getP A name at_).1 ∧ ∃ Av c, e = .returned (.bool true) ∧ (getP A name at_).2.length ≤ c ∧ Sat E w' (HP.pt br (.cells #[.pointer (some ⟨d, 0, none⟩), .string name, .int .i64 ((at_ + 1 : Nat) : Int), .int .i64 (en : Int), .int .i64 (getP A name at_).1, .slice Av (getP A name at_).2.length c] 155) * (HP.row 5 1 (.slice Av (getP A name at_).2.length c) (getP A name at_).2.length (b8s (getP A name at_).2) * (HP.disk d A * q)))) ∨
      (¬ (at_ < en ∧ 0 ≤ (getP A name at_).1) ∧ e = .returned (.bool false) ∧ Sat E w' (HP.pt br (.cells #[.pointer (some ⟨d, 0, none⟩), .string name, .int .i64 (at_ : Int), .int .i64 (en : Int), .int .i64 gen, pay] 155) * (HP.disk d A * q)))
set_option maxHeartbeats 2000000 in
set_option maxRecDepth 100000 in
theorem next_ok (E : Env) (q : HP) (d br : Nat) (A : Dk) (name : ByteArray) (at_ en : Nat) (gen : Int) (pay : Value) (w : World) (hname : name.size + 2 ≤ maxLen) (hen : en ≤ 2147483647) (hby : ∀ f ∈ halvesL name, ∀ c, A.cel f at_ = some c → Bytes c.read)
    (hq : ∀ w, Sat E w q → Quarter w) (hw : Sat E w (HP.pt br (.cells #[.pointer (some ⟨d, 0, none⟩), .string name, .int .i64 (at_ : Int), .int .i64 (en : Int), .int .i64 gen, pay] 155) * (HP.disk d A * q))) :
    Calls Tryd.prog 134 #[.pointer (some ⟨br, 0, none⟩)] w (nextEnd E q d br A name at_ en gen pay) := by
  have HX := Aside.mk hname
  have g0 := hw.cell 0
  have g1 := hw.cell 1
  have g2 := hw.cell 2
  have g3 := hw.cell 3
  simp only [List.getElem?_toArray, List.getElem?_cons_zero, List.getElem?_cons_succ] at g0 g1 g2 g3
  have HW := Aside.mk hw
  have HW2 : Aside (Sat E w.drew.drew (HP.disk d A * (HP.pt br (.cells #[.pointer (some ⟨d, 0, none⟩), .string name, .int .i64 (at_ : Int), .int .i64 (en : Int), .int .i64 gen, pay] 155) * q))) := ⟨hw.s2.drew.drew⟩
  have HQ := Aside.mk (And.intro hq hby)
  clear hw hq hby
  go_enter Tryd.func134, Tryd.ntmps134
  by_cases hlt : at_ < en
  · have hlt2 : ¬ (en : Int) ≤ (at_ : Int) := by omega
    go_wp2
    refine region_R [] [] (fun _ => True) #[false, false, false, false, false, false, false, false, false] (by kernel_rfl) rfl rfl ?_
    refine wpR_rd 0 #[true, false, false, false, false, false, false, false, false] rfl onlyN_noPanic (by kernel_rfl) (fun K hK => ?_); (go_simp; try go_bits); refine hK _ ?_; clear hK K
    refine wpR_rd 1 #[true, true, false, false, false, false, false, false, false] rfl onlyN_noPanic (by kernel_rfl) (fun K hK => ?_); (go_simp; try go_bits); refine hK _ ?_; clear hK K
    refine wpR_rd 2 #[true, true, true, false, false, false, false, false, false] rfl onlyN_noPanic (by kernel_rfl) (fun K hK => ?_); (go_simp; try go_bits); refine hK _ ?_; clear hK K
    refine wpR_rd 3 #[true, true, true, true, false, false, false, false, false] rfl onlyN_noPanic (by kernel_rfl) (fun K hK => ?_); (go_simp; try go_bits); refine hK _ ?_; clear hK K
    refine wpR_rd 4 #[true, true, true, true, true, false, false, false, false] rfl onlyN_noPanic (by kernel_rfl) (fun K hK => ?_); (go_simp; try go_bits); refine hK _ ?_; clear hK K
    refine wpR_rd 5 #[true, true, true, true, true, true, false, false, false] rfl onlyN_noPanic (by kernel_rfl) (fun K hK => ?_); (go_simp; try go_bits); refine hK _ ?_; clear hK K
    refine wpR_rd 6 #[true, true, true, true, true, true, true, false, false] rfl onlyN_noPanic (by kernel_rfl) (fun K hK => ?_); (go_simp; try go_bits); refine hK _ ?_; clear hK K
    refine wpR_rd 7 #[true, true, true, true, true, true, true, true, false] rfl onlyN_noPanic (by kernel_rfl) (fun K hK => ?_); (go_simp; try go_bits); refine hK _ ?_; clear hK K
    refine wpR_rd 8 #[true, true, true, true, true, true, true, true, true] rfl onlyN_noPanic (by kernel_rfl) (fun K hK => ?_); (go_simp; try go_bits); refine hK _ ?_; clear hK K
    refine wpR_done (by kernel_rfl) ?_ _
    simp only [OnlyN]
    go_wp2
    refine region_R [12] [] (fun _ => True) #[false, false, false, false, false, false, false, false, false, false, false, false, false, false, false, false, false, false, false, false] (by kernel_rfl) rfl rfl ?_
    refine wpR_rd 0 #[true, false, false, false, false, false, false, false, false, false, false, false, false, false, false, false, false, false, false, false] rfl onlyN_noPanic (by kernel_rfl) (fun K hK => ?_); (go_simp; try go_bits); refine hK _ ?_; clear hK K
    refine wpR_rd 1 #[true, true, false, false, false, false, false, false, false, false, false, false, false, false, false, false, false, false, false, false] rfl onlyN_noPanic (by kernel_rfl) (fun K hK => ?_); (go_simp; try go_bits); refine hK _ ?_; clear hK K
    refine wpR_rd 2 #[true, true, true, false, false, false, false, false, false, false, false, false, false, false, false, false, false, false, false, false] rfl onlyN_noPanic (by kernel_rfl) (fun K hK => ?_); (go_simp; try go_bits); refine hK _ ?_; clear hK K
    refine wpR_rd 3 #[true, true, true, true, false, false, false, false, false, false, false, false, false, false, false, false, false, false, false, false] rfl onlyN_noPanic (by kernel_rfl) (fun K hK => ?_); (go_simp; try go_bits); refine hK _ ?_; clear hK K
    refine wpR_rd 4 #[true, true, true, true, true, false, false, false, false, false, false, false, false, false, false, false, false, false, false, false] rfl onlyN_noPanic (by kernel_rfl) (fun K hK => ?_); (go_simp; try go_bits); refine hK _ ?_; clear hK K
    refine wpR_rd 5 #[true, true, true, true, true, true, false, false, false, false, false, false, false, false, false, false, false, false, false, false] rfl onlyN_noPanic (by kernel_rfl) (fun K hK => ?_); (go_simp; try go_bits); refine hK _ ?_; clear hK K
    refine wpR_rd 6 #[true, true, true, true, true, true, true, false, false, false, false, false, false, false, false, false, false, false, false, false] rfl onlyN_noPanic (by kernel_rfl) (fun K hK => ?_); (go_simp; try go_bits); refine hK _ ?_; clear hK K
    refine wpR_rd 7 #[true, true, true, true, true, true, true, true, false, false, false, false, false, false, false, false, false, false, false, false] rfl onlyN_noPanic (by kernel_rfl) (fun K hK => ?_); (go_simp; try go_bits); refine hK _ ?_; clear hK K
    refine wpR_rd 8 #[true, true, true, true, true, true, true, true, true, false, false, false, false, false, false, false, false, false, false, false] rfl onlyN_noPanic (by kernel_rfl) (fun K hK => ?_); (go_simp; try go_bits); refine hK _ ?_; clear hK K
    refine wpR_rd 9 #[true, true, true, true, true, true, true, true, true, true, false, false, false, false, false, false, false, false, false, false] rfl onlyN_noPanic (by kernel_rfl) (fun K hK => ?_); (go_simp; try go_bits); refine hK _ ?_; clear hK K
    refine wpR_rd 10 #[true, true, true, true, true, true, true, true, true, true, true, false, false, false, false, false, false, false, false, false] rfl onlyN_noPanic (by kernel_rfl) (fun K hK => ?_); (go_simp; try go_bits); refine hK _ ?_; clear hK K
    refine wpR_rd 11 #[true, true, true, true, true, true, true, true, true, true, true, true, false, false, false, false, false, false, false, false] rfl onlyN_noPanic (by kernel_rfl) (fun K hK => ?_); (go_simp; try go_bits); refine hK _ ?_; clear hK K
    refine wpR_eff #[true, true, true, true, true, true, true, true, true, true, true, true, true, false, false, false, false, false, false, false] (i := 12) rfl (by kernel_rfl) (fun K hK => ?_)
    go_simp
    refine (pair_get E _ d A name at_ _ HX.out HQ.out.2 (fun w h => HQ.out.1 w h.right) HW2.out).mono ?_
    rintro e w1 ⟨v, rfl, h1⟩
    obtain ⟨⟨best, p⟩, hst⟩ : ∃ st, st = getP A name at_ := ⟨_, rfl⟩
    rw [← hst] at h1 ⊢
    have HST := Aside.mk hst
    clear hst
    dsimp only at h1 ⊢
    unfold getEnd
    dsimp only
    by_cases hneg : best < 0
    · rw [if_pos hneg]
      have H1 := Aside.mk h1.right.s2
      clear h1
      refine hK _ _ ?_; clear hK K
      refine wpR_rd 13 #[true, true, true, true, true, true, true, true, true, true, true, true, true, true, false, false, false, false, false, false] rfl onlyN_noPanic (by kernel_rfl) (fun K hK => ?_); (go_simp; try go_bits); refine hK _ ?_; clear hK K
      refine wpR_rd 14 #[true, true, true, true, true, true, true, true, true, true, true, true, true, true, true, false, false, false, false, false] rfl onlyN_noPanic (by kernel_rfl) (fun K hK => ?_); (go_simp; try go_bits); refine hK _ ?_; clear hK K
      refine wpR_rd 15 #[true, true, true, true, true, true, true, true, true, true, true, true, true, true, true, true, false, false, false, false] rfl onlyN_noPanic (by kernel_rfl) (fun K hK => ?_); (go_simp; try go_bits); refine hK _ ?_; clear hK K
      refine wpR_rd 16 #[true, true, true, true, true, true, true, true, true, true, true, true, true, true, true, true, true, false, false, false] rfl onlyN_noPanic (by kernel_rfl) (fun K hK => ?_); (go_simp; try go_bits); refine hK _ ?_; clear hK K
      refine wpR_rd 17 #[true, true, true, true, true, true, true, true, true, true, true, true, true, true, true, true, true, true, false, false] rfl onlyN_noPanic (by kernel_rfl) (fun K hK => ?_); (go_simp; try go_bits); refine hK _ ?_; clear hK K
      refine wpR_rd 18 #[true, true, true, true, true, true, true, true, true, true, true, true, true, true, true, true, true, true, true, false] rfl onlyN_noPanic (by kernel_rfl) (fun K hK => ?_); (go_simp; try go_bits); refine hK _ ?_; clear hK K
      refine wpR_rd 19 #[true, true, true, true, true, true, true, true, true, true, true, true, true, true, true, true, true, true, true, true] rfl onlyN_noPanic (by kernel_rfl) (fun K hK => ?_); (go_simp; try go_bits); refine hK _ ?_; clear hK K
      refine wpR_done (by kernel_rfl) ?_ _
      simp only [OnlyN]
      go_wp2
      go_ret
      unfold nextEnd
      rw [← HST.out]
      exact .inr ⟨fun h => by have := h.2; dsimp only at this; omega, rfl, H1.out⟩
    · rw [if_neg hneg]
      obtain ⟨Av, cv, rfl, hcv, -⟩ := h1.row_slice
      have h2 : Sat E w1 (HP.pt br (.cells #[.pointer (some ⟨d, 0, none⟩), .string name, .int .i64 (at_ : Int), .int .i64 (en : Int), .int .i64 gen, pay] 155) * (HP.row 5 1 (.slice Av p.length cv) p.length (b8s p) * (HP.disk d A * q))) := h1.perm (by ac_rfl)
      have f2 := h2.thaw 2
      have f4 := h2.thaw 4
      have f5 := h2.thaw 5
      have k2 := h2.cell 2
      have k4 := h2.cell 4
      have k5 := h2.cell 5
      simp only [List.getElem?_toArray, List.getElem?_cons_zero, List.getElem?_cons_succ] at k2 k4 k5
      obtain ⟨m, hm⟩ : ∃ m, m = at_ + 1 := ⟨_, rfl⟩
      have h3 := ((h2.set (i := 5) (.slice Av p.length cv)).set (i := 4) (.int .i64 best)).set (i := 2) (.int .i64 (m : Int))
      have H3 := Aside.mk h3
      have hp1 : (at_ : Int) + 1 = (m : Int) := by omega
      have hm31 : m ≤ 2147483647 := by omega
      have HM := Aside.mk hm
      clear hm h1 h2 h3 g0 g1 g2 g3 HW HW2
      refine hK _ _ ?_; clear hK K
      refine wpR_rd 13 #[true, true, true, true, true, true, true, true, true, true, true, true, true, true, false, false, false, false, false, false] rfl onlyN_noPanic (by kernel_rfl) (fun K hK => ?_); (go_simp; try go_bits); refine hK _ ?_; clear hK K
      refine wpR_rd 14 #[true, true, true, true, true, true, true, true, true, true, true, true, true, true, true, false, false, false, false, false] rfl onlyN_noPanic (by kernel_rfl) (fun K hK => ?_); (go_simp; try go_bits); refine hK _ ?_; clear hK K
      refine wpR_rd 15 #[true, true, true, true, true, true, true, true, true, true, true, true, true, true, true, true, false, false, false, false] rfl onlyN_noPanic (by kernel_rfl) (fun K hK => ?_); (go_simp; try go_bits); refine hK _ ?_; clear hK K
      refine wpR_rd 16 #[true, true, true, true, true, true, true, true, true, true, true, true, true, true, true, true, true, false, false, false] rfl onlyN_noPanic (by kernel_rfl) (fun K hK => ?_); (go_simp; try go_bits); refine hK _ ?_; clear hK K
      refine wpR_rd 17 #[true, true, true, true, true, true, true, true, true, true, true, true, true, true, true, true, true, true, false, false] rfl onlyN_noPanic (by kernel_rfl) (fun K hK => ?_); (go_simp; try go_bits); refine hK _ ?_; clear hK K
      refine wpR_rd 18 #[true, true, true, true, true, true, true, true, true, true, true, true, true, true, true, true, true, true, true, false] rfl onlyN_noPanic (by kernel_rfl) (fun K hK => ?_); (go_simp; try go_bits); refine hK _ ?_; clear hK K
      refine wpR_rd 19 #[true, true, true, true, true, true, true, true, true, true, true, true, true, true, true, true, true, true, true, true] rfl onlyN_noPanic (by kernel_rfl) (fun K hK => ?_); (go_simp; try go_bits); refine hK _ ?_; clear hK K
      refine wpR_done (by kernel_rfl) ?_ _
      simp only [OnlyN]
      go_wp2
      go_ret
      unfold nextEnd
      rw [← HST.out, ← HM.out]
      exact .inl ⟨hlt, by show 0 ≤ best; omega, Av, cv, rfl, hcv, H3.out⟩
  · have hlt2 : (en : Int) ≤ (at_ : Int) := by omega
    go_wp2
    refine region_R [] [] (fun _ => True) #[false, false, false, false, false, false, false, false, false] (by kernel_rfl) rfl rfl ?_
    refine wpR_rd 0 #[true, false, false, false, false, false, false, false, false] rfl onlyN_noPanic (by kernel_rfl) (fun K hK => ?_); (go_simp; try go_bits); refine hK _ ?_; clear hK K
    refine wpR_rd 1 #[true, true, false, false, false, false, false, false, false] rfl onlyN_noPanic (by kernel_rfl) (fun K hK => ?_); (go_simp; try go_bits); refine hK _ ?_; clear hK K
    refine wpR_rd 2 #[true, true, true, false, false, false, false, false, false] rfl onlyN_noPanic (by kernel_rfl) (fun K hK => ?_); (go_simp; try go_bits); refine hK _ ?_; clear hK K
    refine wpR_rd 3 #[true, true, true, true, false, false, false, false, false] rfl onlyN_noPanic (by kernel_rfl) (fun K hK => ?_); (go_simp; try go_bits); refine hK _ ?_; clear hK K
    refine wpR_rd 4 #[true, true, true, true, true, false, false, false, false] rfl onlyN_noPanic (by kernel_rfl) (fun K hK => ?_); (go_simp; try go_bits); refine hK _ ?_; clear hK K
    refine wpR_rd 5 #[true, true, true, true, true, true, false, false, false] rfl onlyN_noPanic (by kernel_rfl) (fun K hK => ?_); (go_simp; try go_bits); refine hK _ ?_; clear hK K
    refine wpR_rd 6 #[true, true, true, true, true, true, true, false, false] rfl onlyN_noPanic (by kernel_rfl) (fun K hK => ?_); (go_simp; try go_bits); refine hK _ ?_; clear hK K
    refine wpR_rd 7 #[true, true, true, true, true, true, true, true, false] rfl onlyN_noPanic (by kernel_rfl) (fun K hK => ?_); (go_simp; try go_bits); refine hK _ ?_; clear hK K
    refine wpR_rd 8 #[true, true, true, true, true, true, true, true, true] rfl onlyN_noPanic (by kernel_rfl) (fun K hK => ?_); (go_simp; try go_bits); refine hK _ ?_; clear hK K
    refine wpR_done (by kernel_rfl) ?_ _
    simp only [OnlyN]
    go_wp2
    go_ret
    exact .inr ⟨fun h => hlt h.1, rfl, HW.out.drew⟩
end Go.Proofs.YtanlgadijndmaaaDoor
/- wal: Need, Name, files; the reference's. -/
namespace Go.Proofs.YtanlgadijndmaaaDoor
open Go.RowKit HP
set_option linter.unusedSimpArgs false
set_option linter.unusedVariables false

set_option maxHeartbeats 1000000 in
set_option maxRecDepth 100000 in
theorem wal_need (n : Int) (w : World) (h : wf64 n) : Calls Tryd.prog 94 #[.int .i64 n] w fun e w' => e = .returned (.int .i64 (wneedI n)) ∧ w' = w := by
  unfold wf64 at h
  by_cases h1 : n < 1
  · have HR : Aside (wneedI n = 0) := ⟨by unfold wneedI; rw [if_pos (by omega)]⟩
    go_enter Tryd.func94, Tryd.ntmps94
    go_wp2
    go_ret
    rw [HR.out]
    exact ⟨rfl, rfl⟩
  · by_cases h2 : 1000000 < n
    · have HR : Aside (wneedI n = 0) := ⟨by unfold wneedI; rw [if_pos (by omega)]⟩
      go_enter Tryd.func94, Tryd.ntmps94
      go_wp2
      go_ret
      rw [HR.out]
      exact ⟨rfl, rfl⟩
    · have HR : Aside (wneedI n = (4 + n + 106 - 1).tdiv 106) := ⟨by unfold wneedI; rw [if_neg (by omega), Int.tdiv_eq_ediv_of_nonneg (by omega)]; omega⟩
      have HR2 : Aside (wneedI n = (4 + n + 106 - 1) / 106) := ⟨by unfold wneedI; rw [if_neg (by omega)]; omega⟩
      go_enter Tryd.func94, Tryd.ntmps94
      go_wp2
      go_ret
      first
        | (rw [HR.out]; exact ⟨rfl, rfl⟩)
        | (rw [HR2.out]; exact ⟨rfl, rfl⟩)
theorem itoa_nat (d : Nat) : (⟨(Lib.itoa (d : Int)).toArray⟩ : ByteArray) = decB d := by
  unfold Lib.itoa decB
  rw [if_neg (by omega), Int.toNat_natCast]
theorem nameW_size {n : Int} (hn : wf64 n) : (nameW n).size ≤ 20 := by
  unfold nameW
  rw [ByteArray.size_append]
  have := decB_size 18 n.toNat (by unfold wf64 at hn; omega)
  show 1 + _ ≤ 20
  omega
set_option maxHeartbeats 1000000 in
set_option maxRecDepth 100000 in
theorem wal_name (E : Env) (q : HP) (n : Int) (w : World) (hn : wf64 n) (ht : ∀ w, Sat E w q → Lib.TabIs Tryd.prog w "internal/strconv.uint64pow10" .u64 Lib.pow10Tab) (hw : Sat E w q) :
    Calls Tryd.prog 68 #[.int .i64 n] w fun e w' => e = .returned (.string (nameW n)) ∧ Sat E w' q := by
  obtain ⟨d, hd⟩ : ∃ d : Nat, d = n.toNat := ⟨_, rfl⟩
  have hmx : max n 0 = (d : Int) := by omega
  have hmx2 : (if (0 : Int) > n then (0 : Int) else n) = (d : Int) := by split <;> omega
  unfold wf64 at hn
  have hsz := decB_size 18 d (by omega)
  have HI := Aside.mk (itoa_ok E q (d : Int) w ⟨by omega, by omega⟩ ht hw)
  have HN : Aside (nameW n = wB ++ decB d) := ⟨by unfold nameW; rw [hd]⟩
  have hs3 : 1 + (decB d).size ≤ 100 := by omega
  clear ht hw hd hn hsz
  go_enter Tryd.func68, Tryd.ntmps68
  go_wp2_with fail
  refine HI.out.mono ?_
  rintro e w1 ⟨rfl, h1⟩
  rw [itoa_nat]
  have H1 := Aside.mk h1
  clear h1 HI
  go_wp2
  go_ret
  rw [HN.out]
  exact ⟨rfl, H1.out⟩
set_option maxHeartbeats 1000000 in
set_option maxRecDepth 100000 in
theorem wal_files (E : Env) (q : HP) (name : ByteArray) (w : World) (hn : name.size + 2 ≤ maxLen) (hw : Sat E w q) :
    Calls Tryd.prog 97 #[.string name] w fun e w' => e = .returned (.agg #[.string (name ++ dotA), .string (name ++ dotB)]) ∧ Sat E w' q := by
  have hn2 : name.size + 2 ≤ 9223372036854775807 := by unfold maxLen at hn; omega
  unfold dotA dotB
  go_enter Tryd.func97, Tryd.ntmps97
  have h1 := hw.alloc (.cells [.string (name ++ ⟨#[46, 97]⟩), .string (name ++ ⟨#[46, 98]⟩)].toArray 144)
  have r1 := run_loadAgg (P := Tryd.prog) (n := 2) agTwo rfl (Sat.ptCells (off := 0) (l := [.string (name ++ ⟨#[46, 97]⟩), .string (name ++ ⟨#[46, 98]⟩)]) h1 rfl)
  go_wp2
  exact ⟨rfl, _, results_cell (t := 2) (by kernel_rfl) rfl r1, rfl, h1.right⟩
end Go.Proofs.YtanlgadijndmaaaDoor
/- slices.Concat of two slices of bytes. -/
namespace Go.Proofs.YtanlgadijndmaaaDoor
open Go.RowKit HP
set_option linter.unusedSimpArgs false
set_option linter.unusedVariables false

theorem Sat.row_cut {E : Env} {w : World} {q : HP} {e : TypeId} {size n m c : Nat} {A : Option Addr} {cs : List Value} (h : Sat E w (HP.row e size (.slice A n c) n cs * q)) (hm : m ≤ n) : Sat E w (HP.row e size (.slice A m c) m (cs.take (m * size)) * q) := by
  rcases h.row_cases with ⟨hl, ⟨A', hv, hn, hq⟩ | ⟨g, off, cap, cur, hv, hnc, hcm, hs, ht, hp⟩⟩
  · simp only [Value.slice.injEq] at hv
    obtain ⟨rfl, -, rfl⟩ := hv
    subst hn
    obtain rfl : m = 0 := by omega
    rw [Nat.zero_mul, List.take_zero]
    exact hq.row_nil e size A
  · simp only [Value.slice.injEq] at hv
    obtain ⟨rfl, -, rfl⟩ := hv
    refine hp.row_mk (by omega) hcm hs ?_
    rw [← ht, List.take_take]
    congr 1
    have := Nat.mul_le_mul_right size hm
    omega
end Go.Proofs.YtanlgadijndmaaaDoor
/- slices.Grow of no slice, laid at this program (printed by the kit's own tool). -/
namespace Go.Proofs.YtanlgadijndmaaaDoor
open Go.Shelf Go.RowKit HP
set_option linter.unusedSimpArgs false
set_option linter.unusedVariables false

def growB_ren : Go.Shelf.Ren := ⟨fun | 4 => 156 | n => n, fun | 22 => 52 | 25 => 5 | 3 => 3 | 4 => 4 | 9 => 9 | 20 => 20 | 0 => 0 | n => n, fun | n => n⟩
theorem growB : Go.Proofs.Lays8.n4 Tryd.prog growB_ren := {
  mixed := by kernel_rfl
  f4 := ⟨Tryd.f156.name, by decide, Tryd.func156.trans (congrArg some (by kernel_rfl))⟩
  t0 := Tryd.underlying0
  a0 := Tryd.isAgg0
  z0 := Tryd.sizeOf0
  v0 := Tryd.zeroValue0
  t3 := Tryd.underlying3
  a3 := Tryd.isAgg3
  z3 := Tryd.sizeOf3
  v3 := Tryd.zeroValue3
  t4 := Tryd.underlying4
  a4 := Tryd.isAgg4
  z4 := Tryd.sizeOf4
  v4 := Tryd.zeroValue4
  t9 := Tryd.underlying9
  a9 := Tryd.isAgg9
  z9 := Tryd.sizeOf9
  v9 := Tryd.zeroValue9
  t20 := Tryd.underlying20
  a20 := Tryd.isAgg20
  z20 := Tryd.sizeOf20
  v20 := Tryd.zeroValue20
  t22 := Tryd.underlying52
  a22 := Tryd.isAgg52
  z22 := Tryd.sizeOf52
  v22 := Tryd.zeroValue52 }
theorem info_u8 : ∃ i0, Tryd.prog.info? 5 = some i0 ∧ i0.zero = some (.int .u8 0) ∧ i0.size = 1 ∧ i0.bytes = 1 := by
  have h : (Tryd.prog.info? 5).map (fun i => (i.zero, i.size, i.bytes)) = some (some (Value.int IntKind.u8 0), 1, 1) := by kernel_rfl
  cases hi : Tryd.prog.info? 5 with
  | none => rw [hi] at h; cases h
  | some i0 =>
    rw [hi] at h
    simp only [Option.map_some, Option.some.injEq, Prod.mk.injEq] at h
    exact ⟨i0, rfl, h.1, h.2.1, h.2.2⟩
theorem grow_nil (E : Env) (q : HP) (n : Nat) (w : World) (h0 : 0 < n) (hn : n ≤ 2200000) (hw : Sat E w q) :
    Calls Tryd.prog 156 #[.slice none 0 0, .int .i64 n] w fun e w' => ∃ A c, e = .returned (.slice A 0 c) ∧ Sat E w' (HP.row 5 1 (.slice A 0 c) 0 [] * q) := by
  obtain ⟨i0, hi, hz, hs, hb⟩ := info_u8
  refine (Any8.slices_Grow_grow growB i0 (.int .u8 0) hi hz (by omega) none 0 0 n [] w (Nat.le_refl _) (by omega) (by rw [hb]; omega) (by omega) (by simp) (fun _ => rfl) (fun a ha => by cases ha)).mono ?_
  rintro e w' ⟨rfl, rfl⟩
  have hc : grownCap w (0 + n) 0 5 ≤ maxLen := grownCap_le_maxLen w (0 + n) 0 5 (by unfold maxLen; omega)
  refine ⟨_, _, rfl, ?_⟩
  have h1 := hw.drew.alloc (.cells (([] : List Value).toArray ++ Builtin.zeroCells (Value.int .u8 0).cells (0 + n - 0) ++ Builtin.zeroCells (Value.int .u8 0).cells (grownCap w (0 + n) 0 5 - (0 + n))) 5)
  have h2 := h1.row_mk (n := 0) (cap := grownCap w (0 + n) 0 5) (off := 0) (size := 1) (cs := []) (Nat.zero_le _) hc (by
    simp only [Array.size_append, Builtin.zeroCells, List.size_toArray, List.length_nil]
    simp [Value.cells]
    omega) (by simp)
  exact h2
end Go.Proofs.YtanlgadijndmaaaDoor
/- slices.Concat of two slices of bytes; joined. -/
namespace Go.Proofs.YtanlgadijndmaaaDoor
open Go.RowKit HP
set_option linter.unusedSimpArgs false
set_option linter.unusedVariables false

set_option maxHeartbeats 2000000 in
set_option maxRecDepth 100000 in
theorem concat_ok (E : Env) (q : HP) (bl : Nat) (A1 A2 : Option Addr) (l1 l2 : List Int) (n1 n2 c1 c2 : Nat) (w : World) (e1 : l1.length = n1) (e2 : l2.length = n2) (m1 : 0 < n1) (k1 : n1 ≤ 1100000) (k2 : n2 ≤ 1100000)
    (hq : ∀ w, Sat E w q → Cells w A1 (b8s l1) ∧ Cells w A2 (b8s l2)) (hw : Sat E w (HP.pt bl (.cells #[.slice A1 n1 c1, .slice A2 n2 c2] 52) * q)) :
    Calls Tryd.prog 133 #[.slice (some ⟨bl, 0, none⟩) 2 2] w fun e w' => ∃ A c, e = .returned (.slice A (n1 + n2) c) ∧ n1 + n2 ≤ c ∧ c ≤ maxLen ∧ Sat E w' (HP.row 5 1 (.slice A (n1 + n2) c) (n1 + n2) (b8s (l1 ++ l2)) * q) := by
  have HQ := Aside.mk (And.intro hq (And.intro hw (And.intro e1 e2)))
  clear hq hw e1 e2
  have c0 : w.cell? ⟨bl, 0, none⟩ = some (.slice A1 n1 c1) := HQ.out.2.1.cell 0
  have c1' : w.cell? ⟨bl, 1, none⟩ = some (.slice A2 n2 c2) := HQ.out.2.1.cell 1
  go_enter Tryd.func133, Tryd.ntmps133
  go_wp2
  go_loopw [3, 11] (fun v3 v11 wr => ∃ k : Nat, k ≤ 2 ∧ v11 = .int .i64 k ∧ (∃ s : Nat, v3 = .int .i64 s ∧ s = (if k = 0 then 0 else if k = 1 then n1 else n1 + n2)) ∧ wr = w) (fun _ i _ => 2 - (intOf i).toNat)
  case atStart => exact ⟨0, by omega, rfl, ⟨0, rfl, rfl⟩, rfl⟩
  case round =>
    obtain ⟨k, hk, rfl, ⟨s, rfl, hs⟩, hwr⟩ := hrel
    subst wr
    by_cases hlt : k < 2
    · have hlt2 : (k : Int) < 2 := by omega
      obtain ⟨Ak, nk, ck, gk, hnk, hsk⟩ : ∃ Ak nk ck, w.cell? ⟨bl, k, none⟩ = some (.slice Ak nk ck) ∧ s + nk ≤ 2200000 ∧ s + nk = (if k + 1 = 0 then 0 else if k + 1 = 1 then n1 else n1 + n2) := by
        rcases Nat.lt_or_ge k 1 with h0 | h0
        · obtain rfl : k = 0 := by omega
          exact ⟨A1, n1, c1, c0, by simp at hs; omega, by simp at hs; simp; omega⟩
        · obtain rfl : k = 1 := by omega
          exact ⟨A2, n2, c2, c1', by simp at hs; omega, by simp at hs; simp; omega⟩
      have HS := Aside.mk hsk
      clear hs c0 c1' hsk
      obtain ⟨s2, hs2⟩ : ∃ s2, s2 = s + nk := ⟨_, rfl⟩
      have x1 : (s : Int) + (nk : Int) = (s2 : Int) := by omega
      have x2 : s2 ≤ 2200000 := by omega
      have x3 : ¬ (s2 : Int) < 0 := by omega
      rw [← hs2] at HS
      clear hs2
      go_wp2
      go_roundw
      case rel => exact ⟨k + 1, by omega, by push_cast; rfl, ⟨s2, rfl, HS.out⟩, by first | rfl | trivial⟩
      case measure => simp [intOf]; omega
    · obtain rfl : k = 2 := by omega
      obtain rfl : s = n1 + n2 := by simpa using hs
      clear hs c0 c1'
      obtain ⟨N, hN⟩ : ∃ N, N = n1 + n2 := ⟨_, rfl⟩
      have hN2 : N ≤ 2200000 ∧ 0 < N := by omega
      have HN := Aside.mk hN
      rw [← hN]
      clear hN
      go_wp2_with fail
      refine (grow_nil E _ N w hN2.2 hN2.1 HQ.out.2.1).mono ?_
      rintro e w1 ⟨Ag, cg, rfl, h1⟩
      have H1 := Aside.mk h1
      clear h1
      go_wp2
      go_loopw [6, 27] (fun v6 v27 wr => ∃ k : Nat, k ≤ 2 ∧ v27 = .int .i64 k ∧ Aside (∃ l, l = (if k = 0 then [] else if k = 1 then l1 else l1 ++ l2) ∧ Sat E wr (HP.row 5 1 v6 l.length (b8s l) * (HP.pt bl (.cells #[.slice A1 n1 c1, .slice A2 n2 c2] 52) * q)))) (fun _ i _ => 2 - (intOf i).toNat)
      case atStart => exact ⟨0, by omega, rfl, ⟨[], rfl, H1.out⟩⟩
      case round =>
        obtain ⟨k, hk, rfl, HL⟩ := hrel
        obtain ⟨l, hl, hs⟩ := HL.out
        clear HL
        by_cases hlt : k < 2
        · have hlt2 : (k : Int) < 2 := by omega
          obtain ⟨Ak, lk, nk, ck, gk, ek, hck, hlk, hbd⟩ : ∃ Ak lk nk ck, wr.cell? ⟨bl, k, none⟩ = some (.slice Ak nk ck) ∧ List.length lk = nk ∧ Cells wr Ak (b8s lk) ∧ l ++ lk = (if k + 1 = 0 then [] else if k + 1 = 1 then l1 else l1 ++ l2) ∧ l.length + nk ≤ 2200000 := by
            have hc := HQ.out.1 _ hs.right.right
            have he1 := HQ.out.2.2.1
            have he2 := HQ.out.2.2.2
            rcases Nat.lt_or_ge k 1 with h0 | h0
            · obtain rfl : k = 0 := by omega
              simp at hl
              subst hl
              exact ⟨A1, l1, n1, c1, hs.right.cell 0, he1, hc.1, rfl, by simp; omega⟩
            · obtain rfl : k = 1 := by omega
              simp at hl
              subst hl
              exact ⟨A2, l2, n2, c2, hs.right.cell 1, he2, hc.2, rfl, by omega⟩
          obtain ⟨Al, cl, rfl, -, -⟩ := hs.row_slice
          have HB := Aside.mk (And.intro hs (And.intro hck (And.intro (show (b8s lk).length = nk * 1 by rw [b8s_length, ek, Nat.mul_one]) (And.intro hlk ek))))
          obtain ⟨ol, hol⟩ : ∃ ol, ol = l.length := ⟨_, rfl⟩
          rw [← hol] at HB hbd ⊢
          have HO := Aside.mk hol
          clear hs hck hl hlk ek hol
          go_wp2_with (at_builtin; refine wpList_append_row slB8 rfl rfl (by rfl) (by rfl) HB.out.1 HB.out.2.1 HB.out.2.2.1 (b8s_one _) (by unfold maxLen; omega) (by omega) (fun v5 w5 hw5 => ?_); obtain ⟨A5, c5, rfl, -, -⟩ := hw5.row_slice; have HW5 := Aside.mk hw5; clear hw5)
          have H6 : Aside (∃ l', l' = (if k + 1 = 0 then [] else if k + 1 = 1 then l1 else l1 ++ l2) ∧ Sat E w5 (HP.row 5 1 (.slice A5 (ol + nk) c5) l'.length (b8s l') * (HP.pt bl (.cells #[.slice A1 n1 c1, .slice A2 n2 c2] 52) * q))) := ⟨l ++ lk, HB.out.2.2.2.1, by
            rw [List.length_append, b8s_append, ← HO.out, HB.out.2.2.2.2]
            exact HW5.out⟩
          clear HW5 HB
          go_wp2
          go_roundw
          case rel => exact ⟨k + 1, by omega, by push_cast; rfl, H6⟩
          case measure => simp [intOf]; omega
        · obtain rfl : k = 2 := by omega
          obtain rfl : l = l1 ++ l2 := by simpa using hl
          have hlen : (l1 ++ l2).length = n1 + n2 := by rw [List.length_append, HQ.out.2.2.1, HQ.out.2.2.2]
          rw [hlen] at hs
          obtain ⟨Al, cl, rfl, hcl, hml⟩ := hs.row_slice
          have HS := Aside.mk (And.intro hs.drop2 (And.intro hcl hml))
          clear hs hl hlen hcl hml
          go_wp2
          go_ret
          exact ⟨_, _, rfl, HS.out.2.1, HS.out.2.2, HS.out.1⟩
set_option maxHeartbeats 1000000 in
set_option maxRecDepth 100000 in
theorem joined_ok (E : Env) (q : HP) (bl : Nat) (A1 A2 : Option Addr) (l1 l2 : List Int) (n1 n2 c1 c2 : Nat) (w : World) (e1 : l1.length = n1) (e2 : l2.length = n2) (m1 : 0 < n1) (k1 : n1 ≤ 1100000) (k2 : n2 ≤ 1100000)
    (hq : ∀ w, Sat E w q → Cells w A1 (b8s l1) ∧ Cells w A2 (b8s l2)) (hw : Sat E w (HP.pt bl (.cells #[.slice A1 n1 c1, .slice A2 n2 c2] 52) * q)) :
    Calls Tryd.prog 95 #[.slice (some ⟨bl, 0, none⟩) 2 2] w fun e w' => ∃ A c, e = .returned (.slice A (n1 + n2) c) ∧ n1 + n2 ≤ c ∧ c ≤ maxLen ∧ Sat E w' (HP.row 5 1 (.slice A (n1 + n2) c) (n1 + n2) (b8s (l1 ++ l2)) * q) := by
  have HC := Aside.mk (concat_ok E q bl A1 A2 l1 l2 n1 n2 c1 c2 w e1 e2 m1 k1 k2 hq hw)
  clear hq hw e1 e2
  go_enter Tryd.func95, Tryd.ntmps95
  go_wp2_with fail
  refine HC.out.mono ?_
  rintro e w1 ⟨A, c, rfl, h1, h2, h3⟩
  go_wp2
  go_ret
  exact ⟨A, c, rfl, h1, h2, h3⟩
end Go.Proofs.YtanlgadijndmaaaDoor
/- wal: a reader's next record. -/
namespace Go.Proofs.YtanlgadijndmaaaDoor
open Go.RowKit HP
set_option linter.unusedSimpArgs false
set_option linter.unusedVariables false

def recEnd (E : Env) (q : HP) (d br : Nat) (A : Dk) (name : ByteArray) (en : Nat) (r : Option (List Int × Nat)) (e : Ending) (w' : World) : Prop :=
  match r with
  | none => e = .returned (.tuple #[.slice none 0 0, .bool false]) ∧ Sat E w' (HP.disk d A * q)
  | some (t, a) => ∃ v g pay, e = .returned (.tuple #[v, .bool true]) ∧ Sat E w' (HP.row 5 1 v t.length (b8s t) * (HP.pt br (.cells #[.pointer (some ⟨d, 0, none⟩), .string name, .int .i64 (a : Int), .int .i64 (en : Int), .int .i64 g, pay] 155) * (HP.disk d A * q)))
theorem getF_smallW {A : Dk} {i : Int} {st : Int × List Int} {f : ByteArray} (h : st.2.length ≤ 106) : (getF A i st f).2.length ≤ 106 := by
  unfold getF
  cases A.cel f i with
  | none => exact h
  | some c =>
    dsimp only
    cases ho : openI c.read f i with
    | none => exact h
    | some x =>
      dsimp only
      split
      · exact h
      · exact (openI_gen (p := x.1) (g := x.2) ho).2
theorem getP_smallW (A : Dk) (name : ByteArray) (i : Int) : (getP A name i).2.length ≤ 106 := by
  unfold getP halvesL
  exact getF_smallW (getF_smallW (Nat.zero_le _))
theorem openI_bytesW {b : List Int} {f : ByteArray} {i : Int} {p : List Int} {g : Nat} (h : openI b f i = some (p, g)) (hb : Bytes b) : Bytes p := by
  unfold openI at h
  split at h
  · cases h
  · split at h
    · cases h
    · split at h
      · cases h
      · simp only [Option.some.injEq, Prod.mk.injEq] at h
        rw [← h.1]
        exact fun y hy => hb y (List.mem_of_mem_drop (List.mem_of_mem_take hy))
theorem getF_bytesW {A : Dk} {i : Int} {st : Int × List Int} {f : ByteArray} (hs : Bytes st.2) (hb : ∀ c, A.cel f i = some c → Bytes c.read) : Bytes (getF A i st f).2 := by
  unfold getF
  cases hc : A.cel f i with
  | none => exact hs
  | some c =>
    dsimp only
    cases ho : openI c.read f i with
    | none => exact hs
    | some x =>
      dsimp only
      split
      · exact hs
      · exact openI_bytesW (p := x.1) (g := x.2) ho (hb c hc)
theorem getP_bytesW {A : Dk} {name : ByteArray} {i : Int} (hb : ∀ f ∈ halvesL name, ∀ c, A.cel f i = some c → Bytes c.read) : Bytes (getP A name i).2 := by
  unfold getP halvesL
  exact getF_bytesW (getF_bytesW (fun x hx => by cases hx) (hb _ (List.mem_cons_self ..))) (hb _ (List.mem_cons_of_mem _ (List.mem_cons_self ..)))
theorem Sat.drop1 {E : Env} {w : World} {p r q : HP} (h : Sat E w (p * (r * q))) : Sat E w (p * q) := h.drop2
set_option maxHeartbeats 4000000 in
set_option maxRecDepth 100000 in
theorem record_ok (E : Env) (q : HP) (d br : Nat) (A : Dk) (name : ByteArray) (at_ en : Nat) (gen0 : Int) (pay : Value) (w : World) (hname : name.size + 2 ≤ maxLen) (hen : en ≤ 2147483647) (hby : ∀ f ∈ halvesL name, ∀ i c, A.cel f i = some c → Bytes c.read)
    (hq : ∀ w, Sat E w q → Quarter w) (hw : Sat E w (HP.pt br (.cells #[.pointer (some ⟨d, 0, none⟩), .string name, .int .i64 (at_ : Int), .int .i64 (en : Int), .int .i64 gen0, pay] 155) * (HP.disk d A * q))) :
    Calls Tryd.prog 98 #[.pointer (some ⟨br, 0, none⟩)] w (recEnd E q d br A name en (recW A name en at_)) := by
  have HQ := Aside.mk (And.intro hq hby)
  have HN := Aside.mk (next_ok E q d br A name at_ en gen0 pay w hname hen (fun f hf c hc => hby f hf at_ c hc) hq hw)
  have HX := Aside.mk hname
  have hsm := getP_smallW A name at_
  have hpb := getP_bytesW (i := at_) (fun f hf c hc => hby f hf at_ c hc)
  clear hq hby hw
  go_enter Tryd.func98, Tryd.ntmps98
  go_wp2_with fail
  refine HN.out.mono ?_
  intro e w1 h1
  clear HN
  unfold nextEnd at h1
  obtain ⟨⟨g, p⟩, hst⟩ : ∃ st, st = getP A name at_ := ⟨_, rfl⟩
  have HST := Aside.mk hst
  rw [← hst] at h1 hsm hpb
  clear hst
  dsimp only at h1 hsm hpb
  rcases h1 with ⟨hlt, hg0, Av, cv, rfl, hcv, h1⟩ | ⟨hno, rfl, h1⟩
  · have k5 := h1.cell 5
    simp only [List.getElem?_toArray, List.getElem?_cons_zero, List.getElem?_cons_succ] at k5
    by_cases h4 : p.length < 4
    · have HX2 : Aside (recW A name en at_ = none) := ⟨by
        unfold recW
        rw [← HST.out, if_neg (fun h => by have := h.2.2; dsimp only at this; omega)]⟩
      have H1 := Aside.mk h1.right.right
      obtain ⟨pl, hpl⟩ : ∃ pl, pl = p.length := ⟨_, rfl⟩
      rw [← hpl] at h4 k5
      clear h1 hpl hsm hcv
      go_wp2
      go_ret2
      rw [HX2.out]
      exact ⟨rfl, H1.out⟩
    · have hpc := h1.right.row_cells
      obtain ⟨a0, rfl, -⟩ := hpc.at_ 0 (by rw [b8s_length]; omega)
      obtain ⟨gP, oP, rfl⟩ := slice_addr hpc rfl (k := 0) (by rw [b8s_length]; omega)
      obtain ⟨size, hsize⟩ : ∃ size : Nat, size = sizeW p := ⟨_, rfl⟩
      have hs32 : size < 4294967296 := by
        rw [hsize]
        unfold sizeW
        have h8 := getN_lt (p.take 4) (fun y hy => hpb y (List.mem_of_mem_take hy))
        rw [List.length_take, show min 4 p.length = 4 by omega] at h8
        omega
      obtain ⟨N, hN⟩ : ∃ N, N = wneedI size := ⟨_, rfl⟩
      have hN0 : 0 ≤ N ∧ N ≤ 10000 ∧ (N ≠ 0 → size ≤ 1000000) := by rw [hN]; unfold wneedI; split <;> omega
      have HREC : Aside (recW A name en at_ = match moreW A name g en (N - 1).toNat (at_ + 1) p p with
          | none => none
          | some (t, a) => if N ≠ 0 ∧ t.length = size + 4 then some (t.drop 4, a) else none) := ⟨by
        unfold recW
        rw [← HST.out]
        dsimp only
        rw [if_pos ⟨hlt, hg0, by omega⟩, ← hsize, ← hN]
        try rfl⟩
      have HCM : Aside (cv ≤ maxLen) := ⟨by
        obtain ⟨A', c', e', -, hm'⟩ := h1.right.row_slice
        cases e'
        exact hm'⟩
      have HPW := Aside.mk (And.intro hpb (And.intro h1 (And.intro hsize hN)))
      have HC4 : Aside (Cells w1 (some ⟨gP, oP, none⟩) (b8s (p.take 4)) ∧ (p.take 4).length = 4 ∧ Bytes (p.take 4)) := ⟨by
        have := hpc.take 4
        unfold b8s at this ⊢
        rw [List.map_take]; exact this, by rw [List.length_take]; omega, fun y hy => hpb y (List.mem_of_mem_take hy)⟩
      have k4 := h1.cell 4
      simp only [List.getElem?_toArray, List.getElem?_cons_zero, List.getElem?_cons_succ] at k4
      obtain ⟨pl, hpl⟩ : ∃ pl, pl = p.length := ⟨_, rfl⟩
      rw [← hpl] at h4 k5 hsm hcv
      have HPL := Aside.mk hpl
      clear hpb h1 hsize hN hpc hpl HST hlt hg0
      have h4b : ¬ (pl : Int) < 4 := by omega
      have h4c : (4 : Int) ≤ cv := by omega
      go_wp2_with fail
      refine (crc_get (some ⟨gP, oP, none⟩) (p.take 4) 4 cv w1 HC4.out.2.1 (by omega) (by omega) HC4.out.2.2 HC4.out.1).mono ?_
      rintro e w2 ⟨rfl, hw2⟩
      subst w2
      have hsz2 : getN (p.take 4) = size := HPW.out.2.2.1.symm
      rw [hsz2]
      clear hsz2 HC4
      have hw64 : wrap64 (size : Int) = (size : Int) := by unfold wrap64; omega
      go_wp2
      refine region_R [2] [2] (fun W => W = w1.drew) #[false, false, false, false, false, false, false, false, false] (by kernel_rfl) rfl rfl ?_
      refine wpR_rd 0 #[true, false, false, false, false, false, false, false, false] rfl onlyN_noPanic (by kernel_rfl) (fun K hK => ?_); (go_simp; try go_bits); refine hK _ ?_; clear hK K
      refine wpR_rd 1 #[true, true, false, false, false, false, false, false, false] rfl onlyN_noPanic (by kernel_rfl) (fun K hK => ?_); (go_simp; try go_bits); refine hK _ ?_; clear hK K
      refine wpR_pu 3 #[true, true, false, true, false, false, false, false, false] rfl onlyN_noPanic (by kernel_rfl) (fun K hK => ?_); (go_simp; try go_bits); refine hK _ ?_; clear hK K
      refine wpR_pu 4 #[true, true, false, true, true, false, false, false, false] rfl onlyN_noPanic (by kernel_rfl) (fun K hK => ?_); (go_simp; try go_bits); refine hK _ ?_; clear hK K
      refine wpR_pu 5 #[true, true, false, true, true, true, false, false, false] rfl onlyN_noPanic (by kernel_rfl) (fun K hK => ?_); (go_simp; try go_bits); refine hK _ ?_; clear hK K
      refine wpR_held (i := 6) (v := (.int .i64 g)) #[true, true, false, true, true, true, true, false, false] rfl onlyN_noPanic (by kernel_rfl) rfl (.inl ⟨rfl, fun w' hT => ?_⟩) ?_
      · subst hT; go_simp
      simp only [Act.put, List.setIfInBounds_toArray, List.set_cons_zero, List.set_cons_succ]
      refine wpR_keep #[true, true, true, true, true, true, true, false, false] (i := 2) rfl (by kernel_rfl) (fun K hK => ?_)
      go_simp
      refine (wal_need size _ (by unfold wf64; omega)).mono ?_
      rintro e w3 ⟨rfl, hw3⟩; subst w3; refine hK _ _ rfl ?_; clear hK K
      refine wpR_rd 7 #[true, true, true, true, true, true, true, true, false] rfl onlyN_noPanic (by kernel_rfl) (fun K hK => ?_); (go_simp; try go_bits); refine hK _ ?_; clear hK K
      refine wpR_rd 8 #[true, true, true, true, true, true, true, true, true] rfl onlyN_noPanic (by kernel_rfl) (fun K hK => ?_); (go_simp; try go_bits); refine hK _ ?_; clear hK K
      refine wpR_done (by kernel_rfl) ?_ _
      simp only [OnlyN]
      rw [← HPW.out.2.2.2]
      have h1d := HPW.out.2.1.drew
      rw [← HPL.out] at h1d
      have HS0 : Aside (Sat E w1.drew (HP.row 5 1 (.slice (some ⟨gP, oP, none⟩) pl cv) pl (b8s p) * (HP.pt br (.cells #[.pointer (some ⟨d, 0, none⟩), .string name, .int .i64 ((at_ + 1 : Nat) : Int), .int .i64 (en : Int), .int .i64 g, .slice (some ⟨gP, oP, none⟩) pl cv] 155) * (HP.disk d A * q)))) := ⟨h1d.s2⟩
      clear h1d k4
      go_wp2
      clear k5
      go_loopw [8, 9] (fun v8 v9 wr => ∃ (k a : Nat) (text last : List Int) (At Al : Option Addr) (ct cl : Nat) (R : HP), v9 = .int .i64 ((k + 1 : Nat) : Int) ∧ v8 = .slice At text.length ct ∧ k + 1 ≤ 10001 ∧ text.length ≤ 106 * (k + 1) ∧ 4 ≤ text.length ∧ text.length ≤ ct ∧ ct ≤ maxLen ∧ last.length ≤ 106 ∧ Aside (Bytes text ∧ k ≤ (N - 1).toNat ∧ moreW A name g en ((N - 1).toNat - k) a last text = moreW A name g en (N - 1).toNat (at_ + 1) p p) ∧ Aside (Sat E wr (R * (HP.pt br (.cells #[.pointer (some ⟨d, 0, none⟩), .string name, .int .i64 (a : Int), .int .i64 (en : Int), .int .i64 g, .slice Al last.length cl] 155) * (HP.disk d A * q))) ∧ ∀ w' q', Sat E w' (R * q') → Cells w' At (b8s text) ∧ Cells w' Al (b8s last))) (fun _ i _ => (N - intOf i).toNat)
      case atStart => exact ⟨0, at_ + 1, p, p, some ⟨gP, oP, none⟩, some ⟨gP, oP, none⟩, cv, cv, _, rfl, by rw [← HPL.out], by omega, by rw [← HPL.out]; omega, by rw [← HPL.out]; omega, by rw [← HPL.out]; omega, by first | omega | (have := HCM.out; omega), by rw [← HPL.out]; omega, ⟨HPW.out.1, by omega, by rw [Nat.sub_zero]⟩, ⟨by rw [← HPL.out]; exact HS0.out, fun w' q' h => ⟨h.row_cells, h.row_cells⟩⟩⟩
      case round =>
        obtain ⟨k, a, text, last, At, Al, ct, cl, R, rfl, rfl, hk1, htl, ht4, htc, htm, hll, HM, HS⟩ := hrel
        clear HS0
        have k5 := HS.out.1.right.cell 5
        simp only [List.getElem?_toArray, List.getElem?_cons_zero, List.getElem?_cons_succ] at k5
        obtain ⟨tl, htle⟩ : ∃ tl, tl = text.length := ⟨_, rfl⟩
        obtain ⟨ll, hlle⟩ : ∃ ll, ll = last.length := ⟨_, rfl⟩
        obtain ⟨i, hi⟩ : ∃ i, i = k + 1 := ⟨_, rfl⟩
        rw [← htle] at htl ht4 htc ⊢
        rw [← hlle] at k5 hll
        rw [← hi]
        have HE := Aside.mk (And.intro htle (And.intro hlle hi))
        have hi1 : i ≤ 10001 := by omega
        have hti : tl ≤ 106 * i := by omega
        clear htle hlle
        by_cases hlt : (i : Int) < N
        · obtain ⟨c, hc⟩ : ∃ c, (N - 1).toNat - k = c + 1 := ⟨(N - 1).toNat - k - 1, by omega⟩
          have HM2 : Aside (moreW A name g en (N - 1).toNat (at_ + 1) p p = if last.length = 106 ∧ a < en ∧ 0 ≤ (getP A name a).1 ∧ (getP A name a).1 = g then moreW A name g en c (a + 1) (getP A name a).2 (text ++ (getP A name a).2) else none) := ⟨by
            rw [← HM.out.2.2, hc]; rfl⟩
          have HCC : Aside ((N - 1).toNat - (k + 1) = c ∧ k + 1 ≤ (N - 1).toNat) := ⟨by omega, by omega⟩
          clear hc hi hk1
          by_cases hl6 : ll = 106
          · have hl6b : ((ll : Int) != 106) = false := by rw [hl6]; rfl
            have hl6c : (ll : Int) = 106 := by omega
            have HL6 := Aside.mk hl6
            have HNX := Aside.mk (next_ok E (R * q) d br A name a en g (.slice Al last.length cl) wr HX.out hen (fun f hf c hc => HQ.out.2 f hf a c hc) (fun w h => HQ.out.1 w h.right) (HS.out.1.perm (by ac_rfl)))
            have hsm2 := getP_smallW A name a
            have hpb2 := getP_bytesW (i := a) (fun f hf c hc => HQ.out.2 f hf a c hc)
            clear hl6
            go_wp2_with fail
            refine HNX.out.mono ?_
            intro e w4 h4
            clear HNX
            unfold nextEnd at h4
            obtain ⟨⟨g2, p2⟩, hst⟩ : ∃ st, st = getP A name a := ⟨_, rfl⟩
            rw [← hst] at h4 hsm2 hpb2 HM2
            clear hst
            dsimp only at h4 hsm2 hpb2 HM2
            rcases h4 with ⟨hlt3, hg3, Av2, cv2, rfl, hcv2, h4⟩ | ⟨hno, rfl, h4⟩
            · have k4 := h4.cell 4
              have k5b := h4.cell 5
              simp only [List.getElem?_toArray, List.getElem?_cons_zero, List.getElem?_cons_succ] at k4 k5b
              clear k5
              by_cases hgg : g2 = g
              · subst hgg
                rw [if_pos ⟨by rw [← HE.out.2.1]; exact HL6.out, hlt3, hg3, rfl⟩] at HM2
                have hck := HS.out.2
                have ht8 : text.length = tl := HE.out.1.symm
                have HT := Aside.mk (And.intro ht8 (And.intro HM.out.1 hpb2))
                obtain ⟨pl2, hpl2⟩ : ∃ pl2, pl2 = p2.length := ⟨_, rfl⟩
                rw [← hpl2] at h4 hsm2 hcv2 k5b
                have HP2 := Aside.mk hpl2
                have h5 := h4.alloc (.cells #[.slice At tl ct, .slice Av2 pl2 cv2] 52)
                have HCK : Aside (∀ w', Sat E w' (HP.pt br (.cells #[.pointer (some ⟨d, 0, none⟩), .string name, .int .i64 ((a + 1 : Nat) : Int), .int .i64 (en : Int), .int .i64 g2, .slice Av2 pl2 cv2] 155) * (HP.row 5 1 (.slice Av2 pl2 cv2) pl2 (b8s p2) * (HP.disk d A * (R * q)))) → Cells w' At (b8s text) ∧ Cells w' Av2 (b8s p2)) := ⟨fun w' h => ⟨(hck w' _ (h.perm (by ac_rfl : _ = R * (HP.pt br (.cells #[.pointer (some ⟨d, 0, none⟩), .string name, .int .i64 ((a + 1 : Nat) : Int), .int .i64 (en : Int), .int .i64 g2, .slice Av2 pl2 cv2] 155) * (HP.row 5 1 (.slice Av2 pl2 cv2) pl2 (b8s p2) * (HP.disk d A * q)))))).1, h.right.row_cells⟩⟩
                have H5 := Aside.mk h5
                have HR := Aside.mk hck
                clear h4 h5 hck ht8 hpl2 hpb2 HS
                go_wp2_with fail
                refine (joined_ok E _ w4.heap.size At Av2 text p2 tl pl2 ct cv2 _ HT.out.1 HP2.out.symm (by omega) (by omega) (by omega) HCK.out H5.out).mono ?_
                rintro e w5 ⟨A5, c5, rfl, hc5, hm5, h6⟩
                have H6 : Aside (Sat E w5 ((HP.row 5 1 (.slice A5 (tl + pl2) c5) (tl + pl2) (b8s (text ++ p2)) * (HP.row 5 1 (.slice Av2 pl2 cv2) pl2 (b8s p2) * R)) * (HP.pt br (.cells #[.pointer (some ⟨d, 0, none⟩), .string name, .int .i64 ((a + 1 : Nat) : Int), .int .i64 (en : Int), .int .i64 g2, .slice Av2 p2.length cv2] 155) * (HP.disk d A * q))) ∧ ∀ w' q', Sat E w' ((HP.row 5 1 (.slice A5 (tl + pl2) c5) (tl + pl2) (b8s (text ++ p2)) * (HP.row 5 1 (.slice Av2 pl2 cv2) pl2 (b8s p2) * R)) * q') → Cells w' A5 (b8s (text ++ p2)) ∧ Cells w' Av2 (b8s p2)) := ⟨by
                  rw [← HP2.out]
                  exact h6.perm (by ac_rfl), fun w' q' h => by
                  have h7 : Sat E w' (HP.row 5 1 (.slice A5 (tl + pl2) c5) (tl + pl2) (b8s (text ++ p2)) * (HP.row 5 1 (.slice Av2 pl2 cv2) pl2 (b8s p2) * (R * q'))) := h.perm (by ac_rfl)
                  exact ⟨h7.row_cells, h7.right.row_cells⟩⟩
                have hlen : (text ++ p2).length = tl + pl2 := by rw [List.length_append, HT.out.1, HP2.out]
                have HI : Aside (Bytes (text ++ p2) ∧ k + 1 ≤ (N - 1).toNat ∧ moreW A name g2 en ((N - 1).toNat - (k + 1)) (a + 1) p2 (text ++ p2) = moreW A name g2 en (N - 1).toNat (at_ + 1) p p) := ⟨HT.out.2.1.append HT.out.2.2, HCC.out.2, by rw [HCC.out.1]; exact HM2.out.symm⟩
                have HLN := Aside.mk hlen
                clear h6 hlen HCK H5 HM2
                have hi2 : tl + pl2 ≤ 106 * (i + 1) := by omega
                have hi3 : i + 1 ≤ 10001 := by have := hN0.2.1; omega
                go_wp2
                refine ⟨⟨k + 1, a + 1, text ++ p2, p2, A5, Av2, c5, cv2, _, by rw [HE.out.2.2]; push_cast; rfl, by rw [HLN.out], by rw [← HE.out.2.2]; exact hi3, by rw [HLN.out, ← HE.out.2.2]; exact hi2, by rw [HLN.out]; omega, by rw [HLN.out]; exact hc5, hm5, by rw [← HP2.out]; exact hsm2, HI, H6⟩, by simp only [intOf]; omega⟩
              · have HX2 : Aside (recW A name en at_ = none) := ⟨by rw [HREC.out, HM2.out, if_neg (fun h => hgg h.2.2.2)]⟩
                have hgb : (g2 != g) = true := by rw [bne_iff_ne]; exact hgg
                have H4 := Aside.mk h4.right.right.drop1
                clear h4 HM2 hpb2
                go_wp2
                go_ret2
                rw [HX2.out]
                exact ⟨rfl, H4.out⟩
            · have HX2 : Aside (recW A name en at_ = none) := ⟨by rw [HREC.out, HM2.out, if_neg (fun h => hno ⟨h.2.1, h.2.2.1⟩)]⟩
              have H4 := Aside.mk h4.right.drop1
              clear h4 hno HM2
              go_wp2
              go_ret2
              rw [HX2.out]
              exact ⟨rfl, H4.out⟩
          · have HX2 : Aside (recW A name en at_ = none) := ⟨by rw [HREC.out, HM2.out, if_neg (fun h => hl6 (by rw [HE.out.2.1]; exact h.1))]⟩
            have hl6b : ((ll : Int) != 106) = true := by rw [bne_iff_ne]; omega
            have hl6c : ¬ (ll : Int) = 106 := by omega
            have H4 := Aside.mk HS.out.1.right.right
            clear HM2 HS
            go_wp2
            go_ret2
            rw [HX2.out]
            exact ⟨rfl, H4.out⟩
        · have hk0 : (N - 1).toNat - k = 0 := by omega
          have HM2 : Aside (recW A name en at_ = if N ≠ 0 ∧ tl = size + 4 then some (text.drop 4, a) else none) := ⟨by
            rw [HREC.out, ← HM.out.2.2, hk0, HE.out.1]
            rfl⟩
          have HBT := Aside.mk HM.out.1
          clear hk0 HREC HM hi hk1 k5
          by_cases hN0' : N = 0
          · have HX2 : Aside (recW A name en at_ = none) := ⟨by rw [HM2.out, if_neg (fun h => h.1 hN0')]⟩
            have H4 := Aside.mk HS.out.1.right.right
            subst hN0'
            clear HM2 HS
            go_wp2
            go_ret2
            rw [HX2.out]
            exact ⟨rfl, H4.out⟩
          · have hNb : (N == 0) = false := by rw [beq_eq_false_iff_ne]; exact hN0'
            have hsz1 : 1 ≤ size ∧ size ≤ 1000000 := by
              have h1 := HPW.out.2.2.2
              unfold wneedI at h1
              split at h1
              · exact absurd h1 hN0'
              · omega
            by_cases htz : tl = size + 4
            · have HX2 : Aside (recW A name en at_ = some (text.drop 4, a)) := ⟨by rw [HM2.out, if_pos ⟨hN0', htz⟩]⟩
              obtain ⟨hS1, hS2⟩ := HS.out
              have hcl := (hS2 _ _ hS1).1
              obtain ⟨a0, rfl, -⟩ := hcl.at_ 0 (by rw [b8s_length, ← HE.out.1]; omega)
              obtain ⟨gT, oT, rfl⟩ := slice_addr hcl rfl (k := 0) (by rw [b8s_length, ← HE.out.1]; omega)
              have hcd : Cells wr (some ⟨gT, oT + 4, none⟩) (b8s (text.drop 4)) := by
                have := hcl.drop 4
                rw [addr_add] at this
                unfold b8s at this ⊢
                rw [List.map_drop]; exact this
              have HCD := Aside.mk (And.intro hcd (show (text.drop 4).length = size by rw [List.length_drop, ← HE.out.1]; omega))
              have HS1 := Aside.mk hS1
              have e1 : ((tl : Int) - 4 != (size : Int)) = false := by rw [show (tl : Int) - 4 = (size : Int) by omega]; simp
              have e2 : (tl : Int) - 4 = (size : Int) := by omega
              have e3 : (4 : Int) ≤ tl := by omega
              have e4 : tl - 4 = size := by omega
              have e5 : ¬ ct = 4 := by omega
              have e6 : tl ≤ ct := by omega
              clear hcl hcd hS1 hS2 HS HM2 htz
              go_wp2_with fail
              refine (cloneBytes_ok E _ (some ⟨gT, oT + 4, none⟩) (text.drop 4) size (ct - 4) _ HCD.out.2 hsz1.2 HS1.out HCD.out.1).mono ?_
              rintro e w5 ⟨v, rfl, h5⟩
              have H5 := Aside.mk h5.drop2
              clear h5
              go_wp2
              go_ret2
              rw [HX2.out]
              refine ⟨v, g, .slice Al last.length cl, rfl, ?_⟩
              rw [HCD.out.2]
              exact H5.out
            · have HX2 : Aside (recW A name en at_ = none) := ⟨by rw [HM2.out, if_neg (fun h => htz h.2)]⟩
              have e1 : ((tl : Int) - 4 != (size : Int)) = true := by rw [bne_iff_ne]; omega
              have e2 : ¬ (tl : Int) - 4 = (size : Int) := by omega
              have H4 := Aside.mk HS.out.1.right.right
              clear HM2 HS
              go_wp2
              go_ret2
              rw [HX2.out]
              exact ⟨rfl, H4.out⟩
  · have HX2 : Aside (recW A name en at_ = none) := ⟨by
      unfold recW
      rw [← HST.out, if_neg (fun h => hno ⟨h.1, h.2.1⟩)]⟩
    have H1 := Aside.mk h1.right
    clear h1 hno
    go_wp2
    go_ret2
    rw [HX2.out]
    exact ⟨rfl, H1.out⟩
end Go.Proofs.YtanlgadijndmaaaDoor
/- wal.Read. -/
namespace Go.Proofs.YtanlgadijndmaaaDoor
open Go.RowKit HP
set_option linter.unusedSimpArgs false
set_option linter.unusedVariables false

theorem moreW_ge {A : Dk} {name : ByteArray} {g : Int} {en : Nat} : ∀ (c a : Nat) (last text t : List Int) (a' : Nat), moreW A name g en c a last text = some (t, a') → a ≤ a'
  | 0, a, last, text, t, a', h => by
    simp only [moreW, Option.some.injEq, Prod.mk.injEq] at h
    omega
  | c + 1, a, last, text, t, a', h => by
    unfold moreW at h
    split at h
    · have := moreW_ge c (a + 1) _ _ t a' h
      omega
    · cases h
theorem recW_gt {A : Dk} {name : ByteArray} {en a : Nat} {t : List Int} {a' : Nat} (h : recW A name en a = some (t, a')) : a < a' := by
  unfold recW at h
  split at h
  · split at h
    · cases h
    · rename_i heq
      split at h
      · simp only [Option.some.injEq, Prod.mk.injEq] at h
        have := moreW_ge _ _ _ _ _ _ heq
        omega
      · cases h
  · cases h
def readEndW (E : Env) (q : HP) (d : Nat) (A : Dk) (r : Option (List (List Int))) (e : Ending) (w' : World) : Prop :=
  match r with
  | none => e = .returned (.tuple #[.slice none 0 0, .int .i64 50]) ∧ Sat E w' (HP.disk d A * q)
  | some l => ∃ V c R, ∃ ss : List (Sl Int), ss.map (·.l) = l ∧ e = .returned (.tuple #[.slice V ss.length c, .int .i64 0]) ∧ ss.length ≤ c ∧ Sat E w' (R * (HP.disk d A * q)) ∧ ∀ w'' q', Sat E w'' (R * q') → Cells w'' V (ss.map Sl.val8) ∧ ∀ s ∈ ss, Cells w'' s.A (b8s s.l)
theorem slBB : SlTy Tryd.prog 73 52 (.slice none 0 0) 1 24 := ⟨Tryd.underlying73, by kernel_rfl, rfl, by decide⟩
def sliceLenW : Value → Nat
  | .slice _ n _ => n
  | _ => 0
def readInv (E : Env) (q : HP) (d br : Nat) (A : Dk) (name : ByteArray) (en : Nat) (v : Value) (wr : World) : Prop :=
  ∃ (a c : Nat) (g : Int) (pay : Value) (R : HP) (ss : List (Sl Int)), sliceLenW v = ss.length ∧ ss.length ≤ a ∧ en ≤ a + c ∧ readG A name en c a (ss.map (·.l)) = readG A name en en 0 [] ∧
    Sat E wr (HP.row 52 1 v ss.length (ss.map Sl.val8) * (R * (HP.pt br (.cells #[.pointer (some ⟨d, 0, none⟩), .string name, .int .i64 (a : Int), .int .i64 (en : Int), .int .i64 g, pay] 155) * (HP.disk d A * q)))) ∧ ∀ w' q', Sat E w' (R * q') → ∀ s ∈ ss, Cells w' s.A (b8s s.l)
theorem val8_one (ss : List (Sl Int)) : (ss.map Sl.val8).all Value.oneCell' = true := by
  rw [List.all_eq_true]
  intro v hv
  obtain ⟨s, -, rfl⟩ := List.mem_map.1 hv
  rfl
set_option maxHeartbeats 4000000 in
set_option maxRecDepth 100000 in
theorem wal_read (E : Env) (q : HP) (d : Nat) (A : Dk) (seg : Int) (en : Nat) (w : World) (hs0 : 0 ≤ seg) (hs1 : seg ≤ 4611686018427387904) (he : en ≤ 2147483647) (hby : ∀ f ∈ halvesL (nameW seg), ∀ i c, A.cel f i = some c → Bytes c.read)
    (hq : ∀ w, Sat E w q → Quarter w ∧ Lib.TabIs Tryd.prog w "internal/strconv.uint64pow10" .u64 Lib.pow10Tab) (hw : Sat E w (HP.disk d A * q)) :
    Calls Tryd.prog 40 #[.pointer (some ⟨d, 0, none⟩), .int .i64 seg, .int .i64 en] w (readEndW E q d A (readG A (nameW seg) en en 0 [])) := by
  have hs64 : wf64 seg := by unfold wf64; omega
  have hsz : (nameW seg).size + 2 ≤ maxLen := by have := nameW_size hs64; unfold maxLen; omega
  have HQ := Aside.mk (And.intro hq (And.intro hw (And.intro hsz hs64)))
  have g0 : ¬ seg < 0 := by omega
  have g1 : ¬ 4611686018427387904 < seg := by omega
  have g2 : ¬ (en : Int) < 0 := by omega
  have g3 : ¬ 2147483647 < (en : Int) := by omega
  clear hq hw hsz hs64
  go_enter Tryd.func40, Tryd.ntmps40
  go_wp2_with fail
  refine (disk_asked E q d A _ HQ.out.2.1).mono ?_
  rintro e w1 ⟨rfl, h1⟩
  have H1 := Aside.mk h1
  clear h1
  go_wp2_with fail
  refine (wal_name E _ seg _ HQ.out.2.2.2 (fun w' h => (HQ.out.1 _ h.right).2) H1.out).mono ?_
  rintro e w2 ⟨rfl, h2⟩
  obtain ⟨name, hname⟩ : ∃ name, name = nameW seg := ⟨_, rfl⟩
  rw [← hname] at hby HQ ⊢
  have HBY := Aside.mk hby
  have HNM := Aside.mk hname
  clear hname hby
  obtain ⟨br, hbr⟩ : ∃ br, br = w2.heap.size := ⟨_, rfl⟩
  have h3 := h2.alloc (.cells #[.pointer (some ⟨d, 0, none⟩), .string name, .int .i64 0, .int .i64 (en : Int), .int .i64 0, .slice none 0 0] 155)
  rw [← hbr] at h3
  have H3 : Aside (readInv E q d br A name en (.slice none 0 0) (w2.alloc (.cells #[.pointer (some ⟨d, 0, none⟩), .string name, .int .i64 0, .int .i64 (en : Int), .int .i64 0, .slice none 0 0] 155))) :=
    ⟨0, en, 0, .slice none 0 0, HP.emp, [], rfl, Nat.le_refl _, by omega, rfl, (h3.emp_intro).row_nil _ _ _, fun _ _ _ s hs => by cases hs⟩
  clear h2 h3 H1
  go_wp2
  rw [← hbr]
  clear hbr
  go_loopw [9] (fun v9 wr => Aside (readInv E q d br A name en v9 wr)) (fun v _ => en - sliceLenW v)
  case atStart => exact H3
  case round =>
    clear H3
    obtain ⟨a, c, g, pay, R, ss, hsl, hsa, hac, hrd, hS, hR⟩ := hrel.out
    have k2 := hS.right.right.cell 2
    simp only [List.getElem?_toArray, List.getElem?_cons_zero, List.getElem?_cons_succ] at k2
    obtain ⟨V, cV, rfl, hcV, hmV⟩ := hS.row_slice
    by_cases hlt : a < en
    · have hlt2 : (a : Int) < en := by omega
      obtain ⟨c2, rfl⟩ : ∃ c2, c = c2 + 1 := ⟨c - 1, by omega⟩
      have HRD : Aside (readG A name en en 0 [] = match recW A name en a with | none => none | some (t, a') => readG A name en c2 a' (ss.map (·.l) ++ [t])) := ⟨by
        rw [← hrd]
        conv => lhs; unfold readG
        rw [if_pos hlt]
        try rfl⟩
      have HREC := Aside.mk (record_ok E (HP.row 52 1 (.slice V ss.length cV) ss.length (ss.map Sl.val8) * (R * q)) d br A name a en g pay wr HQ.out.2.2.1 he HBY.out (fun w h => (HQ.out.1 w h.right.right).1) (hS.perm (by ac_rfl)))
      obtain ⟨n, hn⟩ : ∃ n, n = ss.length := ⟨_, rfl⟩
      rw [← hn] at HREC hsa ⊢
      have hn31 : n ≤ 2147483647 := by omega
      have HN := Aside.mk (And.intro hn hR)
      clear hS hrd hsl hn hR hrel hcV hmV
      go_wp2_with fail
      refine HREC.out.mono ?_
      intro e w4 h4
      clear HREC
      cases hrec : recW A name en a with
      | none =>
        rw [hrec] at h4 HRD
        obtain ⟨rfl, h4⟩ := h4
        have H4 := Aside.mk ((h4.perm (by ac_rfl : _ = HP.row 52 1 (.slice V n cV) n (ss.map Sl.val8) * (R * (HP.disk d A * q)))).right.right)
        clear h4
        go_wp2
        go_ret2
        rw [← HNM.out, HRD.out]
        exact ⟨rfl, H4.out⟩
      | some ta =>
        obtain ⟨t, a'⟩ := ta
        have hgt := recW_gt hrec
        rw [hrec] at h4 HRD
        dsimp only at HRD
        obtain ⟨v, g', pay', rfl, h4⟩ := h4
        obtain ⟨At, ct, rfl, hct, -⟩ := h4.row_slice
        obtain ⟨tl, htl⟩ : ∃ tl, tl = t.length := ⟨_, rfl⟩
        have h5 : Sat E w4 (HP.row 52 1 (.slice V n cV) n (ss.map Sl.val8) * ((HP.row 5 1 (.slice At t.length ct) t.length (b8s t) * R) * (HP.pt br (.cells #[.pointer (some ⟨d, 0, none⟩), .string name, .int .i64 (a' : Int), .int .i64 (en : Int), .int .i64 g', pay'] 155) * (HP.disk d A * q)))) := h4.perm (by ac_rfl)
        rw [← htl] at h5 ⊢
        have H5 := Aside.mk (And.intro (h5.alloc (.cells [Value.slice At tl ct].toArray 52)).right (And.intro (Cells.fresh w4 [Value.slice At tl ct] 52 (0, 0)) (show [Value.slice At tl ct].length = 1 * 1 from rfl)))
        have HT := Aside.mk (And.intro htl hgt)
        clear h4 h5 htl hgt hrec
        go_wp2_with (at_builtin; refine wpList_append_row slBB rfl rfl (by rfl) (by rfl) H5.out.1 H5.out.2.1 H5.out.2.2 rfl (by unfold maxLen; omega) (by omega) (fun v5 w5 hw5 => ?_); have HW5 := Aside.mk hw5; clear hw5)
        have HI : Aside (readInv E q d br A name en v5 w5) := ⟨by
          have hv := HW5.out
          obtain ⟨A5, c5, rfl, -, -⟩ := hv.row_slice
          refine ⟨a', c2, g', pay', (HP.row 5 1 (.slice At tl ct) tl (b8s t) * R), ss ++ [⟨At, ct, t⟩], by rw [List.length_append, ← HN.out.1]; rfl, by rw [List.length_append, ← HN.out.1]; have := HT.out.2; simp only [List.length_cons, List.length_nil]; omega, by have := HT.out.2; omega, ?_, ?_, ?_⟩
          · rw [List.map_append]
            exact HRD.out.symm
          · rw [List.length_append, List.map_append, ← HN.out.1]
            have e : ([(⟨At, ct, t⟩ : Sl Int)].map Sl.val8) = [Value.slice At tl ct] := by rw [HT.out.1]; rfl
            rw [e]
            exact hv
          · intro w' q' h s hs
            have h7 : Sat E w' (HP.row 5 1 (.slice At tl ct) tl (b8s t) * (R * q')) := h.perm (by ac_rfl)
            rcases List.mem_append.1 hs with hs | hs
            · exact HN.out.2 w' _ h7.right s hs
            · obtain rfl := List.mem_singleton.1 hs
              exact h7.row_cells⟩
        have hme : en - sliceLenW v5 < en - n := by
          obtain ⟨A5, c5, rfl, -, -⟩ := HW5.out.row_slice
          simp only [sliceLenW]
          omega
        clear HW5 H5
        go_wp2
        first
          | exact ⟨HI, hme⟩
          | (go_roundw; exact HI; exact hme)
    · have hlt2 : ¬ (a : Int) < en := by omega
      have HX : Aside (readG A name en en 0 [] = some (ss.map (·.l))) := ⟨by
        rw [← hrd]
        cases c with
        | zero => rfl
        | succ c => unfold readG; rw [if_neg hlt]⟩
      have H4 : Aside (Sat E wr ((HP.row 52 1 (.slice V ss.length cV) ss.length (ss.map Sl.val8) * R) * (HP.disk d A * q))) := ⟨(hS.perm (by ac_rfl : _ = HP.pt br (.cells #[.pointer (some ⟨d, 0, none⟩), .string name, .int .i64 (a : Int), .int .i64 (en : Int), .int .i64 g, pay] 155) * ((HP.row 52 1 (.slice V ss.length cV) ss.length (ss.map Sl.val8) * R) * (HP.disk d A * q)))).right⟩
      have HR := Aside.mk (And.intro hR hcV)
      obtain ⟨n, hn⟩ : ∃ n, n = ss.length := ⟨_, rfl⟩
      have HN := Aside.mk hn
      rw [← hn]
      clear hS hrd hsl hR hrel hsa hac hcV hmV hn
      go_wp2
      go_ret2
      rw [← HNM.out, HX.out, HN.out]
      refine ⟨V, cV, _, ss, rfl, rfl, HR.out.2, H4.out, fun w'' q' h => ?_⟩
      have h7 : Sat E w'' (HP.row 52 1 (.slice V ss.length cV) ss.length (ss.map Sl.val8) * (R * q')) := h.perm (by ac_rfl)
      exact ⟨h7.row_cells, fun s hs => HR.out.1 _ _ h7.right s hs⟩
end Go.Proofs.YtanlgadijndmaaaDoor
