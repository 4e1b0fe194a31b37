/- Texts of one claim, one behind the other: NewerP, NewerW, Laid. -/
import Derived.Test.YtldpaicignmnkaaDoorNw5
import Derived.Laws.Bits64
import Derived.LaidMore
import Derived.Stop.Joined
/- PairNewer, the plain part: what is written is read, and of two extents the newer one counts. -/
namespace Go.Proofs.YtldpaicignmnkaaDoor
open Go.RowKit HP
set_option linter.unusedSimpArgs false
set_option linter.unusedVariables false

theorem extI_parts {f : ByteArray} {i g : Nat} {p : List Int} (h : p.length ≤ 106) :
    (extI f i g p).getD 17 0 = p.length ∧ ((extI f i g p).drop 9).take 8 = putI g 8 ∧ ((extI f i g p).drop 18).take p.length = p := by
  have e : extI f i g p = ([229] ++ putI (crcSum (strB f)) 4 ++ putI i 4) ++ (putI g 8 ++ ((p.length : Int) :: (p ++ (List.replicate (106 - p.length) 0 ++ putI (crcSum (extH f i g p)) 4)))) := by
    unfold extI
    conv => lhs; arg 1; unfold extH
    simp only [List.append_assoc, List.cons_append, List.nil_append]
  have l1 : ([229] ++ putI (crcSum (strB f)) 4 ++ putI i 4 : List Int).length = 9 := by simp [putI_length]
  have d9 : (extI f i g p).drop 9 = putI g 8 ++ ((p.length : Int) :: (p ++ (List.replicate (106 - p.length) 0 ++ putI (crcSum (extH f i g p)) 4))) := by
    rw [e, ← l1, List.drop_left]
  have d17 : (extI f i g p).drop 17 = (p.length : Int) :: (p ++ (List.replicate (106 - p.length) 0 ++ putI (crcSum (extH f i g p)) 4)) := by
    rw [show 17 = 9 + 8 from rfl, ← List.drop_drop, d9, List.drop_left' (putI_length g 8)]
  refine ⟨?_, ?_, ?_⟩
  · have := congrArg (fun l => l[0]?) d17
    simp only [List.getElem?_drop, Nat.add_zero, List.getElem?_cons_zero] at this
    simp [List.getD, this]
  · rw [d9]
    have := putI_length g 8
    rw [List.take_append_of_le_length (by omega), List.take_of_length_le (by omega)]
  · rw [show 18 = 17 + 1 from rfl, ← List.drop_drop, d17, List.drop_one, List.tail_cons, List.take_left]
theorem openI_extI {f : ByteArray} {i g : Nat} {p : List Int} (hi : i ≤ 2147483647) (hg : g ≤ 4611686018427387904) (h : p.length ≤ 106) : openI (extI f i g p) f i = some (p, g) := by
  obtain ⟨h1, h2, h3⟩ := extI_parts (f := f) (i := i) (g := g) h
  unfold openI
  rw [h1, h2, Int.toNat_natCast, Int.toNat_natCast, h3, getN_putI 8 g (by omega)]
  rw [if_neg (by rw [extI_length h]; omega), if_neg (by omega), if_neg (by simp)]

def stl (I : List Int) : Cel := ⟨I, I, I, I, false⟩
theorem stl_sync (c : Cel) (I : List Int) : (c.wrote I).syncd = stl I := rfl
structure TwoNames (fa fb : ByteArray) : Prop where
  na : namedB fa = true
  nb : namedB fb = true
  ne : fa ≠ fb
  lt : ltN fa fb = true
  gt : ltN fb fa = false
def wr1 (A : Dk) (f : ByteArray) (i : Int) (I : List Int) : Int × Dk := if (A.write f i I).1 = 0 then (A.write f i I).2.sync f else A.write f i I
def put2 (A : Dk) (fa fb : ByteArray) (i : Int) (Ia Ib : List Int) : Int × Dk :=
  if (wr1 A fa i Ia).1 = 0 then (if (wr1 (wr1 A fa i Ia).2 fb i Ib).1 = 0 then (0, (wr1 (wr1 A fa i Ia).2 fb i Ib).2) else wr1 (wr1 A fa i Ia).2 fb i Ib) else wr1 A fa i Ia
theorem wrF_one {A : Dk} {f : ByteArray} {i g : Nat} {p : List Int} (hf : FrameOk i g p.length) : wrF A f g i [p] = wr1 A f i (extI f i g p) := by
  unfold wrF wr1
  rw [if_neg (by simpa using hf)]
  rfl
theorem putP_two {A : Dk} {x : ByteArray} {i g : Nat} {p : List Int} (hf : FrameOk i g p.length) : putP A x i g p = put2 A (x ++ dotA) (x ++ dotB) i (extI (x ++ dotA) i g p) (extI (x ++ dotB) i g p) := by
  unfold putP
  rw [if_pos hf, Int.toNat_natCast, Int.toNat_natCast]
  unfold wrP halvesL
  simp only [wrL, wrF_one hf]
  rfl
def two (room fuse : Int) (fa fb : ByteArray) (a b : Cel) : Dk := ⟨room, fuse, [(fa, [a]), (fb, [b])]⟩
section
variable {fa fb : ByteArray} {Ia Ib : List Int} (T : TwoNames fa fb) (la : Ia.length = 128) (lb : Ib.length = 128)
include T la lb
theorem put_first : put2 (Dk.new 4) fa fb 0 Ia Ib = (0, two 4 (-1) fa fb (stl Ia) (stl Ib)) := by
  obtain ⟨na, nb, ne, lt, gt⟩ := T
  have ne' := Ne.symm ne
  simp [put2, wr1, Dk.write, Dk.sync, Dk.new, Dk.at, Dk.free, Dk.goes, Dk.burnt, burnI, Dk.set, lk_nil, lk_cons, putF, sizeF, na, nb, ne, ne', lt, gt, la, lb, stl_sync, two]
theorem put_again (n : Nat) (hn : n < 5) (a b : Cel) : put2 (two 4 n fa fb a b) fa fb 0 Ia Ib =
    match n with
    | 0 => (31, two 4 0 fa fb a b)
    | 1 => (31, two 4 0 fa fb (a.wrote Ia) b)
    | 2 => (31, two 4 0 fa fb (stl Ia) b)
    | 3 => (31, two 4 0 fa fb (stl Ia) (b.wrote Ib))
    | _ => (0, two 4 0 fa fb (stl Ia) (stl Ib)) := by
  obtain ⟨na, nb, ne, lt, gt⟩ := T
  have ne' := Ne.symm ne
  match n, hn with
  | 0, _ => simp [put2, wr1, Dk.write, Dk.sync, Dk.new, Dk.at, Dk.free, Dk.goes, Dk.burnt, burnI, Dk.set, lk_nil, lk_cons, putF, sizeF, na, nb, ne, ne', lt, gt, la, lb, stl_sync, two]
  | 1, _ => simp [put2, wr1, Dk.write, Dk.sync, Dk.new, Dk.at, Dk.free, Dk.goes, Dk.burnt, burnI, Dk.set, lk_nil, lk_cons, putF, sizeF, na, nb, ne, ne', lt, gt, la, lb, stl_sync, two]
  | 2, _ => simp [put2, wr1, Dk.write, Dk.sync, Dk.new, Dk.at, Dk.free, Dk.goes, Dk.burnt, burnI, Dk.set, lk_nil, lk_cons, putF, sizeF, na, nb, ne, ne', lt, gt, la, lb, stl_sync, two]
  | 3, _ => simp [put2, wr1, Dk.write, Dk.sync, Dk.new, Dk.at, Dk.free, Dk.goes, Dk.burnt, burnI, Dk.set, lk_nil, lk_cons, putF, sizeF, na, nb, ne, ne', lt, gt, la, lb, stl_sync, two]
  | 4, _ => simp [put2, wr1, Dk.write, Dk.sync, Dk.new, Dk.at, Dk.free, Dk.goes, Dk.burnt, burnI, Dk.set, lk_nil, lk_cons, putF, sizeF, na, nb, ne, ne', lt, gt, la, lb, stl_sync, two]
end
theorem crash_wrote (I J : List Int) : (((stl I).wrote J).crashd 0).read = I := by simp [stl, Cel.wrote, Cel.crashd]
theorem crash_stl (I : List Int) : (stl I).crashd 0 = stl I := by simp [stl, Cel.crashd]
theorem crash_two (room fuse : Int) (fa fb : ByteArray) (a b : Cel) : (two room fuse fa fb a b).crash [] = two room (-1) fa fb (a.crashd 0) (b.crashd 0) := by
  have h : ∀ s i, keepOf [] s i = 0 := fun s i => rfl
  simp [two, Dk.crash, crashL, h]
theorem cel_a {room fuse : Int} {fa fb : ByteArray} {a b : Cel} : (two room fuse fa fb a b).cel fa 0 = some a := by simp [two, Dk.cel, Dk.at, lk_cons]
theorem cel_b {room fuse : Int} {fa fb : ByteArray} {a b : Cel} (h : fa ≠ fb) : (two room fuse fa fb a b).cel fb 0 = some b := by simp [two, Dk.cel, Dk.at, lk_cons, h]
/-- Of two halves that are right the greater generation counts; of two alike the first. -/
theorem get_two {x : ByteArray} (h : x ++ dotA ≠ x ++ dotB) {room fuse : Int} {ca cb : Cel} {ga gb : Nat} (ha : ga ≤ 4611686018427387904) (hb : gb ≤ 4611686018427387904) {pa pb : List Int} (la : pa.length ≤ 106) (lb : pb.length ≤ 106)
    (ra : ca.read = extI (x ++ dotA) 0 ga pa) (rb : cb.read = extI (x ++ dotB) 0 gb pb) :
    getP (two room fuse (x ++ dotA) (x ++ dotB) ca cb) x 0 = if (gb : Int) ≤ ga then ((ga : Int), pa) else ((gb : Int), pb) := by
  have oa := openI_extI (f := x ++ dotA) (i := 0) (by omega) ha la
  have ob := openI_extI (f := x ++ dotB) (i := 0) (by omega) hb lb
  simp only [Int.ofNat_zero, Int.natCast_zero] at oa ob
  rw [← ra] at oa
  rw [← rb] at ob
  unfold getP halvesL
  simp only [List.foldl_cons, List.foldl_nil]
  rw [show getF _ 0 (-1, []) (x ++ dotA) = ((ga : Int), pa) by simp only [getF, cel_a, oa]; rw [if_neg (by show ¬ (ga : Int) ≤ -1; omega)]]
  simp only [getF, cel_b h, ob]
def exS : ByteArray := ⟨#[120]⟩
theorem twoEx : TwoNames (exS ++ dotA) (exS ++ dotB) := ⟨by kernel_rfl, by kernel_rfl, by decide, by kernel_rfl, by kernel_rfl⟩
structure NewerEnd (n : Nat) (a b : List Int) (c : Int) (A : Dk) : Prop where
  code : c = 0 ↔ n = 4
  got : getP (A.crash []) exS 0 = if 2 ≤ n then (6, b) else (5, a)
  bytes : ∀ f ∈ halvesL exS, ∀ c, (A.crash []).cel f 0 = some c → Bytes c.read
theorem newer_all {a b : List Int} (la : a.length ≤ 106) (lb : b.length ≤ 106) (ba : Bytes a) (bb : Bytes b) :
    ∃ A1, putP (Dk.new 4) exS 0 5 a = (0, A1) ∧ ∀ n : Nat, n < 5 → NewerEnd n a b (putP { A1 with fuse := n } exS 0 6 b).1 (putP { A1 with fuse := n } exS 0 6 b).2 := by
  have f5 : FrameOk ((0 : Nat) : Int) ((5 : Nat) : Int) a.length := ⟨by omega, by omega, by omega, by omega, la⟩
  have f6 : FrameOk ((0 : Nat) : Int) ((6 : Nat) : Int) b.length := ⟨by omega, by omega, by omega, by omega, lb⟩
  have p5 : putP (Dk.new 4) exS 0 5 a = _ := putP_two (A := Dk.new 4) (x := exS) f5
  rw [show ((0 : Nat) : Int) = 0 from rfl, put_first twoEx (extI_length la) (extI_length la)] at p5
  refine ⟨_, p5, fun n hn => ?_⟩
  have p6 : putP (two 4 n (exS ++ dotA) (exS ++ dotB) (stl (extI (exS ++ dotA) 0 5 a)) (stl (extI (exS ++ dotB) 0 5 a))) exS 0 6 b = _ := putP_two (x := exS) f6
  rw [show ((0 : Nat) : Int) = 0 from rfl, put_again twoEx (extI_length lb) (extI_length lb) n hn] at p6
  have key : ∀ (A : Dk) (ca cb : Cel) (ga gb : Nat) (pa pb : List Int), A.crash [] = two 4 (-1) (exS ++ dotA) (exS ++ dotB) ca cb → ca.read = extI (exS ++ dotA) 0 ga pa → cb.read = extI (exS ++ dotB) 0 gb pb → ga ≤ 6 → gb ≤ 6 → pa.length ≤ 106 → pb.length ≤ 106 → Bytes pa → Bytes pb →
      getP (A.crash []) exS 0 = (if (gb : Int) ≤ ga then ((ga : Int), pa) else ((gb : Int), pb)) ∧ ∀ f ∈ halvesL exS, ∀ c, (A.crash []).cel f 0 = some c → Bytes c.read := by
    intro A ca cb ga gb pa pb hA ra rb hga hgb lpa lpb bpa bpb
    rw [hA]
    refine ⟨get_two twoEx.ne (by omega) (by omega) lpa lpb ra rb, fun f hf c hc => ?_⟩
    rcases List.mem_cons.1 hf with rfl | hf
    · rw [cel_a] at hc
      cases hc
      rw [ra]; exact extI_bytes lpa bpa
    · obtain rfl := List.mem_singleton.1 hf
      rw [cel_b twoEx.ne] at hc
      cases hc
      rw [rb]; exact extI_bytes lpb bpb
  show NewerEnd n a b (putP (two 4 n (exS ++ dotA) (exS ++ dotB) (stl (extI (exS ++ dotA) 0 5 a)) (stl (extI (exS ++ dotB) 0 5 a))) exS 0 6 b).1 (putP (two 4 n (exS ++ dotA) (exS ++ dotB) (stl (extI (exS ++ dotA) 0 5 a)) (stl (extI (exS ++ dotB) 0 5 a))) exS 0 6 b).2
  rw [p6]
  match n, hn with
  | 0, _ => exact ⟨show ((31 : Int) = 0 ↔ (0 : Nat) = 4) by decide, (key _ _ _ 5 5 a a (crash_two ..) rfl rfl (by omega) (by omega) la la ba ba).1, (key _ _ _ 5 5 a a (crash_two ..) rfl rfl (by omega) (by omega) la la ba ba).2⟩
  | 1, _ => exact ⟨show ((31 : Int) = 0 ↔ (1 : Nat) = 4) by decide, (key _ _ _ 5 5 a a (crash_two ..) (crash_wrote _ _) rfl (by omega) (by omega) la la ba ba).1, (key _ _ _ 5 5 a a (crash_two ..) (crash_wrote _ _) rfl (by omega) (by omega) la la ba ba).2⟩
  | 2, _ => exact ⟨show ((31 : Int) = 0 ↔ (2 : Nat) = 4) by decide, (key _ _ _ 6 5 b a (crash_two ..) rfl rfl (by omega) (by omega) lb la bb ba).1, (key _ _ _ 6 5 b a (crash_two ..) rfl rfl (by omega) (by omega) lb la bb ba).2⟩
  | 3, _ => exact ⟨show ((31 : Int) = 0 ↔ (3 : Nat) = 4) by decide, (key _ _ _ 6 5 b a (crash_two ..) rfl (crash_wrote _ _) (by omega) (by omega) lb la bb ba).1, (key _ _ _ 6 5 b a (crash_two ..) rfl (crash_wrote _ _) (by omega) (by omega) lb la bb ba).2⟩
  | 4, _ => exact ⟨show ((0 : Int) = 0 ↔ (4 : Nat) = 4) by decide, (key _ _ _ 6 6 b b (crash_two ..) rfl rfl (by omega) (by omega) lb lb bb bb).1, (key _ _ _ 6 6 b b (crash_two ..) rfl rfl (by omega) (by omega) lb lb bb bb).2⟩
end Go.Proofs.YtldpaicignmnkaaDoor
/- PairNewer: the walk. -/
namespace Go.Proofs.YtldpaicignmnkaaDoor
open Go.RowKit HP
set_option linter.unusedSimpArgs false
set_option linter.unusedVariables false

structure ByOk (s : Sl Int) : Prop where
  len : s.l.length ≤ s.cap
  cap : s.cap ≤ maxLen
  bytes : Bytes s.l
set_option maxHeartbeats 2000000 in
set_option maxRecDepth 100000 in
theorem newer_ok (E : Env) (q : HP) (A0 A1 : Option Addr) (l0 l1 : List Int) (n0 n1 c0 c1 : Nat) (fz : Int) (w : World) (hz : wf64 fz) (e0 : l0.length = n0) (e1 : l1.length = n1) (k0 : n0 ≤ c0) (k1 : n1 ≤ c1) (m0 : c0 ≤ maxLen) (m1 : c1 ≤ maxLen) (b0 : Bytes l0) (b1 : Bytes l1)
    (hq : ∀ E w, Sat E w q → Quarter w ∧ Cells w A0 (b8s l0) ∧ Cells w A1 (b8s l1)) (hw : Sat E w q) :
    Calls Tryd.prog 4 #[.slice A0 n0 c0, .slice A1 n1 c1, .int .i64 fz] w fun e w' => e = .returned (.bool true) ∧ Sat E w' q := by
  have hn0 : (if 106 < (n0 : Int) then 106 else (n0 : Int)) = (min n0 106 : Nat) := by split <;> omega
  have hn1 : (if 106 < (n1 : Int) then 106 else (n1 : Int)) = (min n1 106 : Nat) := by split <;> omega
  have HQ := Aside.mk (And.intro hq hw)
  obtain ⟨n, hn5, hzn⟩ : ∃ n : Nat, n < 5 ∧ wrap64 ((IntKind.u64.wrap fz).tmod 5) = (n : Int) := by
    rw [IntKind.wrap_u64, tmod_of_emod]
    refine ⟨(fz % 18446744073709551616 % 5).toNat, by omega, ?_⟩
    rw [Int.toNat_of_nonneg (by omega)]
    unfold wrap64
    omega
  clear hz
  have L0 : Aside ((l0.take (min n0 106)).length = min n0 106 ∧ min n0 106 ≤ 106) := ⟨by rw [List.length_take]; omega, by omega⟩
  have L1 : Aside ((l1.take (min n1 106)).length = min n1 106 ∧ min n1 106 ≤ 106) := ⟨by rw [List.length_take]; omega, by omega⟩
  obtain ⟨A1', hput, hall⟩ := newer_all (a := l0.take (min n0 106)) (b := l1.take (min n1 106)) (by rw [L0.out.1]; exact L0.out.2) (by rw [L1.out.1]; exact L1.out.2) (fun x hx => b0 x (List.mem_of_mem_take hx)) (fun x hx => b1 x (List.mem_of_mem_take hx))
  have HA := Aside.mk (And.intro hput hall)
  have HB := Aside.mk (And.intro b0 (And.intro b1 (And.intro e0 e1)))
  have r0 : min n0 106 ≤ n0 := Nat.min_le_left _ _
  have r1 : min n1 106 ≤ n1 := Nat.min_le_left _ _
  obtain ⟨p0, hp0⟩ : ∃ p0, p0 = min n0 106 := ⟨_, rfl⟩
  obtain ⟨p1, hp1⟩ : ∃ p1, p1 = min n1 106 := ⟨_, rfl⟩
  rw [← hp0] at hn0 L0 HA r0
  rw [← hp1] at hn1 L1 HA r1
  have s0 : p0 ≤ c0 := by omega
  have s1 : p1 ≤ c1 := by omega
  clear hq hw hput hall b0 b1 e0 e1 hp0 hp1
  go_enter Tryd.func4, Tryd.ntmps4
  go_wp2
  refine region_R [] [] (fun _ => True) #[false, false, false, false, false, false, false, false, false, false, false, false] (by kernel_rfl) rfl rfl ?_
  refine wpR_rd 0 #[true, false, false, false, false, false, false, false, false, false, false, false] rfl onlyN_noPanic (by kernel_rfl) (fun K hK => ?_); (go_simp; try go_bits); refine hK _ ?_; clear hK K
  refine wpR_rd 1 #[true, true, false, false, false, false, false, false, false, false, false, false] rfl onlyN_noPanic (by kernel_rfl) (fun K hK => ?_); (go_simp; try go_bits); refine hK _ ?_; clear hK K
  refine wpR_rd 2 #[true, true, true, false, false, false, false, false, false, false, false, false] rfl onlyN_noPanic (by kernel_rfl) (fun K hK => ?_); (go_simp; try go_bits); refine hK _ ?_; clear hK K
  refine wpR_rd 3 #[true, true, true, true, false, false, false, false, false, false, false, false] rfl onlyN_noPanic (by kernel_rfl) (fun K hK => ?_); (go_simp; try go_bits); refine hK _ ?_; clear hK K
  refine wpR_rd 4 #[true, true, true, true, true, false, false, false, false, false, false, false] rfl onlyN_noPanic (by kernel_rfl) (fun K hK => ?_); (go_simp; try go_bits); refine hK _ ?_; clear hK K
  refine wpR_rd 5 #[true, true, true, true, true, true, false, false, false, false, false, false] rfl onlyN_noPanic (by kernel_rfl) (fun K hK => ?_); (go_simp; try go_bits); refine hK _ ?_; clear hK K
  refine wpR_rd 6 #[true, true, true, true, true, true, true, false, false, false, false, false] rfl onlyN_noPanic (by kernel_rfl) (fun K hK => ?_); (go_simp; try go_bits); refine hK _ ?_; clear hK K
  refine wpR_rd 7 #[true, true, true, true, true, true, true, true, false, false, false, false] rfl onlyN_noPanic (by kernel_rfl) (fun K hK => ?_); (go_simp; try go_bits); refine hK _ ?_; clear hK K
  refine wpR_rd 8 #[true, true, true, true, true, true, true, true, true, false, false, false] rfl onlyN_noPanic (by kernel_rfl) (fun K hK => ?_); (go_simp; try go_bits); refine hK _ ?_; clear hK K
  refine wpR_rd 9 #[true, true, true, true, true, true, true, true, true, true, false, false] rfl onlyN_noPanic (by kernel_rfl) (fun K hK => ?_); (go_simp; try go_bits); refine hK _ ?_; clear hK K
  refine wpR_rd 10 #[true, true, true, true, true, true, true, true, true, true, true, false] rfl onlyN_noPanic (by kernel_rfl) (fun K hK => ?_); (go_simp; try go_bits); refine hK _ ?_; clear hK K
  refine wpR_rd 11 #[true, true, true, true, true, true, true, true, true, true, true, true] rfl onlyN_noPanic (by kernel_rfl) (fun K hK => ?_); (go_simp; try go_bits); refine hK _ ?_; clear hK K
  refine wpR_done (by kernel_rfl) ?_ _
  simp only [OnlyN]
  have hx3 : exS.size + 2 ≤ maxLen := by show 3 ≤ maxLen; unfold maxLen; omega
  have HX3 := Aside.mk hx3
  clear hx3
  have HQ2 : Aside (∀ w, Sat E w q → Quarter w ∧ Cells w A0 (b8s (l0.take p0)) ∧ Cells w A1 (b8s (l1.take p1))) := ⟨fun w h => by
    have h1 := HQ.out.1 _ _ h
    refine ⟨h1.1, ?_, ?_⟩
    · have := h1.2.1.take p0
      unfold b8s at this ⊢
      rw [List.map_take]; exact this
    · have := h1.2.2.take p1
      unfold b8s at this ⊢
      rw [List.map_take]; exact this⟩
  have HB2 : Aside (Bytes (l0.take p0) ∧ Bytes (l1.take p1)) := ⟨fun x hx => HB.out.1 x (List.mem_of_mem_take hx), fun x hx => HB.out.2.1 x (List.mem_of_mem_take hx)⟩
  generalize l0.take p0 = t0 at *
  generalize l1.take p1 = t1 at *
  go_wp2_with fail
  refine (disk_new_ok E q 4 _ ⟨by omega, by omega⟩ HQ.out.2.drew).mono ?_
  rintro e w1 ⟨d, rfl, h1⟩
  have H1 := Aside.mk h1
  clear h1
  go_wp2_with fail
  refine (pair_put E q d (Dk.new 4) exS 0 5 A0 t0 p0 c0 _ HX3.out L0.out.1 s0 HB2.out.1 (fun w h => ⟨(HQ2.out w h).1, (HQ2.out w h).2.1⟩) H1.out).mono ?_
  rintro e w2 ⟨rfl, h2⟩
  rw [HA.out.1] at h2 ⊢
  have H2 := Aside.mk h2
  clear h2 H1
  have hn5' : (n : Int) < 5 := by omega
  go_wp2_with fail
  refine (disk_fuse_ok E q d A1' n _ (by omega) H2.out).mono ?_
  rintro e w3 (⟨h0, _, _⟩ | ⟨_, rfl, h3⟩)
  · omega
  have H3 := Aside.mk h3
  clear h3 H2
  go_wp2_with fail
  refine (pair_put E q d { A1' with fuse := n } exS 0 6 A1 t1 p1 c1 _ HX3.out L1.out.1 s1 HB2.out.2 (fun w h => ⟨(HQ2.out w h).1, (HQ2.out w h).2.2⟩) H3.out).mono ?_
  rintro e w4 ⟨rfl, h4⟩
  have ne := HA.out.2 n hn5
  obtain ⟨c, B, hr⟩ : ∃ c B, putP { A1' with fuse := n } exS 0 6 t1 = (c, B) := ⟨_, _, rfl⟩
  rw [hr] at ne h4 ⊢
  clear hr
  have NE := Aside.mk ne
  have H4 := Aside.mk h4
  clear ne h4 H3
  by_cases hn4 : n = 4
  · have hc0 : c = 0 := NE.out.code.2 hn4
    subst hc0
    subst hn4
    have HI : Aside ((if 2 ≤ 4 then ((6 : Int), t1) else (5, t0)) = (6, t1)) := ⟨rfl⟩
    go_wp2_with fail
    refine (disk_crash E q d B none [] 0 _ (by simp) (fun k hk => by cases hk) (fun E w h => Cells.nil _ _) H4.out).mono ?_
    rintro e w5 ⟨rfl, h5⟩
    have H5 := Aside.mk h5
    clear h5 H4
    go_wp2_with fail
    refine (pair_get E q d (B.crash []) exS 0 _ HX3.out NE.out.bytes (fun w h => (HQ2.out w h).1) H5.out).mono ?_
    rintro e w6 ⟨v, rfl, h6⟩
    rw [NE.out.got, HI.out] at h6 ⊢
    obtain ⟨Av, cv, rfl, -, -⟩ := h6.row_slice
    dsimp only at h6
    have H6 := Aside.mk h6
    clear h6 H5
    rw [show getEnd ((6 : Int), t1) (.slice Av t1.length cv) = .returned (.tuple #[.slice Av t1.length cv, .int .i64 6, .int .i64 0]) from rfl]
    go_wp2_with fail
    refine (bytesEq_ok Av A1 t1 t1 t1.length p1 cv c1 _ rfl L1.out.1 H6.out.row_cells (HQ2.out _ H6.out.right.right).2.2 HB2.out.2 HB2.out.2).mono ?_
    rintro e w7 ⟨rfl, rfl⟩
    rw [decide_eq_true rfl]
    clear HI
    go_wp2
    go_ret
    exact ⟨rfl, H6.out.right.right⟩
  · have hc0 : ¬ c = 0 := fun h => hn4 (NE.out.code.1 h)
    have hn4' : ¬ (n : Int) = 4 := by omega
    have hcb : (c == 0) = false := by rw [beq_eq_false_iff_ne]; exact hc0
    have hnb : ((n : Int) == 4) = false := by rw [beq_eq_false_iff_ne]; exact hn4'
    by_cases hn2 : 2 ≤ n
    · have hn2' : (2 : Int) ≤ n := by omega
      have HI : Aside ((if 2 ≤ n then ((6 : Int), t1) else (5, t0)) = (6, t1)) := ⟨if_pos hn2⟩
      go_wp2_with fail
      refine (disk_crash E q d B none [] 0 _ (by simp) (fun k hk => by cases hk) (fun E w h => Cells.nil _ _) H4.out).mono ?_
      rintro e w5 ⟨rfl, h5⟩
      have H5 := Aside.mk h5
      clear h5 H4
      go_wp2_with fail
      refine (pair_get E q d (B.crash []) exS 0 _ HX3.out NE.out.bytes (fun w h => (HQ2.out w h).1) H5.out).mono ?_
      rintro e w6 ⟨v, rfl, h6⟩
      rw [NE.out.got, HI.out] at h6 ⊢
      obtain ⟨Av, cv, rfl, -, -⟩ := h6.row_slice
      dsimp only at h6
      have H6 := Aside.mk h6
      clear h6 H5
      rw [show getEnd ((6 : Int), t1) (.slice Av t1.length cv) = .returned (.tuple #[.slice Av t1.length cv, .int .i64 6, .int .i64 0]) from rfl]
      go_wp2_with fail
      refine (bytesEq_ok Av A1 t1 t1 t1.length p1 cv c1 _ rfl L1.out.1 H6.out.row_cells (HQ2.out _ H6.out.right.right).2.2 HB2.out.2 HB2.out.2).mono ?_
      rintro e w7 ⟨rfl, rfl⟩
      rw [decide_eq_true rfl]
      clear HI
      go_wp2
      go_ret
      exact ⟨rfl, H6.out.right.right⟩
    · have hn2' : ¬ (2 : Int) ≤ n := by omega
      have HI : Aside ((if 2 ≤ n then ((6 : Int), t1) else (5, t0)) = (5, t0)) := ⟨if_neg hn2⟩
      go_wp2_with fail
      refine (disk_crash E q d B none [] 0 _ (by simp) (fun k hk => by cases hk) (fun E w h => Cells.nil _ _) H4.out).mono ?_
      rintro e w5 ⟨rfl, h5⟩
      have H5 := Aside.mk h5
      clear h5 H4
      go_wp2_with fail
      refine (pair_get E q d (B.crash []) exS 0 _ HX3.out NE.out.bytes (fun w h => (HQ2.out w h).1) H5.out).mono ?_
      rintro e w6 ⟨v, rfl, h6⟩
      rw [NE.out.got, HI.out] at h6 ⊢
      obtain ⟨Av, cv, rfl, -, -⟩ := h6.row_slice
      dsimp only at h6
      have H6 := Aside.mk h6
      clear h6 H5
      rw [show getEnd ((5 : Int), t0) (.slice Av t0.length cv) = .returned (.tuple #[.slice Av t0.length cv, .int .i64 5, .int .i64 0]) from rfl]
      go_wp2_with fail
      refine (bytesEq_ok Av A0 t0 t0 t0.length p0 cv c0 _ rfl L0.out.1 H6.out.row_cells (HQ2.out _ H6.out.right.right).2.1 HB2.out.1 HB2.out.1).mono ?_
      rintro e w7 ⟨rfl, rfl⟩
      rw [decide_eq_true rfl]
      clear HI
      go_wp2
      go_ret
      exact ⟨rfl, H6.out.right.right⟩
end Go.Proofs.YtldpaicignmnkaaDoor
/- The listed table: what the condition gives a walk; the door's own heap meets it. -/
namespace Go.Proofs.YtldpaicignmnkaaDoor
open Go.ChangeShapes Go.WideShapes Go.ChangeAt Go.WideMaps Go.WideElems Go.RowKit HP
set_option linter.unusedVariables false

def laidAll : List (String × DataW Unit) := [("dryrot/crc.quarter", Rows.laid_dryrot_crc_quarter)]
theorem gQuarter : Tryd.prog.globalNamed "dryrot/crc.quarter" = some 0 := by kernel_rfl
theorem tQuarter : (Tryd.prog.globals[0]?).map (·.type) = some 147 := by kernel_rfl
theorem door_met (os : Os) (args : Array Value) : laidMetH Tryd.prog laidAll ((World.doorLaid Tryd.prog 400 os).forCall (fun _ _ => 0) ⟨#[], args, []⟩).memory :=
  laidMetH_of_parts3 (fuel := 8) (laidMet_of_run' 8 (by kernel_rfl) (by kernel_rfl)) (by kernel_rfl) (by kernel_rfl)
theorem quarter_of_laid {W : World} (h : laidMetH Tryd.prog laidAll W) : Quarter W := by
  rw [MakeChecks.laidMetH_plain _ _ _ (by kernel_rfl)] at h
  obtain ⟨ps, ⟨g0, t0, cs0, f0, p0, q0, hg0, ht0, hv0, hd0, _, _⟩, _, _⟩ := h
  obtain rfl := Option.some.inj (gQuarter.symm.trans hg0)
  obtain rfl := Option.some.inj (tQuarter.symm.trans ht0)
  obtain ⟨xs, m1, rfl, hx1, hlen, hn3, hel⟩ := DataW.trod_array Tryd.underlying147 hd0
  have c3 : Tryd.prog.cellsOf 121 = 1 := by kernel_rfl
  simp only [Prod.mk.injEq, DataW.agg.injEq, Rows.laid_dryrot_crc_quarter] at hx1
  intro i hi
  have hi' := hel i hi
  rw [c3, Nat.mul_one] at hi'
  have hxl : i < xs.length := by omega
  rw [List.getElem?_eq_getElem hxl] at hi'
  obtain ⟨k, e1, e2, _⟩ := DataW.trod_int Tryd.underlying121 hi'
  have e3 : (xs.map (·.1))[i]? = some (DataW.lit (.int .u32 k)) := by
    rw [List.getElem?_map, List.getElem?_eq_getElem hxl]
    simp [e2]
  rw [← hx1.1] at e3
  have hk : k = quarterN i := by
    match i, hi with
    | 0, _ => simpa [quarterN] using e3.symm
    | 1, _ => simpa [quarterN] using e3.symm
    | 2, _ => simpa [quarterN] using e3.symm
    | 3, _ => simpa [quarterN] using e3.symm
  have e4 := World.var?_cell hg0 hv0 i
  have e5 : cs0.toList[i]? = some (.int .u32 k) := by
    have := congrArg (fun l => l[0]?) e1
    simpa [List.getElem?_take] using this
  rw [Array.getElem?_toList, hk] at e5
  rw [← e5, ← e4]
end Go.Proofs.YtldpaicignmnkaaDoor
