/- Texts of one claim, one behind the other: StA, StB, StC, PairP, PairD, ChunkA, ChunkB, PairS, PairG, ExtP, FreshP, NeedsP, PairLo, HeldP, LoadP, LostP, StP, AppZ, StR, StS, StL, StX, StY, StN, StPm, StM. -/
import Derived.Test.YtnpinegpajbkeaaGreatDoorRi5
import Derived.Shelf.Abstract
import Derived.Shelf.RegionOpen
import Derived.OwnWalkIn
import Derived.TacticsInMore
import Derived.LoopNIn
import Derived.LoopIn
import Derived.Outline
import Derived.IntWalk
import Derived.Lib.AppendZerosOnto
set_option linter.unusedSimpArgs false
set_option linter.unusedVariables false
namespace Go.Proofs.YtnpinegpajbkeaaGreatDoor
open Go.RowKit HP
def dot0 : ByteArray := ⟨#[46, 48]⟩
def dot1 : ByteArray := ⟨#[46, 49]⟩
def dot2 : ByteArray := ⟨#[46, 50]⟩
def dotP : ByteArray := ⟨#[46, 112]⟩
def stripesL (name : ByteArray) : List ByteArray := [name ++ dot0, name ++ dot1, name ++ dot2, name ++ dotP]
def groupsI (n : Int) : Int := if n ≤ 0 then 1 else (n - 1) / 105 / 3 + 1
theorem agFour : AgTy Tryz.prog 104 4 := ⟨⟨_, Tryz.underlying104, rfl⟩, by kernel_rfl⟩
theorem dot_size (name : ByteArray) : (name ++ dot0).size = name.size + 2 ∧ (name ++ dot1).size = name.size + 2 ∧ (name ++ dot2).size = name.size + 2 ∧ (name ++ dotP).size = name.size + 2 := ⟨by rw [ByteArray.size_append]; rfl, by rw [ByteArray.size_append]; rfl, by rw [ByteArray.size_append]; rfl, by rw [ByteArray.size_append]; rfl⟩
set_option maxHeartbeats 1000000 in
set_option maxRecDepth 100000 in
theorem stripe_names (E : Env) (q : HP) (name : ByteArray) (w : World) (hn : name.size + 2 ≤ maxLen) (hw : Sat E w q) :
    Calls Tryz.prog 60 #[.string name] w fun e w' => e = .returned (.agg #[.string (name ++ dot0), .string (name ++ dot1), .string (name ++ dot2), .string (name ++ dotP)]) ∧ Sat E w' q := by
  have hn2 : name.size + 2 ≤ 9223372036854775807 := by unfold maxLen at hn; omega
  unfold dot0 dot1 dot2 dotP
  go_enter Tryz.func60, Tryz.ntmps60
  have h1 := hw.alloc (.cells [.string (name ++ ⟨#[46, 48]⟩), .string (name ++ ⟨#[46, 49]⟩), .string (name ++ ⟨#[46, 50]⟩), .string (name ++ ⟨#[46, 112]⟩)].toArray 104)
  have r1 := run_loadAgg (P := Tryz.prog) (n := 4) agFour rfl (Sat.ptCells (off := 0) (l := [.string (name ++ ⟨#[46, 48]⟩), .string (name ++ ⟨#[46, 49]⟩), .string (name ++ ⟨#[46, 50]⟩), .string (name ++ ⟨#[46, 112]⟩)]) h1 rfl)
  go_wp2
  exact ⟨rfl, _, results_cell (t := 2) (by kernel_rfl) rfl r1, rfl, h1.right⟩
set_option maxHeartbeats 1000000 in
set_option maxRecDepth 100000 in
theorem stripe_groups (n : Int) (w : World) (h : wf64 n) : Calls Tryz.prog 50 #[.int .i64 n] w fun e w' => e = .returned (.int .i64 (groupsI n)) ∧ w' = w := by
  unfold wf64 at h
  by_cases hn : n ≤ 0
  · go_enter Tryz.func50, Tryz.ntmps50
    go_wp2
    go_ret
    exact ⟨by unfold groupsI; rw [if_pos hn]; rfl, rfl⟩
  · have e1 : (n - 1).tdiv 105 = (n - 1) / 105 := Int.tdiv_eq_ediv_of_nonneg (by omega)
    have e2 : ((n - 1) / 105).tdiv 3 = (n - 1) / 105 / 3 := Int.tdiv_eq_ediv_of_nonneg (by omega)
    go_enter Tryz.func50, Tryz.ntmps50
    go_wp2
    go_ret
    exact ⟨by unfold groupsI; rw [if_neg (by omega)]; rfl, rfl⟩
set_option maxHeartbeats 1000000 in
set_option maxRecDepth 100000 in
theorem stripe_none (E : Env) (q : HP) (d : Nat) (A : Dk) (w : World) (hw : Sat E w (HP.disk d A * q)) :
    Calls Tryz.prog 57 #[.pointer (some ⟨d, 0, none⟩)] w fun e w' => e = .returned (.bool false) ∧ Sat E w' (HP.disk d A * q) := by
  have HW := Aside.mk hw
  clear hw
  go_enter Tryz.func57, Tryz.ntmps57
  go_wp2_with fail
  refine (disk_asked E q d A _ HW.out).mono ?_
  rintro e w1 ⟨rfl, h1⟩
  have H1 := Aside.mk h1
  clear h1
  go_wp2
  go_ret
  exact ⟨rfl, H1.out⟩
def dropT (A : Dk) : List ByteArray → Int × Dk
  | [] => (0, A)
  | f :: r => if (A.at f).length = 0 then dropT A r else if (A.remove f).1 = 0 then dropT (A.remove f).2 r else A.remove f
def dropS (A : Dk) (name : ByteArray) : Int × Dk := dropT A (stripesL name)
def slotI (p : List Int) : List Int := (p.length : Int) :: (p ++ List.replicate (105 - p.length) 0)
theorem slotI_length {p : List Int} (h : p.length ≤ 105) : (slotI p).length = 106 := by
  unfold slotI
  rw [List.length_cons, List.length_append, List.length_replicate]
  omega
theorem slotI_bytes {p : List Int} (h : p.length ≤ 105) (hb : Bytes p) : Bytes (slotI p) := by
  intro x hx
  rcases List.mem_cons.1 hx with rfl | hx
  · omega
  · rcases List.mem_append.1 hx with hx | hx
    · exact hb x hx
    · rw [List.eq_of_mem_replicate hx]; omega
theorem agSlot : AgTy Tryz.prog 100 106 := ⟨⟨_, Tryz.underlying100, rfl⟩, by kernel_rfl⟩
theorem zero_slot : (b8s (List.replicate 106 0)).toArray = Tryz.zeroCells100 := by kernel_rfl
theorem zero_slot1 (n : Nat) : Tryz.zeroCells100.setIfInBounds 0 (.int .u8 (n : Int)) = (b8s ([(n : Int)] ++ List.replicate 105 0)).toArray := by
  rw [← zero_slot]
  rfl
theorem splice_all {I : List Int} (h : I.length = 106) : splice Tryz.zeroCells100.toList 0 (b8s I) = b8s I := by
  rw [← zero_slot]
  unfold splice
  rw [List.take_zero, List.nil_append, Nat.zero_add, List.drop_of_length_le (by simp [b8s_length, h]), List.append_nil]
set_option maxHeartbeats 2000000 in
set_option maxRecDepth 100000 in
theorem stripe_of (E : Env) (q : HP) (A : Option Addr) (p : List Int) (n c : Nat) (w : World) (hpn : p.length = n) (hn : n ≤ 105) (hq : ∀ w, Sat E w q → Cells w A (b8s p)) (hw : Sat E w q) :
    Calls Tryz.prog 58 #[.slice A n c] w fun e w' => e = .returned (.agg (b8s (slotI p)).toArray) ∧ Sat E w' q := by
  have h0 : Sat E ((w.alloc (.cells Tryz.zeroCells100 100)).alloc (.cells (Tryz.zeroCells100.setIfInBounds 0 (.int .u8 (n : Int))) 100)) (HP.pt (w.heap.size + 1) (.cells (b8s ([(n : Int)] ++ List.replicate 105 0)).toArray 100) * (HP.pt w.heap.size (.cells Tryz.zeroCells100 100) * q)) := by
    rw [← zero_slot1]
    have h1 := (hw.alloc (.cells Tryz.zeroCells100 100)).alloc (.cells (Tryz.zeroCells100.setIfInBounds 0 (.int .u8 (n : Int))) 100)
    rw [show (w.alloc (.cells Tryz.zeroCells100 100)).heap.size = w.heap.size + 1 by simp] at h1
    exact h1
  have HQ := Aside.mk (And.intro hq hpn)
  have H0 := Aside.mk h0
  have hwr : IntKind.u8.wrap (n : Int) = (n : Int) := by rw [IntKind.wrap_u8]; omega
  have hsl : (slotI p).length = 106 := slotI_length (by rw [hpn]; exact hn)
  have hsp : splice (b8s ([(n : Int)] ++ List.replicate 105 0)) 1 (b8s p) = b8s (slotI p) := by
    rw [splice_zero (a := [(n : Int)]) (off := 1) (c := p) (n := 105) rfl (by rw [hpn]; exact hn)]
    unfold slotI
    rw [hpn]
    simp
  have HS := Aside.mk (And.intro hsl hsp)
  clear hq hw hpn h0 hsl hsp
  go_enter Tryz.func58, Tryz.ntmps58
  go_wp2_with (first | (at_builtin; fail) | (refine wpList_load_run rfl rfl rfl r1 ?_) | (refine wpList_store_run rfl rfl rfl rfl rfl r2 ?_) | (refine wpList_copy_pt (L := [(n : Int)] ++ List.replicate 105 0) (src := p) slB8.under (by kernel_rfl) rfl rfl rfl rfl H0.out HQ.out.2 (by omega) (by simp; omega) (HQ.out.1 _ H0.out.right.right) (fun w11 h11 => ?_); rw [HS.out.2] at h11; have r1 := run_loadAgg agSlot (by rw [b8s_length]; exact HS.out.1) (Sat.ptCells (off := 0) (l := b8s (slotI p)) h11 (by rw [List.drop_zero, List.take_length])); have r2 := run_storeAgg agSlot (g := w.heap.size) (off := 0) (cs := b8s (slotI p)) h11.s2.get (by rw [b8s_length]; exact HS.out.1) (by rw [← zero_slot]; simp [b8s_length]) (b8s_one (slotI p)); have h16 := h11.s2.splice (splice Tryz.zeroCells100.toList 0 (b8s (slotI p))); rw [splice_all HS.out.1] at h16 r2; have r3 := run_loadAgg agSlot (by rw [b8s_length]; exact HS.out.1) (Sat.ptCells (off := 0) (l := b8s (slotI p)) h16 (by rw [List.drop_zero, List.take_length])); have H16 := Aside.mk h16; clear h11 h16 H0; generalize World.setRow w11 w.heap.size (b8s (slotI p)).toArray = w16 at *; simp only [Act.put, List.setIfInBounds_toArray, List.set_cons_zero, List.set_cons_succ]))
  exact ⟨rfl, _, results_cell (t := 2) (by kernel_rfl) rfl r3, rfl, H16.out.right.right⟩
theorem run_slot_slice (w : World) (b : Nat) (lo hi : Int) (h0 : 0 ≤ lo) (h1 : lo ≤ hi) (h2 : hi ≤ 106) (h3 : lo < 106) : (Instr.sliceAt 100 (.pointer (some ⟨b, 0, none⟩)) (some (.int .i64 lo)) (some (.int .i64 hi)) none).run Tryz.prog w = .ok (.slice (some ⟨b, lo.toNat, none⟩) (hi - lo).toNat (106 - lo.toNat)) w := by
  have f1 : 0 ≤ hi ∧ hi ≤ 106 := by omega
  have f2 : 0 ≤ lo ∧ lo ≤ hi := by omega
  have e5 : ¬ 106 = lo.toNat := by omega
  have e6 : (sizeOf 5).run Tryz.prog w = .ok 1 w := by kernel_rfl
  have e7 : hi.toNat - lo.toNat = (hi - lo).toNat := by omega
  have e9 : max hi 0 = hi := by omega
  have e10 : max lo 0 = lo := by omega
  simp [Instr.sliceAt, run_underlying Tryz.underlying100, Instr.sureAddr, Instr.sliceBounds, Instr.sliceBound, asIntOf, f1, f2, e5, e6, e7, e9, e10, Addr.add_lit]
def payI (k : Nat) (S : List Int) : List Int := if k = 3 then S else (S.drop 1).take (S.headD 0).toNat
def payEnd (E : Env) (q : HP) (k : Nat) (S : List Int) (e : Ending) (w' : World) : Prop :=
  ∃ A c m, ∃ R : HP, e = .returned (.slice A m c) ∧ (payI k S).length = m ∧ m ≤ 106 ∧ m ≤ c ∧ c ≤ maxLen ∧ Sat E w' (R * q) ∧ ∀ w'' q', Sat E w'' (R * q') → Cells w'' A (b8s (payI k S))
set_option maxHeartbeats 2000000 in
set_option maxRecDepth 100000 in
theorem stripe_payload (E : Env) (q : HP) (k : Nat) (S : List Int) (w : World) (hk : k < 4) (hS : S.length = 106) (h0 : k ≠ 3 → 0 ≤ S.headD 0 ∧ S.headD 0 ≤ 105) (hw : Sat E w q) :
    Calls Tryz.prog 62 #[.int .i64 k, .agg (b8s S).toArray] w (payEnd E q k S) := by
  have h1 := hw.alloc (.cells (b8s S).toArray 100)
  have hL : (b8s S).toArray.size = 106 := by simp [b8s_length, hS]
  by_cases h3 : k = 3
  · subst h3
    have HP1 : Aside (payI 3 S = S) := ⟨rfl⟩
    have HS := Aside.mk (And.intro hS h1)
    clear hS h1 h0 hk hw
    obtain ⟨C, hC⟩ : ∃ C, C = (b8s S).toArray := ⟨_, rfl⟩
    rw [← hC] at HS hL ⊢
    have HC := Aside.mk hC
    clear hC
    go_enter Tryz.func62, Tryz.ntmps62
    go_wp2
    go_ret
    refine ⟨_, 106, 106, HP.pt w.heap.size (.cells (b8s S).toArray 100), rfl, by rw [HP1.out]; exact HS.out.1, by omega, by omega, by unfold maxLen; omega, ?_, fun w'' q' h => ?_⟩
    · rw [← HC.out]; exact HS.out.2
    · rw [HP1.out]
      exact Sat.ptCells (off := 0) h (by rw [List.drop_zero, List.take_length])
  · obtain ⟨h01, h02⟩ := h0 h3
    obtain ⟨m, hm⟩ : ∃ m : Nat, S.headD 0 = (m : Int) := ⟨(S.headD 0).toNat, by omega⟩
    have HP1 : Aside (payI k S = (S.drop 1).take m) := ⟨by unfold payI; rw [if_neg h3, hm]; rfl⟩
    have hm5 : m ≤ 105 := by omega
    have hpl : ((S.drop 1).take m).length = m := by rw [List.length_take, List.length_drop, hS]; omega
    have hc0 : (b8s S)[0]? = some (.int .u8 (m : Int)) := by
      cases S with
      | nil => cases hS
      | cons x S => rw [show x = (m : Int) from hm]; rfl
    have g0 : (w.alloc (.cells (b8s S).toArray 100)).cell? ⟨w.heap.size, 0, none⟩ = some (.int .u8 (m : Int)) := by
      rw [h1.cell 0, List.getElem?_toArray]; exact hc0
    have HS := Aside.mk (And.intro hS (And.intro h1 hpl))
    have hk3 : ((k : Int) == 3) = false := by rw [beq_eq_false_iff_ne]; omega
    have hk4 : ¬ (k : Int) = 3 := by omega
    clear hS h1 h01 h02 hw hpl hc0 hm h0 hk
    obtain ⟨C, hC⟩ : ∃ C, C = (b8s S).toArray := ⟨_, rfl⟩
    rw [← hC] at HS hL g0 ⊢
    have HC := Aside.mk hC
    clear hC
    go_enter Tryz.func62, Tryz.ntmps62
    have sl := run_slot_slice (w.alloc (.cells C 100)) w.heap.size 1 (1 + (m : Int)) (by omega) (by omega) (by omega) (by omega)
    rw [show (1 + (m : Int) - 1).toNat = m by omega, show (106 : Nat) - (1 : Int).toNat = 105 from rfl, show (1 : Int).toNat = 1 from rfl] at sl
    go_wp2
    go_ret
    refine ⟨some ⟨w.heap.size, 1, none⟩, 105, m, HP.pt w.heap.size (.cells (b8s S).toArray 100), rfl, by rw [HP1.out]; exact HS.out.2.2, by omega, by omega, by unfold maxLen; omega, ?_, fun w'' q' h => ?_⟩
    · rw [← HC.out]; exact HS.out.2.1
    · rw [HP1.out]
      exact Sat.ptCells (off := 1) (l := b8s ((S.drop 1).take m)) h (by unfold b8s; rw [List.length_map, HS.out.2.2, ← List.map_drop, ← List.map_take])
def mixN (L : List Int) (off : Nat) (O : List Int) : Nat → List Int
  | 0 => L
  | i + 1 => (mixN L off O i).set (off + i) (xorB (L.getD (off + i) 0) (O.getD i 0))
theorem mixN_length (L : List Int) (off : Nat) (O : List Int) : ∀ i, (mixN L off O i).length = L.length
  | 0 => rfl
  | i + 1 => by rw [mixN, List.length_set, mixN_length]
theorem mixN_ge (L : List Int) (off : Nat) (O : List Int) : ∀ i j, off + i ≤ j → (mixN L off O i)[j]? = L[j]?
  | 0, j, _ => rfl
  | i + 1, j, h => by rw [mixN, List.getElem?_set_ne (by omega), mixN_ge L off O i j (by omega)]
theorem mixN_lt (L : List Int) (off : Nat) (O : List Int) : ∀ i j, j < off → (mixN L off O i)[j]? = L[j]?
  | 0, j, _ => rfl
  | i + 1, j, h => by rw [mixN, List.getElem?_set_ne (by omega), mixN_lt L off O i j h]
theorem mixN_in (L : List Int) (off : Nat) (O : List Int) : ∀ i j, j < i → off + i ≤ L.length → (mixN L off O i)[off + j]? = some (xorB (L.getD (off + j) 0) (O.getD j 0))
  | 0, j, h, _ => by omega
  | i + 1, j, h, hl => by
    rcases Nat.lt_or_ge j i with h1 | h1
    · rw [mixN, List.getElem?_set_ne (by omega), mixN_in L off O i j h1 (by omega)]
    · obtain rfl : j = i := by omega
      rw [mixN, List.getElem?_set_self (by rw [mixN_length]; omega)]
theorem run_index_slot (w : World) (O : List Int) (k : Nat) (h : O.length = 106) (hk : k < 106) : (Instr.index 100 (.agg (b8s O).toArray) (.int .i64 (k : Int))).run Tryz.prog w = .ok (.int .u8 (O.getD k 0)) w := by
  have e0 : (0 : Int) ≤ (k : Int) ∧ (k : Int) < 106 := by omega
  have e6 : (sizeOf 5).run Tryz.prog w = .ok 1 w := by kernel_rfl
  have e7 : (isAgg 5).run Tryz.prog w = .ok false w := by kernel_rfl
  have e8 : (b8s O)[k]? = some (.int .u8 (O.getD k 0)) := by
    unfold b8s
    rw [List.getElem?_map, List.getD_eq_getElem?_getD, List.getElem?_eq_getElem (by omega)]
    rfl
  simp [Instr.index, run_underlying Tryz.underlying100, asIntOf, e0, e6, e7, e8, part]
  intro h2
  omega
theorem b8s_setv (L : List Int) (i : Nat) (x : Int) : (b8s L).toArray.setIfInBounds i (.int .u8 x) = (b8s (L.set i x)).toArray := by
  rw [List.setIfInBounds_toArray]
  unfold b8s
  rw [List.map_set]
theorem b8s_getD {L : List Int} {i : Nat} (h : i < L.length) : (b8s L).toArray[i]? = some (.int .u8 (L.getD i 0)) := by
  rw [List.getElem?_toArray]
  unfold b8s
  rw [List.getElem?_map, List.getD_eq_getElem?_getD, List.getElem?_eq_getElem h]
  rfl
set_option maxHeartbeats 2000000 in
set_option maxRecDepth 100000 in
theorem stripe_mix (E : Env) (q : HP) (g off : Nat) (ty : TypeId) (L O : List Int) (w : World) (hO : O.length = 106) (hL : off + 106 ≤ L.length) (hw : Sat E w (HP.pt g (.cells (b8s L).toArray ty) * q)) :
    Calls Tryz.prog 59 #[.pointer (some ⟨g, off, none⟩), .agg (b8s O).toArray] w fun e w' => e = .returned (.tuple #[]) ∧ Sat E w' (HP.pt g (.cells (b8s (mixN L off O 106)).toArray ty) * q) := by
  have h0 := hw.alloc (.cells (b8s O).toArray 100)
  have r0 := run_loadAgg (P := Tryz.prog) agSlot (by rw [b8s_length]; exact hO) (Sat.ptCells (off := 0) (l := b8s O) h0 (by rw [List.drop_zero, List.take_length]))
  have HL := Aside.mk hL
  have HIX := Aside.mk (fun (w : World) (k : Nat) (hk : k < 106) => run_index_slot w O k hO hk)
  have H0 : Aside (Sat E (w.alloc (.cells (b8s O).toArray 100)) (HP.pt g (.cells (b8s (mixN L off O 0)).toArray ty) * (HP.pt w.heap.size (.cells (b8s O).toArray 100) * q))) := ⟨h0.perm (by show HP.pt _ _ * (HP.pt g (.cells (b8s L).toArray ty) * q) = HP.pt g (.cells (b8s L).toArray ty) * (_ * q); ac_rfl)⟩
  clear hw h0 hL hO
  obtain ⟨C, hC⟩ : ∃ C, C = (b8s O).toArray := ⟨_, rfl⟩
  rw [← hC] at H0 HIX r0 ⊢
  clear hC
  go_enter Tryz.func59, Tryz.ntmps59
  go_wp2_with (first | (refine wpList_load_run rfl rfl rfl r0 ?_))
  go_loopw [7] (fun v7 wr => ∃ k : Nat, k ≤ 106 ∧ v7 = .int .i64 k ∧ Aside (Sat E wr (HP.pt g (.cells (b8s (mixN L off O k)).toArray ty) * (HP.pt w.heap.size (.cells C 100) * q)))) (fun i _ => 106 - (intOf i).toNat)
  case atStart => exact ⟨0, by omega, rfl, H0⟩
  case round =>
    clear H0
    obtain ⟨k, hk, rfl, HS⟩ := hrel
    by_cases hlt : k < 106
    · have hlt2 : (k : Int) < 106 := by omega
      have ix := HIX.out wr k hlt
      have hki : off + k < (mixN L off O k).length := by rw [mixN_length]; have := HL.out; omega
      have gc : wr.drew.cell? ⟨g, off + k, none⟩ = some (.int .u8 (L.getD (off + k) 0)) := by
        rw [HS.out.drew.cell (off + k), b8s_getD hki, List.getD_eq_getElem?_getD, mixN_ge L off O k (off + k) (Nat.le_refl _), ← List.getD_eq_getElem?_getD]
      have gf : wr.drew.frozen? ⟨g, off + k, none⟩ = false := HS.out.drew.thaw (off + k)
      have H2 : Aside (Sat E (wr.drew.setCell ⟨g, off + k, none⟩ (.int .u8 (xorB (L.getD (off + k) 0) (O.getD k 0)))) (HP.pt g (.cells (b8s (mixN L off O (k + 1))).toArray ty) * (HP.pt w.heap.size (.cells C 100) * q))) := ⟨by
        have h := HS.out.drew.set (i := off + k) (.int .u8 (xorB (L.getD (off + k) 0) (O.getD k 0)))
        rw [b8s_setv] at h
        exact h⟩
      clear HS hki
      generalize L.getD (off + k) 0 = x at *
      generalize O.getD k 0 = y at *
      unfold xorB at H2
      go_wp2
      refine region_R [9] [] (fun _ => True) #[false, false, false, false, false, false, false, false, false, false] (by kernel_rfl) rfl rfl ?_
      refine wpR_rd 0 #[true, false, false, false, false, false, false, false, false, false] rfl onlyN_noPanic (by kernel_rfl) (fun K hK => ?_); (go_simp; try go_bits); refine hK _ ?_; clear hK K
      refine wpR_rd 1 #[true, true, false, false, false, false, false, false, false, false] rfl onlyN_noPanic (by kernel_rfl) (fun K hK => ?_); (go_simp; try go_bits); refine hK _ ?_; clear hK K
      refine wpR_rd 2 #[true, true, true, false, false, false, false, false, false, false] rfl onlyN_noPanic (by kernel_rfl) (fun K hK => ?_); (go_simp; try go_bits); refine hK _ ?_; clear hK K
      refine wpR_rd 3 #[true, true, true, true, false, false, false, false, false, false] rfl onlyN_noPanic (by kernel_rfl) (fun K hK => ?_); (go_simp; try go_bits); refine hK _ ?_; clear hK K
      refine wpR_rd 4 #[true, true, true, true, true, false, false, false, false, false] rfl onlyN_noPanic (by kernel_rfl) (fun K hK => ?_); (go_simp; try go_bits); refine hK _ ?_; clear hK K
      refine wpR_rd 5 #[true, true, true, true, true, true, false, false, false, false] rfl onlyN_noPanic (by kernel_rfl) (fun K hK => ?_); (go_simp; try go_bits); refine hK _ ?_; clear hK K
      refine wpR_rd 6 #[true, true, true, true, true, true, true, false, false, false] rfl onlyN_noPanic (by kernel_rfl) (fun K hK => ?_); (go_simp; try go_bits); refine hK _ ?_; clear hK K
      refine wpR_rd 7 #[true, true, true, true, true, true, true, true, false, false] rfl onlyN_noPanic (by kernel_rfl) (fun K hK => ?_); (go_simp; try go_bits); refine hK _ ?_; clear hK K
      refine wpR_rd 8 #[true, true, true, true, true, true, true, true, true, false] rfl onlyN_noPanic (by kernel_rfl) (fun K hK => ?_); (go_simp; try go_bits); refine hK _ ?_; clear hK K
      refine wpR_eff #[true, true, true, true, true, true, true, true, true, true] (i := 9) rfl (by kernel_rfl) (fun K hK => ?_)
      go_simp; refine hK _ _ ?_; clear hK K
      refine wpR_done (by kernel_rfl) ?_ _
      simp only [OnlyN]
      go_wp2
      go_roundw
      case rel => exact ⟨k + 1, by omega, by push_cast; rfl, H2⟩
      case measure => simp [intOf]; omega
    · obtain rfl : k = 106 := by omega
      go_wp2
      exact ⟨rfl, .tuple #[], by first | rfl | (unfold results; rw [show Tryz.f59.results = #[] by kernel_rfl]; simp), rfl, HS.out.drop2⟩
def putP (A : Dk) (name : ByteArray) (i gen : Int) (p : List Int) : Int × Dk := if FrameOk i gen p.length then wrP A name i.toNat gen.toNat [p] else (1, A)
def dropL (A : Dk) : List ByteArray → Int × Dk
  | [] => (0, A)
  | f :: r => if (A.at f).length = 0 then dropL A r else if (A.remove f).1 = 0 then dropL (A.remove f).2 r else A.remove f
def dropP (A : Dk) (name : ByteArray) : Int × Dk := dropL A (halvesL name)
def needI (n : Int) : Int := if n ≤ 0 then 2 else 2 * ((n - 1) / 106 + 1)
end Go.Proofs.YtnpinegpajbkeaaGreatDoor
namespace Go.Proofs.YtnpinegpajbkeaaGreatDoor
open Go.RowKit Go.Shelf HP
attribute [local go_sem] Oper.semAt_some
def chunkN (n : Nat) : Nat := (n + 105) / 106
def chunkM (n k : Nat) : Nat := min 106 (n - 106 * k)
def chunkV (g o n k : Nat) : Value := .slice (some ⟨g, o + 106 * k, none⟩) (chunkM n k) (chunkM n k)
def Keep2 (b1 b2 : Nat) (W W' : World) : Prop := W'.heap[b1]? = W.heap[b1]? ∧ W'.heap[b2]? = W.heap[b2]?
theorem Keep2.refl {b1 b2 : Nat} (W : World) : Keep2 b1 b2 W W := ⟨rfl, rfl⟩
theorem Keep2.trans {b1 b2 : Nat} {W X Y : World} (h : Keep2 b1 b2 W X) (k : Keep2 b1 b2 X Y) : Keep2 b1 b2 W Y := ⟨k.1.trans h.1, k.2.trans h.2⟩
end Go.Proofs.YtnpinegpajbkeaaGreatDoor
namespace Go.Proofs.YtnpinegpajbkeaaGreatDoor
open Go.RowKit Go.Shelf HP
attribute [local go_sem] Oper.semAt_some
def HP.gath (bb : Nat) (l : List Value) : HP := HP.ex fun v => HP.pt bb (.cells #[v] 111) * HP.row 43 1 v l.length l
end Go.Proofs.YtnpinegpajbkeaaGreatDoor
namespace Go.Proofs.YtnpinegpajbkeaaGreatDoor
open Go.RowKit HP
def piece (l : List Int) (k : Nat) : List Int := (l.drop (106 * k)).take 106
def piecesI (l : List Int) : List (List Int) := if l.length = 0 then [[]] else (List.range (chunkN l.length)).map (piece l)
def storeP (A : Dk) (name : ByteArray) (gen : Nat) (l : List Int) : Int × Dk := if (dropP A name).1 = 0 then wrP (dropP A name).2 name 0 gen (piecesI l) else dropP A name
def pieceS (g o : Nat) (l : List Int) (k : Nat) : Sl Int := ⟨some ⟨g, o + 106 * k, none⟩, chunkM l.length k, piece l k⟩
def getF (A : Dk) (i : Int) (st : Int × List Int) (f : ByteArray) : Int × List Int :=
  match A.cel f i with
  | none => st
  | some c => match openI c.read f i with
    | none => st
    | some x => if (x.2 : Int) ≤ st.1 then st else ((x.2 : Int), x.1)
def getP (A : Dk) (name : ByteArray) (i : Int) : Int × List Int := (halvesL name).foldl (getF A i) (-1, [])
theorem openI_gen {b : List Int} {f : ByteArray} {i : Int} {p : List Int} {g : Nat} (h : openI b f i = some (p, g)) : (g : Int) ≤ 4611686018427387904 ∧ p.length ≤ 106 := by
  unfold openI at h
  split at h
  · cases h
  · split at h
    · cases h
    · split at h
      · cases h
      · rename_i h1 h2 h3
        simp only [Option.some.injEq, Prod.mk.injEq] at h
        obtain ⟨rfl, rfl⟩ := h
        refine ⟨by omega, ?_⟩
        rw [List.length_take]
        omega
def getEnd (st : Int × List Int) (v : Value) : Ending := if st.1 < 0 then .returned (.tuple #[.slice none 0 0, .int .i64 0, .int .i64 50]) else .returned (.tuple #[v, .int .i64 st.1, .int .i64 0])
set_option maxHeartbeats 2000000 in
set_option maxRecDepth 100000 in
theorem pair_get (E : Env) (q : HP) (d : Nat) (A : Dk) (name : ByteArray) (i : Int) (w : World) (hname : name.size + 2 ≤ maxLen) (hby : ∀ f ∈ halvesL name, ∀ c, A.cel f i = some c → Bytes c.read)
    (hq : ∀ w, Sat E w q → Quarter w) (hw : Sat E w (HP.disk d A * q)) :
    Calls Tryz.prog 131 #[.pointer (some ⟨d, 0, none⟩), .string name, .int .i64 i] w fun e w' => ∃ v, e = getEnd (getP A name i) v ∧ Sat E w' (HP.row 5 1 v (getP A name i).2.length (b8s (getP A name i).2) * (HP.disk d A * q)) := by
  have hfa : (name ++ dotA).size ≤ maxLen := by rw [dotA_size]; exact hname
  have hfb : (name ++ dotB).size ≤ maxLen := by rw [dotB_size]; exact hname
  have HF : Aside (halvesL name = [name ++ dotA, name ++ dotB]) := ⟨rfl⟩
  have HQ := Aside.mk (And.intro hq (And.intro hby hw))
  clear hq hw hby
  go_enter Tryz.func131, Tryz.ntmps131
  go_wp2_with fail
  refine (pair_none E q d A _ HQ.out.2.2).mono ?_
  rintro e w1 ⟨rfl, k1⟩
  have K1 := Aside.mk k1
  clear k1
  go_wp2_with fail
  refine (pair_halves E _ name _ hname K1.out).mono ?_
  rintro e w2 ⟨rfl, k2⟩
  obtain ⟨fa, hfae⟩ : ∃ fa, fa = name ++ dotA := ⟨_, rfl⟩
  obtain ⟨fb, hfbe⟩ : ∃ fb, fb = name ++ dotB := ⟨_, rfl⟩
  rw [← hfae] at hfa HF ⊢
  rw [← hfbe] at hfb HF ⊢
  clear hfae hfbe
  have K2 := Aside.mk (k2.row_nil 5 1 none)
  clear k2 K1
  have i0 : ∀ w, (Instr.index 195 (.agg #[.string fa, .string fb]) (.int .i64 0)).run Tryz.prog w = .ok (.string fa) w := fun w => by kernel_rfl
  have i1 : ∀ w, (Instr.index 195 (.agg #[.string fa, .string fb]) (.int .i64 1)).run Tryz.prog w = .ok (.string fb) w := fun w => by kernel_rfl
  go_wp2
  go_loopw [9, 10, 21] (fun v9 v10 v21 wr => ∃ (h : Nat) (best : Int) (p : List Int), h ≤ 2 ∧ v21 = .int .i64 h ∧ v9 = .int .i64 best ∧ best ≤ 4611686018427387904 ∧ -1 ≤ best ∧ p.length ≤ 106 ∧ Aside ((((halvesL name).drop h).foldl (getF A i) (best, p)) = getP A name i) ∧ Aside (Sat E wr (HP.row 5 1 v10 p.length (b8s p) * (HP.disk d A * q)))) (fun _ _ i _ => 2 - (intOf i).toNat)
  case atStart => exact ⟨0, -1, [], by omega, rfl, rfl, by omega, by omega, by simp, ⟨rfl⟩, K2⟩
  case round =>
    obtain ⟨h, best, p, hh, rfl, rfl, hb1, hb2, hpl, HG, HS⟩ := hrel
    by_cases hlt : h < 2
    · obtain ⟨f, hf, hfm, hff, hix⟩ : ∃ f : ByteArray, f.size ≤ maxLen ∧ f ∈ halvesL name ∧ (halvesL name).drop h = f :: (halvesL name).drop (h + 1) ∧ ∀ w, (Instr.index 195 (.agg #[.string fa, .string fb]) (.int .i64 (h : Int))).run Tryz.prog w = .ok (.string f) w := by
        rw [HF.out]
        rcases Nat.lt_or_ge h 1 with h0 | h0
        · obtain rfl : h = 0 := by omega
          exact ⟨fa, hfa, by simp, rfl, i0⟩
        · obtain rfl : h = 1 := by omega
          exact ⟨fb, hfb, by simp, rfl, i1⟩
      rw [hff, List.foldl_cons] at HG
      clear hff
      have hlt2 : (h : Int) < 2 := by omega
      have hby := HQ.out.2.1 f hfm
      clear hfm
      clear i0 i1
      go_wp2_with fail
      refine (disk_read_ok E _ d A f i _ hf HS.out.s2).mono ?_
      intro e w3 h3
      unfold readEnd at h3
      cases hc : A.cel f i with
      | none =>
        rw [hc] at h3
        obtain ⟨rfl, h3⟩ := h3
        have HG2 : Aside (((halvesL name).drop (h + 1)).foldl (getF A i) (best, p) = getP A name i) := ⟨by rw [← HG.out]; simp only [getF, hc]⟩
        have H3 := Aside.mk h3.s2
        clear h3 hc HG hby HS
        go_wp2
        go_roundw
        case rel => exact ⟨h + 1, best, p, by omega, by push_cast; rfl, rfl, hb1, hb2, hpl, HG2, H3⟩
        case measure => simp [intOf]; omega
      | some cl =>
        rw [hc] at h3
        obtain ⟨vr, rfl, h3⟩ := h3
        have hbr := hby cl hc
        obtain ⟨Ar, cr, rfl, hcr, -⟩ := h3.row_slice
        have hl128 : cl.read.length = 128 := by
          have := h3.row_cases.1
          rw [b8s_length] at this
          exact this
        have HC : Aside (getF A i (best, p) f = match openI cl.read f i with
            | none => (best, p)
            | some x => if (x.2 : Int) ≤ best then (best, p) else ((x.2 : Int), x.1)) := ⟨by simp only [getF, hc]⟩
        have H3 := Aside.mk (And.intro h3 (And.intro hbr hl128))
        clear h3 hbr hl128 hc hby HS
        go_wp2_with fail
        refine (ext_open E _ f i Ar cl.read 128 cr _ hf H3.out.2.2 hcr H3.out.2.1 (fun w h => ⟨HQ.out.1 _ h.right.right.right, h.row_cells⟩) H3.out.1).mono ?_
        rintro e w4 (⟨ho, rfl, h4⟩ | ⟨p2, G, vp, ho, rfl, h4⟩)
        · rw [ho] at HC
          rw [HC.out] at HG
          have H4 := Aside.mk (h4.right.s2)
          clear h4 ho HC H3
          go_wp2
          go_roundw
          case rel => exact ⟨h + 1, best, p, by omega, by push_cast; rfl, rfl, hb1, hb2, hpl, HG, H4⟩
          case measure => simp [intOf]; omega
        · obtain ⟨hG1, hp2⟩ := openI_gen ho
          rw [ho] at HC
          dsimp only at HC
          by_cases hle : (G : Int) ≤ best
          · rw [if_pos hle] at HC
            rw [HC.out] at HG
            have H4 := Aside.mk (h4.right.right.s2)
            clear h4 ho HC H3
            go_wp2
            go_roundw
            case rel => exact ⟨h + 1, best, p, by omega, by push_cast; rfl, rfl, hb1, hb2, hpl, HG, H4⟩
            case measure => simp [intOf]; omega
          · rw [if_neg hle] at HC
            rw [HC.out] at HG
            obtain ⟨A2, c2, rfl, -, -⟩ := h4.row_slice
            have H4 := Aside.mk h4
            clear h4 ho HC H3
            obtain ⟨m, hm⟩ : ∃ m, m = p2.length := ⟨_, rfl⟩
            rw [← hm] at H4 hp2 ⊢
            have HM := Aside.mk hm
            clear hm
            have hle2 : best < (G : Int) := by omega
            clear hle
            go_wp2_with (first
              | (refine wpList_make_row (n := m) slB8 rfl rfl rfl rfl rfl H4.out (by unfold maxLen; omega) (by omega) (fun g w5 hw5 => ?_); have HW5 := Aside.mk hw5; clear hw5)
              | (at_builtin; fail)
              | (refine wpList_copy_sat Tryz.underlying43 (by kernel_rfl) rfl rfl rfl rfl HW5.out (by rw [b8s_length]; exact HM.out.symm) (HW5.out.right.row_cells) (b8s_one _) (fun w6 hw6 => ?_); have HW6 := Aside.mk hw6; clear hw6))
            have HW7 : Aside (Sat E w6 (HP.row 5 1 (.slice (some ⟨g, 0, none⟩) m m) p2.length (b8s p2) * (HP.disk d A * q))) := ⟨by
              have h7 := HW6.out.drop2.drop2
              rw [List.take_of_length_le (by rw [b8s_length, ← HM.out]; exact Nat.le_refl _), List.drop_of_length_le (by simp), List.append_nil] at h7
              have h8 : Sat E w6 (HP.row 5 1 u10 p.length (b8s p) * (HP.row 5 1 (.slice (some ⟨g, 0, none⟩) m m) m (b8s p2) * (HP.disk d A * q))) := h7.perm (by ac_rfl)
              rw [← HM.out]
              exact h8.right⟩
            clear HW5 HW6 H4
            go_wp2
            go_roundw
            case rel => exact ⟨h + 1, (G : Int), p2, by omega, by push_cast; rfl, rfl, hG1, by omega, by rw [← HM.out]; omega, HG, HW7⟩
            case measure => simp [intOf]; omega
    · have hh2 : h = 2 := by omega
      subst hh2
      rw [HF.out] at HG
      have HX : Aside (getP A name i = (best, p)) := ⟨HG.out.symm⟩
      clear HG i0 i1
      by_cases hneg : best < 0
      · go_wp2
        go_ret3
        rw [HX.out]
        exact ⟨_, by unfold getEnd; rw [if_pos hneg]; rfl, HS.out⟩
      · go_wp2
        go_ret3
        rw [HX.out]
        exact ⟨_, by unfold getEnd; rw [if_neg (by show ¬ best < 0; omega)]; rfl, HS.out⟩
end Go.Proofs.YtnpinegpajbkeaaGreatDoor
namespace Go.Proofs.YtnpinegpajbkeaaGreatDoor
open Go.RowKit HP
theorem extI_parts {f : ByteArray} {i g : Nat} {p : List Int} (h : p.length ≤ 106) :
    (extI f i g p).getD 17 0 = p.length ∧ ((extI f i g p).drop 9).take 8 = putI g 8 ∧ ((extI f i g p).drop 18).take p.length = p := by
  have e : extI f i g p = ([229] ++ putI (crcSum (strB f)) 4 ++ putI i 4) ++ (putI g 8 ++ ((p.length : Int) :: (p ++ (List.replicate (106 - p.length) 0 ++ putI (crcSum (extH f i g p)) 4)))) := by
    unfold extI
    conv => lhs; arg 1; unfold extH
    simp only [List.append_assoc, List.cons_append, List.nil_append]
  have l1 : ([229] ++ putI (crcSum (strB f)) 4 ++ putI i 4 : List Int).length = 9 := by simp [putI_length]
  have d9 : (extI f i g p).drop 9 = putI g 8 ++ ((p.length : Int) :: (p ++ (List.replicate (106 - p.length) 0 ++ putI (crcSum (extH f i g p)) 4))) := by
    rw [e, ← l1, List.drop_left]
  have d17 : (extI f i g p).drop 17 = (p.length : Int) :: (p ++ (List.replicate (106 - p.length) 0 ++ putI (crcSum (extH f i g p)) 4)) := by
    rw [show 17 = 9 + 8 from rfl, ← List.drop_drop, d9, List.drop_left' (putI_length g 8)]
  refine ⟨?_, ?_, ?_⟩
  · have := congrArg (fun l => l[0]?) d17
    simp only [List.getElem?_drop, Nat.add_zero, List.getElem?_cons_zero] at this
    simp [List.getD, this]
  · rw [d9]
    have := putI_length g 8
    rw [List.take_append_of_le_length (by omega), List.take_of_length_le (by omega)]
  · rw [show 18 = 17 + 1 from rfl, ← List.drop_drop, d17, List.drop_one, List.tail_cons, List.take_left]
theorem openI_extI {f : ByteArray} {i g : Nat} {p : List Int} (hi : i ≤ 2147483647) (hg : g ≤ 4611686018427387904) (h : p.length ≤ 106) : openI (extI f i g p) f i = some (p, g) := by
  obtain ⟨h1, h2, h3⟩ := extI_parts (f := f) (i := i) (g := g) h
  unfold openI
  rw [h1, h2, Int.toNat_natCast, Int.toNat_natCast, h3, getN_putI 8 g (by omega)]
  rw [if_neg (by rw [extI_length h]; omega), if_neg (by omega), if_neg (by simp)]
def stl (I : List Int) : Cel := ⟨I, I, I, I, false⟩
structure TwoNames (fa fb : ByteArray) : Prop where
  na : namedB fa = true
  nb : namedB fb = true
  ne : fa ≠ fb
  lt : ltN fa fb = true
  gt : ltN fb fa = false
def wr1 (A : Dk) (f : ByteArray) (i : Int) (I : List Int) : Int × Dk := if (A.write f i I).1 = 0 then (A.write f i I).2.sync f else A.write f i I
def put2 (A : Dk) (fa fb : ByteArray) (i : Int) (Ia Ib : List Int) : Int × Dk :=
  if (wr1 A fa i Ia).1 = 0 then (if (wr1 (wr1 A fa i Ia).2 fb i Ib).1 = 0 then (0, (wr1 (wr1 A fa i Ia).2 fb i Ib).2) else wr1 (wr1 A fa i Ia).2 fb i Ib) else wr1 A fa i Ia
def two (room fuse : Int) (fa fb : ByteArray) (a b : Cel) : Dk := ⟨room, fuse, [(fa, [a]), (fb, [b])]⟩
section
variable {fa fb : ByteArray} {Ia Ib : List Int} (T : TwoNames fa fb) (la : Ia.length = 128) (lb : Ib.length = 128)
include T la lb
end
def exS : ByteArray := ⟨#[120]⟩
end Go.Proofs.YtnpinegpajbkeaaGreatDoor
namespace Go.Proofs.YtnpinegpajbkeaaGreatDoor
open Go.RowKit HP
theorem at_some {A : Dk} {f : ByteArray} (h : 0 < (A.at f).length) : lk A.files f = some (A.at f) := by
  unfold Dk.at at h ⊢
  cases hk : lk A.files f with
  | none => rw [hk] at h; simp at h
  | some l => rfl
structure Fresh (A B : Dk) (f : ByteArray) (m : Nat) : Prop where
  sorted : Sorted B.files
  fuse : B.fuse = -1
  room : B.room = A.room
  size : sizeF B.files = sizeF A.files + m
  others : ∀ t, f ≠ t → B.at t = A.at t
def extN (A : Dk) (name : ByteArray) : Nat := (halvesL name).foldl (fun m f => max m (A.at f).length) 0
def loadG (A : Dk) (name : ByteArray) (gen : Int) : Nat → Nat → List Int → Option (List Int)
  | _, 0, out => some out
  | i, c + 1, out => if 0 ≤ (getP A name i).1 ∧ (getP A name i).1 = gen then loadG A name gen (i + 1) c (out ++ (getP A name i).2) else none
def loadP (A : Dk) (name : ByteArray) (gen : Int) : Option (List Int) := if extN A name = 0 then none else loadG A name gen 0 (extN A name) []
def loadEnd (E : Env) (q : HP) (r : Option (List Int)) (e : Ending) (w' : World) : Prop :=
  match r with
  | none => e = .returned (.tuple #[.slice none 0 0, .int .i64 50]) ∧ Sat E w' q
  | some l => ∃ v, e = .returned (.tuple #[v, .int .i64 0]) ∧ Sat E w' (HP.row 5 1 v l.length (b8s l) * q)
def newCels (f : ByteArray) (gen : Nat) : Nat → List (List Int) → List Cel
  | _, [] => []
  | i, p :: ps => Cel.zero.wrote (extI f i gen p) :: newCels f gen (i + 1) ps
structure Holds (B : Dk) (x : ByteArray) (gen : Nat) (ps : List (List Int)) : Prop where
  a : B.at (x ++ dotA) = (newCels (x ++ dotA) gen 0 ps).map Cel.syncd
  b : B.at (x ++ dotB) = (newCels (x ++ dotB) gen 0 ps).map Cel.syncd
def SumOk (b : List Int) : Prop := b.length = 128 ∧ b.drop 124 = putI (crcSum (b.take 124)) 4
theorem xorB_byte {a m : Int} (h0 : 0 ≤ a) (h1 : a ≤ 255) (h2 : 0 ≤ m) (h3 : m ≤ 255) : 0 ≤ xorB a m ∧ xorB a m ≤ 255 := by
  unfold xorB
  rw [u8_xor a m h0 (by omega) h2 (by omega)]
  have := Nat.xor_lt_two_pow (n := 8) (x := a.toNat) (y := m.toNat) (by omega) (by omega)
  omega
theorem getD_byte {l : List Int} (h : Bytes l) (k : Nat) : 0 ≤ l.getD k 0 ∧ l.getD k 0 ≤ 255 := by
  unfold List.getD
  cases hk : l[k]? with
  | none => simp
  | some x => exact h x (List.mem_of_getElem? hk)
structure LostEnd (B : Dk) (x : ByteArray) (k : Nat) : Prop where
  got : (getP B x k).1 < 0
  load : ∀ gen, loadP B x gen = none
  bytes : ∀ f ∈ halvesL x, ∀ i c, B.cel f i = some c → Bytes c.read
def partI (l : List Int) (e : Nat) : List Int := (l.drop (105 * e)).take 105
def zipX (a b : List Int) : List Int := List.zipWith xorB a b
def parI (l : List Int) (g : Nat) : Nat → List Int
  | 0 => List.replicate 106 0
  | k + 1 => zipX (parI l g k) (slotI (partI l (3 * g + k)))
def sec (G : List Int) (s : Nat) : List Int := (G.drop (106 * s)).take 106
def splS (G : List Int) (s : Nat) (S : List Int) : List Int := G.take (106 * s) ++ S ++ G.drop (106 * s + 106)
def payS (l : List Int) (g k : Nat) : List Int := if k = 3 then parI l g 3 else partI l (3 * g + k)
def paysS (l : List Int) (n k : Nat) : List (List Int) := (List.range n).map fun g => payS l g k
def stripeF (x : ByteArray) (k : Nat) : ByteArray := if k = 0 then x ++ dot0 else if k = 1 then x ++ dot1 else if k = 2 then x ++ dot2 else x ++ dotP
def groupsN (m : Nat) : Nat := if m = 0 then 1 else (m - 1) / 105 / 3 + 1
def wrT (A : Dk) (gen : Nat) : List (ByteArray × List (List Int)) → Int × Dk
  | [] => (0, A)
  | (f, ps) :: r => if (wrF A f gen 0 ps).1 = 0 then wrT (wrF A f gen 0 ps).2 gen r else wrF A f gen 0 ps
def fsS (name : ByteArray) (l : List Int) : List (ByteArray × List (List Int)) :=
  [(name ++ dot0, paysS l (groupsN l.length) 0), (name ++ dot1, paysS l (groupsN l.length) 1), (name ++ dot2, paysS l (groupsN l.length) 2), (name ++ dotP, paysS l (groupsN l.length) 3)]
def storeS (A : Dk) (name : ByteArray) (gen : Nat) (l : List Int) : Int × Dk := if (dropS A name).1 = 0 then wrT (dropS A name).2 gen (fsS name l) else dropS A name
theorem zipX_length (a b : List Int) : (zipX a b).length = min a.length b.length := by unfold zipX; rw [List.length_zipWith]
theorem zipX_bytes {a b : List Int} (ha : Bytes a) (hb : Bytes b) : Bytes (zipX a b) := by
  intro x hx
  unfold zipX at hx
  obtain ⟨i, hi, rfl⟩ := List.mem_iff_getElem.1 hx
  rw [List.getElem_zipWith]
  have h1 := ha _ (List.getElem_mem (by rw [List.length_zipWith] at hi; omega : i < a.length))
  have h2 := hb _ (List.getElem_mem (by rw [List.length_zipWith] at hi; omega : i < b.length))
  exact xorB_byte h1.1 h1.2 h2.1 h2.2
theorem sec_get {G : List Int} {s j : Nat} (h : 106 * s + 106 ≤ G.length) : (sec G s)[j]? = if j < 106 then G[106 * s + j]? else none := by
  unfold sec
  rw [List.getElem?_take]
  split
  · rw [List.getElem?_drop]
  · rfl
theorem sec_length {G : List Int} {s : Nat} (h : 106 * s + 106 ≤ G.length) : (sec G s).length = 106 := by
  unfold sec
  rw [List.length_take, List.length_drop]
  omega
theorem spl_length {G S : List Int} {s : Nat} (hS : S.length = 106) (h : 106 * s + 106 ≤ G.length) : (splS G s S).length = G.length := by
  unfold splS
  rw [List.length_append, List.length_append, List.length_take, List.length_drop, hS]
  omega
theorem spl_get {G S : List Int} {s : Nat} (hS : S.length = 106) (h : 106 * s + 106 ≤ G.length) (j : Nat) : (splS G s S)[j]? = if 106 * s ≤ j ∧ j < 106 * s + 106 then S[j - 106 * s]? else G[j]? := by
  unfold splS
  rw [List.append_assoc, List.getElem?_append, List.length_take, Nat.min_eq_left (by omega)]
  by_cases h1 : j < 106 * s
  · rw [if_pos h1, if_neg (by omega), List.getElem?_take, if_pos h1]
  · rw [if_neg h1, List.getElem?_append, hS]
    by_cases h2 : j - 106 * s < 106
    · rw [if_pos h2, if_pos (by omega)]
    · rw [if_neg h2, if_neg (by omega), List.getElem?_drop]
      congr 1
      omega
theorem sec_spl {G S : List Int} {s s' : Nat} (hS : S.length = 106) (h : 106 * s + 106 ≤ G.length) (h' : 106 * s' + 106 ≤ G.length) : sec (splS G s S) s' = if s = s' then S else sec G s' := by
  apply List.ext_getElem?
  intro j
  rw [sec_get (by rw [spl_length hS h]; exact h'), spl_get hS h]
  by_cases hj : j < 106
  · rw [if_pos hj]
    by_cases e : s = s'
    · subst e
      rw [if_pos (by omega), if_pos rfl]
      congr 1
      omega
    · rw [if_neg (by omega), if_neg e, sec_get h', if_pos hj]
  · rw [if_neg hj]
    split
    · rw [List.getElem?_eq_none (by omega)]
    · rw [sec_get h', if_neg hj]
theorem sec_mix {G O : List Int} {s s' : Nat} (hO : O.length = 106) (h : 106 * s + 106 ≤ G.length) (h' : 106 * s' + 106 ≤ G.length) : sec (mixN G (106 * s) O 106) s' = if s = s' then zipX (sec G s) O else sec G s' := by
  apply List.ext_getElem?
  intro j
  rw [sec_get (by rw [mixN_length]; exact h')]
  by_cases hj : j < 106
  · rw [if_pos hj]
    by_cases e : s = s'
    · subst e
      rw [if_pos rfl, mixN_in G (106 * s) O 106 j hj h]
      unfold zipX
      have hs : (sec G s)[j]? = some (G.getD (106 * s + j) 0) := by
        rw [sec_get h, if_pos hj, List.getD_eq_getElem?_getD, List.getElem?_eq_getElem (by omega)]; rfl
      have ho : O[j]? = some (O.getD j 0) := by rw [List.getD_eq_getElem?_getD, List.getElem?_eq_getElem (by omega)]; rfl
      rw [List.getElem?_zipWith, hs, ho]
    · rw [if_neg e, sec_get h', if_pos hj]
      rcases Nat.lt_or_ge s s' with h1 | h1
      · exact mixN_ge _ _ _ _ _ (by omega)
      · exact mixN_lt _ _ _ _ _ (by omega)
  · rw [if_neg hj]
    split
    · rw [List.getElem?_eq_none (by rw [zipX_length, sec_length h, hO]; omega)]
    · rw [sec_get h', if_neg hj]
structure Grp (l : List Int) (n : Nat) (G : List Int) (g k : Nat) : Prop where
  len : G.length = 424 * n
  slots : ∀ g' k', g' < n → k' < 3 → (g' < g ∨ g' = g ∧ k' < k) → sec G (4 * g' + k') = slotI (partI l (3 * g' + k'))
  par : ∀ g', g' < n → sec G (4 * g' + 3) = parI l g' (if g' < g then 3 else if g' = g then k else 0)
theorem zeros_one (z : Value) (n : Nat) (h : z.cells = #[z]) : Builtin.zeroCells z.cells n = (List.replicate n z).toArray := by
  unfold Builtin.zeroCells
  rw [h]
  apply Array.ext
  · simp
  · intro i h1 h2
    simp [Nat.mod_one]
theorem run_append_zeros {P : Program} {E : Env} {q : HP} {w : World} {v : Value} {n : Nat} {cs : List Value} {e t tn ty : TypeId} {i : TypeInfo} {z : Value} {kq kn : IntKind} {bytes : Nat} (ht : P.underlying t = some (.slice e)) (htn : P.underlying tn = some (.int kn)) (hi : P.info? e = some i) (hz : i.zero = some z)
    (hsize : i.size = 1) (hby : i.bytes = bytes) (hz1 : z.cells = #[z]) (hz2 : z.oneCell' = true)
    (h : Sat E w (row e 1 v n cs * q)) (k : Nat) (h0 : 0 < k) (h63 : n + k ≤ maxLen) (hbytes : (n + k) * bytes ≤ 140737488355328) :
    ∃ v' w', (Builtin.append_ #[t, tn] ty #[v, .int kq k]).run P w = .ok v' w' ∧ Sat E w' (row e 1 v' (n + k) (cs ++ List.replicate k z) * q) := by
  subst hby
  have hsmall : n + k ≤ 9223372036854775807 := by simp only [maxLen] at h63; omega
  have hcl := h.row_cases.1
  rw [Nat.mul_one] at hcl
  have hlen : (cs ++ List.replicate k z).length = n + k := by rw [List.length_append, hcl, List.length_replicate]
  have hkb : k * i.bytes ≤ 140737488355328 := by
    rw [Nat.add_mul] at hbytes
    omega
  have grown : ∀ (old : Nat), old < n + k → Sat E w q →
      Sat E (w.drew.alloc (.cells (cs.toArray ++ Builtin.zeroCells z.cells k ++ Builtin.zeroCells z.cells (grownCap w (n + k) old e - (n + k))) e)) (row e 1 (.slice (some ⟨w.heap.size, 0, none⟩) (n + k) (grownCap w (n + k) old e)) (n + k) (cs ++ List.replicate k z) * q) := by
    intro old ho hq
    have hge := grownCap_ge w (n + k) old e
    have hcm : grownCap w (n + k) old e ≤ maxLen := grownCap_le_maxLen w (n + k) old e h63
    have hs := Sat.row_mk (n := n + k) (cap := grownCap w (n + k) old e) (off := 0) (size := 1) (cs := cs ++ List.replicate k z) (hq.drew.alloc (.cells (cs.toArray ++ Builtin.zeroCells z.cells k ++ Builtin.zeroCells z.cells (grownCap w (n + k) old e - (n + k))) e)) hge hcm ?_ ?_
    · simpa using hs
    · simp only [Array.size_append, List.size_toArray, zeros_one z _ hz1, List.length_replicate, hcl]
      omega
    · rw [zeros_one z _ hz1, zeros_one z _ hz1]
      simp only [Array.toList_append, Nat.zero_mul, List.drop_zero, Nat.mul_one, ← hlen]
      exact List.take_left
  rcases h.row_cases.2 with ⟨B, hv, hn, hq⟩ | ⟨g, off, cap, cur, hv, hnc, hcm, hs, htk, hp⟩
  · subst hv
    subst hn
    have hx : cs = [] := List.eq_nil_of_length_eq_zero hcl
    subst hx
    have hgr := grown 0 (by omega) hq
    cases B with
    | none =>
      have hr := Lib.run_append_nil_zeros (P := P) w t tn ty e i z kq kn ht htn hi hz k h0 (by omega) (by omega) (by omega)
      simp only [Nat.zero_add, List.nil_append, Array.empty_append] at hgr ⊢
      exact ⟨_, _, hr, hgr⟩
    | some b =>
      have hold : (Builtin.firstCells i.size 0 (.slice (some b) 0 0)).run P w.drew = .ok ([] : List Value).toArray w.drew := by
        simp [Builtin.firstCells, loadCells, loadCellsFrom]
      have hr := Lib.run_append_grow_zeros (P := P) w t tn ty e i z kq kn ht htn hi hz (some b) 0 0 [] hold k h0 (by omega) (by omega) (by omega) (by omega) (growslice_fits (by omega) (by simpa using hbytes))
      simp only [Nat.zero_add, List.nil_append, Array.empty_append] at hgr hr ⊢
      exact ⟨_, _, hr, hgr⟩
  · subst hv
    simp only [Nat.mul_one] at hs htk h ⊢
    have hcells : ∀ j u, cs[j]? = some u → w.cell? ((⟨g, off, none⟩ : Addr).add j) = some u := h.row_cells.some_
    by_cases hroom : n + k ≤ cap
    · have hfit : off + n + (List.replicate k z).length ≤ cur.size := by rw [List.length_replicate]; omega
      have hst := run_storeCells_at P g (off + n) e (List.replicate k z) 0 cur w hp.get (by simpa using hfit) (fun u hu => by rw [List.eq_of_mem_replicate hu]; exact hz2)
      simp only [Nat.add_zero] at hst
      have hneg : ¬ ((k : Int) < 0) := by omega
      have hk63 : IntKind.i64.wrap (k : Int) = k := by rw [IntKind.wrap_i64]; omega
      have h48i : ¬ (281474976710656 < (k : Int) * (i.bytes : Int)) := by
        rw [← Int.natCast_mul]
        omega
      have hkn : k ≠ 0 := by omega
      refine ⟨.slice (some ⟨g, off, none⟩) (n + k) cap, w.setRow g (cur.toList.take (off + n) ++ List.replicate k z ++ cur.toList.drop (off + n + (List.replicate k z).length)).toArray, ?_, ?_⟩
      · simp [Builtin.append_, run_underlying ht, run_underlying htn, sizeOf, typeInfo, zeroValue, hi, hz, asInt, asIntOf, hk63, hneg, h48i, hsize, hkn, hroom, Addr.add_lit, zeros_one z _ hz1, hst]
      · have ht' := hp.turn (w' := w.setRow g (cur.toList.take (off + n) ++ List.replicate k z ++ cur.toList.drop (off + n + (List.replicate k z).length)).toArray) (o' := .cells (cur.toList.take (off + n) ++ List.replicate k z ++ cur.toList.drop (off + n + (List.replicate k z).length)).toArray e) ⟨rfl, rfl, rfl, by simp⟩
          (setRow_heap w g cur _ e _ hp.get) (fun j hj _ => setRow_other w g j _ hj)
        have hm := ht'.row_mk (off := off) (size := 1) (n := n + k) (cap := cap) (cs := cs ++ List.replicate k z) hroom hcm ?_ ?_
        · simpa using hm
        · simp only [List.size_toArray, List.length_append, List.length_take, List.length_drop, Array.length_toList, List.length_replicate]
          omega
        · have := splice_take cur.toList (List.replicate k z) off n (by simpa using hfit)
          rw [htk, List.length_replicate] at this
          simp only [Nat.mul_one, List.length_replicate]
          exact this
    · have hold : (Builtin.firstCells i.size n (.slice (some ⟨g, off, none⟩) n cap)).run P w.drew = .ok cs.toArray w.drew := by
        have := run_firstCells_some (P := P) w.drew i.size n ⟨g, off, none⟩ n cap cs (by rw [hsize, hcl]; omega) (fun j u hj => hcells j u hj)
        exact this
      have hr := Lib.run_append_grow_zeros (P := P) w t tn ty e i z kq kn ht htn hi hz (some ⟨g, off, none⟩) n cap cs hold k h0 (by omega) (by omega) (by omega) (by omega) (growslice_fits (by omega) hbytes)
      exact ⟨_, _, hr, grown cap (by omega) hp.right⟩
theorem wpList_append_zeros {P : Program} {E : Env} {q : HP} {w : World} {v : Value} {n : Nat} {cs : List Value} {e t tn : TypeId} {z : Value} {kq kn : IntKind} {bytes : Nat} {ops : Array Oper} {rest : List Oper} {o : Oper} {a : Act} {Q : Exit → Act → World → Prop} {s x : Operand} (T : SlTy P t e z 1 bytes) (htn : P.underlying tn = some (.int kn)) (hz1 : z.cells = #[z]) (hz2 : z.oneCell' = true) (hgd : o.guard = none)
    (ho : o.op = .call { callee := .builtin .append, args := #[s, x], argTypes := #[t, tn] }) {k : Nat} (hs : a.eval s = v) (hx : a.eval x = .int kq k)
    (h : Sat E w (row e 1 v n cs * q)) (h0 : 0 < k) (h63 : n + k ≤ maxLen) (hbytes : (n + k) * bytes ≤ 140737488355328)
    (hk : ∀ v' w', Sat E w' (row e 1 v' (n + k) (cs ++ List.replicate k z) * q) → wpList P ops Q rest (a.put o.dst v') w') : wpList P ops Q (o :: rest) a w := by
  obtain ⟨i, hi, hz, hsize, hby⟩ := info_parts T.info
  obtain ⟨v', w', hr, h2⟩ := run_append_zeros (P := P) (ty := o.type) (kq := kq) T.under htn hi hz hsize hby hz1 hz2 h k h0 h63 hbytes
  exact Lib.wpList_append_run w hgd s x t tn ho v (.int kq k) hs hx v' w' hr (hk v' w' h2)
theorem run_append_zeros0 {P : Program} {E : Env} {q : HP} {w : World} {v : Value} {n : Nat} {cs : List Value} {e t tn ty : TypeId} {i : TypeInfo} {z : Value} {kq kn : IntKind} {bytes : Nat} (ht : P.underlying t = some (.slice e)) (htn : P.underlying tn = some (.int kn)) (hi : P.info? e = some i) (hz : i.zero = some z)
    (hsize : i.size = 1) (hby : i.bytes = bytes) (h : Sat E w (row e 1 v n cs * q)) : (Builtin.append_ #[t, tn] ty #[v, .int kq 0]).run P w = .ok v w := by
  obtain ⟨A, c, rfl, hnc, hcm⟩ := h.row_slice
  have hw0 : IntKind.i64.wrap 0 = 0 := by rw [IntKind.wrap_i64]; omega
  cases A <;> simp [Builtin.append_, run_underlying ht, run_underlying htn, sizeOf, typeInfo, zeroValue, hi, hz, asInt, asIntOf, hsize, hnc, hw0, storeCells]
theorem wpList_append_zeros_any {P : Program} {E : Env} {q : HP} {w : World} {v : Value} {n : Nat} {cs : List Value} {e t tn : TypeId} {z : Value} {kq kn : IntKind} {bytes : Nat} {ops : Array Oper} {rest : List Oper} {o : Oper} {a : Act} {Q : Exit → Act → World → Prop} {s x : Operand} (T : SlTy P t e z 1 bytes) (htn : P.underlying tn = some (.int kn)) (hz1 : z.cells = #[z]) (hz2 : z.oneCell' = true) (hgd : o.guard = none)
    (ho : o.op = .call { callee := .builtin .append, args := #[s, x], argTypes := #[t, tn] }) {k : Nat} (hs : a.eval s = v) (hx : a.eval x = .int kq k)
    (h : Sat E w (row e 1 v n cs * q)) (h63 : n + k ≤ maxLen) (hbytes : (n + k) * bytes ≤ 140737488355328)
    (hk : ∀ v' w', Sat E w' (row e 1 v' (n + k) (cs ++ List.replicate k z) * q) → wpList P ops Q rest (a.put o.dst v') w') : wpList P ops Q (o :: rest) a w := by
  rcases Nat.eq_zero_or_pos k with h0 | h0
  · subst h0
    obtain ⟨i, hi, hz, hsize, hby⟩ := info_parts T.info
    have hr := run_append_zeros0 (P := P) (ty := o.type) (kq := kq) T.under htn hi hz hsize hby h
    exact Lib.wpList_append_run w hgd s x t tn ho v (.int kq 0) hs hx v w hr (hk v w (by simpa using h))
  · exact wpList_append_zeros T htn hz1 hz2 hgd ho hs hx h h0 h63 hbytes hk
theorem results_ct {P : Program} {fn : Func} {t u : Tmp} {ty : TypeId} (h : fn.results = #[.cell t ty, .tmp u]) {tmps : Array Value} {w : World} {a : Addr} {V : Value} (ha : tmps.getD t undef = .pointer (some a)) (hr : (loadVar ty a).run P w = .ok V w) : (results fn tmps).run P w = .ok (.tuple #[V, tmps.getD u undef]) w := by
  have ha' : tmps[t]?.getD undef = .pointer (some a) := by simpa using ha
  unfold results
  rw [h]
  simp [ha', asAddr, hr]
def slotZ : List Int := List.replicate 106 0
def readT (file : Nat) (p : List Int) : List Int × Bool := if file = 3 then (p ++ List.replicate (106 - p.length) 0, decide (p.length = 106)) else (slotI (p.take 105), decide (p.length ≤ 105))
def readS (A : Dk) (f : ByteArray) (file : Nat) (gen i : Int) : List Int × Bool :=
  match A.cel f i with
  | none => (slotZ, false)
  | some c => match openI c.read f i with
    | none => (slotZ, false)
    | some x => if (x.2 : Int) ≠ gen then (slotZ, false) else readT file x.1
theorem readT_length (file : Nat) {p : List Int} (h : p.length ≤ 106) : (readT file p).1.length = 106 := by
  unfold readT
  split
  · simp only [List.length_append, List.length_replicate]; omega
  · exact slotI_length (by rw [List.length_take]; omega)
theorem readS_length (A : Dk) (f : ByteArray) (file : Nat) (gen i : Int) : (readS A f file gen i).1.length = 106 := by
  unfold readS
  split
  · rfl
  · split
    · rfl
    · rename_i x hx
      split
      · rfl
      · exact readT_length file (openI_gen (p := x.1) (g := x.2) hx).2
theorem run_store_slot {E : Env} {q : HP} {w : World} {g : Nat} {Z S : List Int} (hZ : Z.length = 106) (hS : S.length = 106) (h : Sat E w (HP.pt g (.cells (b8s Z).toArray 100) * q)) :
    ∃ w', (storeVar 100 ⟨g, 0, none⟩ (.agg (b8s S).toArray)).run Tryz.prog w = .ok () w' ∧ Sat E w' (HP.pt g (.cells (b8s S).toArray 100) * q) := by
  have r2 := run_storeAgg agSlot (g := g) (off := 0) (cs := b8s S) h.get (by rw [b8s_length]; exact hS) (by simp [b8s_length, hZ]) (b8s_one S)
  have h2 := h.splice (splice (b8s Z).toArray.toList 0 (b8s S))
  have e : splice (b8s Z).toArray.toList 0 (b8s S) = b8s S := by
    unfold splice
    rw [List.take_zero, List.nil_append, Nat.zero_add, List.drop_of_length_le (by simp [b8s_length, hS, hZ]), List.append_nil]
  rw [e] at h2 r2
  exact ⟨_, r2, h2⟩
theorem run_load_slot {E : Env} {q : HP} {w : World} {g : Nat} {S : List Int} (hS : S.length = 106) (h : Sat E w (HP.pt g (.cells (b8s S).toArray 100) * q)) : (loadVar 100 ⟨g, 0, none⟩).run Tryz.prog w = .ok (.agg (b8s S).toArray) w :=
  run_loadAgg agSlot (by rw [b8s_length]; exact hS) (Sat.ptCells (off := 0) (l := b8s S) h (by rw [List.drop_zero, List.take_length]))
theorem run_arraySlot (a : Option Addr) (n c : Nat) (h : 106 ≤ n) (w : World) : (Instr.arrayAt 100 (.slice a n c)).run Tryz.prog w = .ok (.pointer a) w := by
  have : ¬ n < 106 := by omega
  simp [Instr.arrayAt, run_underlying Tryz.underlying100, this]
set_option maxHeartbeats 4000000 in
set_option maxRecDepth 100000 in
theorem stripe_read (E : Env) (q : HP) (d : Nat) (A : Dk) (f : ByteArray) (file : Nat) (gen i : Int) (w : World) (hf : f.size ≤ maxLen) (hfl : file < 4) (hby : ∀ c, A.cel f i = some c → Bytes c.read)
    (hq : ∀ w, Sat E w q → Quarter w) (hw : Sat E w (HP.disk d A * q)) :
    Calls Tryz.prog 120 #[.pointer (some ⟨d, 0, none⟩), .string f, .int .i64 file, .int .i64 gen, .int .i64 i] w fun e w' => e = .returned (.tuple #[.agg (b8s (readS A f file gen i).1).toArray, .bool (readS A f file gen i).2]) ∧ Sat E w' (HP.disk d A * q) := by
  have h0 := hw.alloc (.cells Tryz.zeroCells100 100)
  rw [← zero_slot] at h0
  have H0 : Aside (Sat E (w.alloc (.cells Tryz.zeroCells100 100)) (HP.disk d A * (HP.pt w.heap.size (.cells (b8s slotZ).toArray 100) * q))) := ⟨by rw [← zero_slot]; exact h0.perm (by show HP.pt _ (.cells (b8s slotZ).toArray _) * (HP.disk d A * q) = _; ac_rfl)⟩
  have HQ := Aside.mk (And.intro hq hby)
  have HZL : Aside (slotZ.length = 106) := ⟨List.length_replicate ..⟩
  have hz2 : Tryz.zeroCells100 = (b8s slotZ).toArray := zero_slot.symm
  have HZ2 := Aside.mk hz2
  clear hz2 h0 hw hq hby
  go_enter Tryz.func120, Tryz.ntmps120
  go_wp2_with fail
  refine (disk_read_ok E _ d A f i _ hf H0.out).mono ?_
  intro e w3 h3
  generalize w.heap.size = r at *
  unfold readEnd at h3
  cases hc : A.cel f i with
  | none =>
    rw [hc] at h3
    obtain ⟨rfl, h3⟩ := h3
    have HR : Aside (readS A f file gen i = (slotZ, false)) := ⟨by unfold readS; rw [hc]⟩
    obtain ⟨w4, hr4, h4⟩ := run_store_slot HZL.out HZL.out (h3.perm (by ac_rfl : _ = HP.pt r (.cells (b8s slotZ).toArray 100) * (HP.disk d A * q)))
    have rl := run_load_slot HZL.out h4
    have H4 := Aside.mk h4.right
    rw [← HZ2.out] at hr4
    clear h3 h4 hc
    go_wp2_with (first | (refine wpList_store_run rfl rfl rfl rfl rfl hr4 ?_))
    refine bodyPost_ret (results_ct rfl rfl rl) rfl ?_
    rw [HR.out]
    exact ⟨rfl, H4.out⟩
  | some cl =>
    rw [hc] at h3
    obtain ⟨vr, rfl, h3⟩ := h3
    have hbr := HQ.out.2 cl hc
    obtain ⟨Ar, cr, rfl, hcr, -⟩ := h3.row_slice
    have hl128 : cl.read.length = 128 := by
      have := h3.row_cases.1
      rw [b8s_length] at this
      exact this
    have HR0 : Aside (readS A f file gen i = match openI cl.read f i with
      | none => (slotZ, false)
      | some x => if (x.2 : Int) ≠ gen then (slotZ, false) else readT file x.1) := ⟨by unfold readS; rw [hc]⟩
    have H3 := Aside.mk (And.intro h3 (And.intro hbr hl128))
    clear h3 hbr hl128 hc H0
    go_wp2_with fail
    refine (ext_open E _ f i Ar cl.read 128 cr _ hf H3.out.2.2 hcr H3.out.2.1 (fun w h => ⟨HQ.out.1 _ h.right.right.right, h.row_cells⟩) H3.out.1).mono ?_
    rintro e w4 (⟨ho, rfl, h4⟩ | ⟨p, G, vp, ho, rfl, h4⟩)
    · have HR : Aside (readS A f file gen i = (slotZ, false)) := ⟨by rw [HR0.out, ho]⟩
      obtain ⟨w5, hr5, h5⟩ := run_store_slot HZL.out HZL.out (h4.right.perm (by ac_rfl : _ = HP.pt r (.cells (b8s slotZ).toArray 100) * (HP.disk d A * q)))
      have rl := run_load_slot HZL.out h5
      have H5 := Aside.mk h5.right
      rw [← HZ2.out] at hr5
      clear h4 h5 ho HR0 H3
      go_wp2_with (first | (refine wpList_store_run rfl rfl rfl rfl rfl hr5 ?_))
      refine bodyPost_ret (results_ct rfl rfl rl) rfl ?_
      rw [HR.out]
      exact ⟨rfl, H5.out⟩
    · have hgp := openI_gen ho
      have HR1 : Aside (readS A f file gen i = if (G : Int) ≠ gen then (slotZ, false) else readT file p) := ⟨by rw [HR0.out, ho]⟩
      obtain ⟨Av, cv, rfl, hcv, hmv⟩ := h4.row_slice
      have h5 : Sat E w4 (HP.row 5 1 (.slice Av p.length cv) p.length (b8s p) * (HP.pt r (.cells (b8s slotZ).toArray 100) * (HP.disk d A * q))) := (h4.perm (by ac_rfl : _ = HP.row 5 1 (.slice Ar 128 cr) 128 (b8s cl.read) * (HP.row 5 1 (.slice Av p.length cv) p.length (b8s p) * (HP.pt r (.cells (b8s slotZ).toArray 100) * (HP.disk d A * q))))).right
      clear h4 ho HR0 H3 hcr
      by_cases hG : (G : Int) = gen
      · have HR2 : Aside (readS A f file gen i = readT file p) := ⟨by rw [HR1.out, if_neg (fun h => h hG)]⟩
        obtain ⟨n, hn⟩ : ∃ n, n = p.length := ⟨_, rfl⟩
        have hn6 : n ≤ 106 := by rw [hn]; exact hgp.2
        rw [← hn] at h5 hcv ⊢
        have HN := Aside.mk hn
        have hgg : ((G : Int) == gen) = true := by rw [hG]; exact beq_self_eq_true _
        subst hG
        clear hn hgp HR1
        by_cases h3f : file = 3
        · subst h3f
          have H5 := Aside.mk h5
          clear h5
          obtain ⟨S, hS⟩ : ∃ S, S = p ++ List.replicate (106 - n) 0 := ⟨_, rfl⟩
          have hSl : S.length = 106 := by rw [hS, List.length_append, List.length_replicate, ← HN.out]; omega
          have hcs : b8s p ++ List.replicate (106 - n) (.int .u8 0) = b8s S := by rw [hS]; unfold b8s; rw [List.map_append, List.map_replicate]
          have hn1 : n + (106 - n) = 106 := by omega
          obtain ⟨bb, hbb⟩ : ∃ bb, bb = decide (n = 106) := ⟨_, rfl⟩
          have hb1 : ((n : Int) == 106) = bb := by rw [hbb]; by_cases h : n = 106 <;> simp [h] <;> omega
          have HT : Aside (readT 3 p = (S, bb)) := ⟨by unfold readT; rw [if_pos rfl, hS, hbb, HN.out]⟩
          have HS := Aside.mk (And.intro hSl (And.intro hcs hn1))
          clear hSl hcs hn1 hS hbb
          go_wp2_with (first | (refine wpList_load_run rfl rfl rfl rl6 ?_) | (refine wpList_store_run rfl rfl rfl rfl rfl hr7 ?_) | (at_builtin; refine wpList_append_zeros_any slB8 Tryz.underlying3 (by rfl) (by rfl) rfl rfl (k := 106 - n) (by rfl) (by show Value.int .i64 (106 - (n : Int)) = _; congr 1; omega) H5.out (by unfold maxLen; omega) (by omega) (fun v6 w6 hw6 => ?_); rw [HS.out.2.2, HS.out.2.1] at hw6; obtain ⟨A6, c6, rfl, hc6, hm6⟩ := hw6.row_slice; obtain ⟨a6, rfl, -⟩ := hw6.row_cells.at_ 0 (by rw [b8s_length, HS.out.1]; decide); obtain ⟨g6, o6, rfl⟩ := slice_addr hw6.row_cells rfl (k := 0) (by rw [b8s_length, HS.out.1]; decide); have ar := run_arraySlot (some ⟨g6, o6, none⟩) 106 c6 (by omega) w6; have rl6 := run_loadAgg (P := Tryz.prog) agSlot (by rw [b8s_length]; exact HS.out.1) hw6.row_cells; obtain ⟨w7, hr7, h7⟩ := run_store_slot HZL.out HS.out.1 hw6.right; have rl7 := run_load_slot HS.out.1 h7; have H7 := Aside.mk h7.right; clear hw6 h7 H5))
          refine bodyPost_ret (results_ct rfl rfl rl7) rfl ?_
          rw [HR2.out, HT.out]
          exact ⟨rfl, H7.out⟩
        · have h3i : ((file : Int) == 3) = false := by rw [beq_eq_false_iff_ne]; omega
          have h3j : ¬ (file : Int) = 3 := by omega
          have H5 := Aside.mk h5
          clear h5
          obtain ⟨m, hm⟩ : ∃ m, m = min n 105 := ⟨_, rfl⟩
          have hm1 : (if 105 < (n : Int) then 105 else (n : Int)) = (m : Int) := by split <;> omega
          have hm2 : min (n : Int) 105 = (m : Int) := by omega
          have hmn : m ≤ n := by omega
          have hm5 : m ≤ 105 := by omega
          have hmc : m ≤ cv := by omega
          obtain ⟨bb, hbb⟩ : ∃ bb, bb = decide (n ≤ 105) := ⟨_, rfl⟩
          have hb1 : decide ((n : Int) ≤ 105) = bb := by rw [hbb]; by_cases h : n ≤ 105 <;> simp [h] <;> omega
          have HT : Aside (readT file p = (slotI (p.take m), bb)) := ⟨by
            unfold readT
            have e : p.take m = p.take 105 := by rw [hm, Nat.min_comm, ← List.take_take, List.take_of_length_le (show p.length ≤ n by rw [HN.out]; exact Nat.le_refl _)]
            rw [if_neg h3f, hbb, ← HN.out, e]⟩
          have HPL : Aside ((p.take m).length = m) := ⟨by rw [List.length_take, ← HN.out]; omega⟩
          have HC : Aside (∀ w', Sat E w' (HP.row 5 1 (.slice Av n cv) n (b8s p) * (HP.pt r (.cells (b8s slotZ).toArray 100) * (HP.disk d A * q))) → Cells w' Av (b8s (p.take m))) := ⟨fun w' h => by
            have := h.row_cells.take m
            unfold b8s at this ⊢
            rw [List.map_take]; exact this⟩
          clear hbb hm
          go_wp2_with fail
          refine (stripe_of E _ Av (p.take m) m cv _ HPL.out hm5 HC.out H5.out).mono ?_
          rintro e w6 ⟨rfl, h6⟩
          have hS := slotI_length (p := p.take m) (by rw [HPL.out]; exact hm5)
          obtain ⟨w7, hr7, h7⟩ := run_store_slot HZL.out hS h6.right
          have rl7 := run_load_slot hS h7
          have H7 := Aside.mk h7.right
          clear h6 h7 H5 hS hm1 hm2
          go_wp2_with (first | (refine wpList_store_run rfl rfl rfl rfl rfl hr7 ?_))
          refine bodyPost_ret (results_ct rfl rfl rl7) rfl ?_
          rw [HR2.out, HT.out]
          exact ⟨rfl, H7.out⟩
      · have HR : Aside (readS A f file gen i = (slotZ, false)) := ⟨by rw [HR1.out, if_pos hG]⟩
        have hgg : ((G : Int) == gen) = false := by rw [beq_eq_false_iff_ne]; exact hG
        obtain ⟨w6, hr6, h6⟩ := run_store_slot HZL.out HZL.out h5.right
        have rl := run_load_slot HZL.out h6
        have H6 := Aside.mk h6.right
        rw [← HZ2.out] at hr6
        clear h5 h6 HR1 hgp hcv hmv
        go_wp2_with (first | (refine wpList_store_run rfl rfl rfl rfl rfl hr6 ?_))
        refine bodyPost_ret (results_ct rfl rfl rl) rfl ?_
        rw [HR.out]
        exact ⟨rfl, H6.out⟩
def cutA (Ap : Option Addr) (c a : Nat) : Option Addr := if c = a then Ap else Ap.map (·.add a)
def gCells (G : List Int) (R : List Bool) (n : Nat) : List Value := b8s G ++ (R.map Value.bool ++ [.int .i64 n])
theorem gCells_length {G : List Int} {R : List Bool} (n : Nat) (hG : G.length = 424) (hR : R.length = 4) : (gCells G R n).length = 429 := by
  unfold gCells
  rw [List.length_append, List.length_append, b8s_length, List.length_map, hG, hR]
  rfl
theorem gCells_one (G : List Int) (R : List Bool) (n : Nat) : (gCells G R n).all Value.oneCell' = true := by
  unfold gCells
  rw [List.all_append, b8s_one, Bool.true_and, List.all_append]
  simp [Value.oneCell']
theorem agGrp : AgTy Tryz.prog 115 429 := ⟨⟨_, Tryz.underlying115, rfl⟩, by kernel_rfl⟩
theorem zero_grp : (gCells (List.replicate 424 0) (List.replicate 4 false) 0).toArray = Tryz.zeroCells115 := by kernel_rfl
theorem gCells_right {G : List Int} {R : List Bool} {n k : Nat} {b : Bool} (hG : G.length = 424) (hR : R[k]? = some b) : (gCells G R n).toArray[424 + k]? = some (.bool b) := by
  rw [List.getElem?_toArray]
  unfold gCells
  have hk : k < R.length := (List.getElem?_eq_some_iff.1 hR).1
  rw [List.getElem?_append_right (by rw [b8s_length]; omega), b8s_length, hG, Nat.add_sub_cancel_left, List.getElem?_append_left (by rw [List.length_map]; exact hk), List.getElem?_map, hR]
  rfl
theorem gCells_bad {G : List Int} {R : List Bool} (n : Nat) (hG : G.length = 424) (hR : R.length = 4) : (gCells G R n).toArray[428]? = some (.int .i64 n) := by
  rw [List.getElem?_toArray]
  unfold gCells
  rw [List.getElem?_append_right (by rw [b8s_length]; omega), b8s_length, hG, List.getElem?_append_right (by rw [List.length_map]; omega), List.length_map, hR]
  rfl
theorem gCells_setR {G : List Int} {R : List Bool} {n k : Nat} (b : Bool) (hG : G.length = 424) (hk : k < R.length) : (gCells G R n).toArray.setIfInBounds (424 + k) (.bool b) = (gCells G (R.set k b) n).toArray := by
  rw [List.setIfInBounds_toArray]
  unfold gCells
  rw [List.set_append_right _ _ (by rw [b8s_length]; omega), b8s_length, hG, Nat.add_sub_cancel_left, List.set_append_left _ _ (by rw [List.length_map]; exact hk), List.map_set]
theorem gCells_setN {G : List Int} {R : List Bool} {n : Nat} (m : Nat) (hG : G.length = 424) (hR : R.length = 4) : (gCells G R n).toArray.setIfInBounds 428 (.int .i64 (m : Int)) = (gCells G R m).toArray := by
  rw [List.setIfInBounds_toArray]
  unfold gCells
  rw [List.set_append_right _ _ (by rw [b8s_length]; omega), b8s_length, hG, List.set_append_right _ _ (by rw [List.length_map]; omega), List.length_map, hR]
  rfl
theorem gCells_spl {G S : List Int} {R : List Bool} {n k : Nat} (hG : G.length = 424) (hk : k < 4) (hS : S.length = 106) : splice (gCells G R n) (106 * k) (b8s S) = gCells (splS G k S) R n := by
  unfold splice gCells splS
  rw [b8s_length, hS, List.take_append_of_le_length (by rw [b8s_length]; omega), List.drop_append_of_le_length (by rw [b8s_length]; omega), b8s_append, b8s_append]
  unfold b8s
  simp only [List.map_take, List.map_drop, List.append_assoc]
theorem gCells_sec {G : List Int} {R : List Bool} {n k : Nat} (hG : G.length = 424) (hk : k < 4) : ((gCells G R n).drop (106 * k)).take 106 = b8s (sec G k) := by
  unfold gCells sec
  rw [List.drop_append_of_le_length (by rw [b8s_length]; omega), List.take_append_of_le_length (by rw [List.length_drop, b8s_length]; omega)]
  unfold b8s
  rw [List.map_take, List.map_drop]
def slotOf (A : Dk) (x : ByteArray) (gen i : Int) (k : Nat) : List Int × Bool := readS A (stripeF x k) k gen i
def badN (A : Dk) (x : ByteArray) (gen i : Int) : Nat → Nat
  | 0 => 0
  | k + 1 => badN A x gen i k + (if (slotOf A x gen i k).2 = true then 0 else 1)
theorem badN_le (A : Dk) (x : ByteArray) (gen i : Int) : ∀ k, badN A x gen i k ≤ k
  | 0 => Nat.le_refl _
  | k + 1 => by
    have := badN_le A x gen i k
    rw [badN]
    split <;> omega
structure Looked (A : Dk) (x : ByteArray) (gen i : Int) (k : Nat) (G : List Int) (R : List Bool) (n : Nat) : Prop where
  len : G.length = 424
  rlen : R.length = 4
  slot : ∀ j, j < k → sec G j = (slotOf A x gen i j).1
  right : ∀ j, j < k → R[j]? = some (slotOf A x gen i j).2
  bad : n = badN A x gen i k
theorem looked_start (A : Dk) (x : ByteArray) (gen i : Int) : Looked A x gen i 0 (List.replicate 424 0) (List.replicate 4 false) 0 := ⟨List.length_replicate .., List.length_replicate .., fun j h => by omega, fun j h => by omega, rfl⟩
theorem looked_step {A : Dk} {x : ByteArray} {gen i : Int} {k : Nat} {G : List Int} {R : List Bool} {n : Nat} (h : Looked A x gen i k G R n) (hk : k < 4) : Looked A x gen i (k + 1) (splS G k (slotOf A x gen i k).1) (R.set k (slotOf A x gen i k).2) (n + (if (slotOf A x gen i k).2 = true then 0 else 1)) := by
  have hS : (slotOf A x gen i k).1.length = 106 := readS_length _ _ _ _ _
  have hl := h.len
  refine ⟨by rw [spl_length hS (by omega), hl], by rw [List.length_set, h.rlen], fun j hj => ?_, fun j hj => ?_, by rw [badN, h.bad]⟩
  · rw [sec_spl hS (by omega) (by omega)]
    split
    · rename_i e
      rw [e]
    · exact h.slot j (by omega)
  · rw [List.getElem?_set]
    by_cases e : k = j
    · subst e
      rw [if_pos rfl, if_pos (by rw [h.rlen]; exact hk)]
    · rw [if_neg e]
      exact h.right j (by omega)
def xorO (f : Nat → List Int) (k : Nat) : Nat → List Int
  | 0 => List.replicate 106 0
  | j + 1 => if j = k then xorO f k j else zipX (xorO f k j) (f j)
theorem xorO_length {f : Nat → List Int} (h : ∀ j, (f j).length = 106) (k : Nat) : ∀ j, (xorO f k j).length = 106
  | 0 => List.length_replicate ..
  | j + 1 => by
    unfold xorO
    split
    · exact xorO_length h k j
    · rw [zipX_length, xorO_length h k j, h]; omega
theorem xorO_bytes {f : Nat → List Int} (h : ∀ j, Bytes (f j)) (k : Nat) : ∀ j, Bytes (xorO f k j)
  | 0 => fun x hx => by rw [List.eq_of_mem_replicate hx]; omega
  | j + 1 => by
    unfold xorO
    split
    · exact xorO_bytes h k j
    · exact zipX_bytes (xorO_bytes h k j) (h j)
theorem xorO_ext {f g : Nat → List Int} (k : Nat) : ∀ j, (∀ i, i < j → i ≠ k → f i = g i) → xorO f k j = xorO g k j
  | 0, _ => rfl
  | j + 1, h => by
    unfold xorO
    rw [xorO_ext k j fun i hi => h i (by omega)]
    split
    · rfl
    · rename_i hne
      rw [h j (by omega) hne]
def fineS (S : List Int) : Bool := decide (S.headD 0 ≤ 105) && (S.drop (1 + (S.headD 0).toNat)).all fun x => decide (x = 0)
def slotsL (A : Dk) (x : ByteArray) (gen i : Int) (j : Nat) : List Int := (slotOf A x gen i j).1
theorem slotsL_length (A : Dk) (x : ByteArray) (gen i : Int) (j : Nat) : (slotsL A x gen i j).length = 106 := readS_length _ _ _ _ _
def missP (A : Dk) (x : ByteArray) (gen i : Int) (k : Nat) : List Int := xorO (slotsL A x gen i) k 4
def atF (A : Dk) (x : ByteArray) (gen i : Int) (k : Nat) : List Int × Bool :=
  if (slotOf A x gen i k).2 = true then ((slotOf A x gen i k).1, true)
  else if 1 < badN A x gen i 4 then (slotZ, false)
  else (missP A x gen i k, decide (k = 3) || fineS (missP A x gen i k))
theorem mix_zip {L O : List Int} (hL : L.length = 106) (hO : O.length = 106) : mixN L 0 O 106 = zipX L O := by
  have h := sec_mix (G := L) (O := O) (s := 0) (s' := 0) hO (by omega) (by omega)
  rw [if_pos rfl] at h
  have e : ∀ X : List Int, X.length = 106 → sec X 0 = X := fun X hX => by
    unfold sec
    rw [Nat.mul_zero, List.drop_zero, List.take_of_length_le (by omega)]
  rw [Nat.mul_zero] at h
  rw [e _ (by rw [mixN_length]; exact hL), e _ hL] at h
  exact h
def mend1 (A : Dk) (f : ByteArray) (i gen : Nat) (p : List Int) : (Bool × Int) × Dk :=
  if (A.write f i (extI f i gen p)).1 = 0 then
    ((decide (((A.write f i (extI f i gen p)).2.sync f).1 = 0), ((A.write f i (extI f i gen p)).2.sync f).1), ((A.write f i (extI f i gen p)).2.sync f).2)
  else ((false, (A.write f i (extI f i gen p)).1), (A.write f i (extI f i gen p)).2)
def firstBad (A : Dk) (x : ByteArray) (gen i : Int) : Option Nat := [0, 1, 2, 3].find? fun k => !(slotOf A x gen i k).2
theorem firstBad_at {A : Dk} {x : ByteArray} {gen i : Int} {k : Nat} (hk : k < 4) (hb : ∀ j, j < k → (slotOf A x gen i j).2 = true) (hr : (slotOf A x gen i k).2 = false) : firstBad A x gen i = some k := by
  unfold firstBad
  have hc : k = 0 ∨ k = 1 ∨ k = 2 ∨ k = 3 := by omega
  rcases hc with h0 | h0 | h0 | h0 <;> subst h0
  · simp [List.find?, hr]
  · simp [List.find?, hr, hb 0 (by omega)]
  · simp [List.find?, hr, hb 0 (by omega), hb 1 (by omega)]
  · simp [List.find?, hr, hb 0 (by omega), hb 1 (by omega), hb 2 (by omega)]
theorem firstBad_none {A : Dk} {x : ByteArray} {gen i : Int} (hb : ∀ j, j < 4 → (slotOf A x gen i j).2 = true) : firstBad A x gen i = none := by
  unfold firstBad
  simp [List.find?, hb 0 (by omega), hb 1 (by omega), hb 2 (by omega), hb 3 (by omega)]
def mendK (A : Dk) (x : ByteArray) (gen i : Int) : Option Nat → (Bool × Int) × Dk
  | none => ((false, 0), A)
  | some k => if (atF A x gen i k).2 = true then mend1 A (stripeF x k) i.toNat gen.toNat (payI k (atF A x gen i k).1) else ((false, 50), A)
def mendS (A : Dk) (x : ByteArray) (gen i : Int) : (Bool × Int) × Dk := if i < 0 ∨ 2147483647 < i then ((false, 1), A) else mendK A x gen i (firstBad A x gen i)
theorem openI_byt {b : List Int} {f : ByteArray} {i : Int} {x : List Int × Nat} (h : openI b f i = some x) (hb : Bytes b) : Bytes x.1 := by
  unfold openI at h
  split at h
  · cases h
  · split at h
    · cases h
    · split at h
      · cases h
      · simp only [Option.some.injEq] at h
        rw [← h]
        exact fun x hx => hb x (List.mem_of_mem_drop (List.mem_of_mem_take hx))
theorem readT_byt {file : Nat} {p : List Int} (h : p.length ≤ 106) (hb : Bytes p) : Bytes (readT file p).1 := by
  unfold readT
  split
  · refine hb.append fun x hx => ?_
    rw [List.eq_of_mem_replicate hx]; omega
  · exact slotI_bytes (by rw [List.length_take]; omega) fun x hx => hb x (List.mem_of_mem_take hx)
theorem readS_byt {A : Dk} {f : ByteArray} {file : Nat} {gen i : Int} (hb : ∀ c, A.cel f i = some c → Bytes c.read) : Bytes (readS A f file gen i).1 := by
  have hz : Bytes slotZ := fun x hx => by rw [List.eq_of_mem_replicate hx]; omega
  unfold readS
  cases hc : A.cel f i with
  | none => exact hz
  | some c =>
    dsimp only
    cases ho : openI c.read f i with
    | none => exact hz
    | some x =>
      dsimp only
      split
      · exact hz
      · exact readT_byt (openI_gen (p := x.1) (g := x.2) ho).2 (openI_byt ho (hb c hc))
theorem readS_gen {A : Dk} {f : ByteArray} {file : Nat} {gen i : Int} (h : (readS A f file gen i).2 = true) : 0 ≤ gen ∧ gen ≤ 4611686018427387904 := by
  unfold readS at h
  cases hc : A.cel f i with
  | none => rw [hc] at h; cases h
  | some c =>
    rw [hc] at h
    dsimp only at h
    cases ho : openI c.read f i with
    | none => rw [ho] at h; cases h
    | some x =>
      rw [ho] at h
      dsimp only at h
      by_cases hg : (x.2 : Int) ≠ gen
      · rw [if_pos hg] at h; cases h
      · have hg2 : (x.2 : Int) = gen := by omega
        have := (openI_gen (p := x.1) (g := x.2) ho).1
        omega
theorem atF_length (A : Dk) (x : ByteArray) (gen i : Int) (k : Nat) : (atF A x gen i k).1.length = 106 := by
  unfold atF
  split
  · exact readS_length _ _ _ _ _
  · split
    · exact List.length_replicate ..
    · exact xorO_length (slotsL_length A x gen i) k 4
theorem atF_byt {A : Dk} {x : ByteArray} {gen i : Int} {k : Nat} (hk : k < 4) (hb : ∀ j, j < 4 → Bytes (slotsL A x gen i j)) : Bytes (atF A x gen i k).1 := by
  unfold atF
  split
  · exact hb k hk
  · split
    · exact fun y hy => by rw [List.eq_of_mem_replicate hy]; omega
    · unfold missP
      have h4 : xorO (slotsL A x gen i) k 4 = xorO (fun j => if j < 4 then slotsL A x gen i j else List.replicate 106 0) k 4 := xorO_ext k 4 fun j hj _ => by rw [if_pos hj]
      rw [h4]
      refine xorO_bytes (fun j => ?_) k 4
      split
      · rename_i h; exact hb j h
      · exact fun y hy => by rw [List.eq_of_mem_replicate hy]; omega
theorem atF_miss {A : Dk} {x : ByteArray} {gen i : Int} {k : Nat} (hk : k < 4) (hr : (slotOf A x gen i k).2 = false) (h : (atF A x gen i k).2 = true) : (0 ≤ gen ∧ gen ≤ 4611686018427387904) ∧ (k ≠ 3 → (atF A x gen i k).1.headD 0 ≤ 105) := by
  have e : atF A x gen i k = if 1 < badN A x gen i 4 then (slotZ, false) else (missP A x gen i k, decide (k = 3) || fineS (missP A x gen i k)) := by
    unfold atF
    rw [if_neg (by rw [hr]; decide)]
  by_cases hb : 1 < badN A x gen i 4
  · rw [e, if_pos hb] at h; cases h
  rw [e, if_neg hb] at h ⊢
  constructor
  · obtain ⟨j, hj, hjr⟩ : ∃ j, j < 4 ∧ (slotOf A x gen i j).2 = true := by
      have h0 : badN A x gen i 4 = (if (slotOf A x gen i 0).2 = true then 0 else 1) + (if (slotOf A x gen i 1).2 = true then 0 else 1) + (if (slotOf A x gen i 2).2 = true then 0 else 1) + (if (slotOf A x gen i 3).2 = true then 0 else 1) := by
        simp only [badN]; omega
      by_cases a0 : (slotOf A x gen i 0).2 = true
      · exact ⟨0, by omega, a0⟩
      by_cases a1 : (slotOf A x gen i 1).2 = true
      · exact ⟨1, by omega, a1⟩
      rw [if_neg a0, if_neg a1] at h0
      omega
    exact readS_gen hjr
  · intro hk3
    rw [decide_eq_false hk3, Bool.false_or] at h
    unfold fineS at h
    simp only [Bool.and_eq_true, decide_eq_true_eq] at h
    exact h.1
structure FilesEnd (A B : Dk) (gen : Nat) (fs : List (ByteArray × List (List Int))) : Prop where
  sorted : Sorted B.files
  fuse : B.fuse = -1
  room : B.room = A.room
  size : sizeF B.files = sizeF A.files + (fs.map fun x => x.2.length).sum
  others : ∀ t, (∀ x ∈ fs, x.1 ≠ t) → B.at t = A.at t
  held : ∀ x ∈ fs, B.at x.1 = (newCels x.1 gen 0 x.2).map Cel.syncd
structure FourNames (x : ByteArray) : Prop where
  n0 : namedB (x ++ dot0) = true
  n1 : namedB (x ++ dot1) = true
  n2 : namedB (x ++ dot2) = true
  n3 : namedB (x ++ dotP) = true
  ne : [x ++ dot0, x ++ dot1, x ++ dot2, x ++ dotP].Pairwise (· ≠ ·)
structure StHas (room : Int) (x : ByteArray) (gen : Nat) (l : List Int) (B : Dk) : Prop where
  eq : storeS (Dk.new room) x gen l = (0, B)
  sorted : Sorted B.files
  fuse : B.fuse = -1
  free : B.free = room - 4 * (groupsN l.length : Int)
  held : ∀ k, k < 4 → B.at (stripeF x k) = (newCels (stripeF x k) gen 0 (paysS l (groupsN l.length) k)).map Cel.syncd
def partM (at_ : Nat → Nat → List Int × Bool) : Nat → Nat → Nat → List Int → Option (List Int)
  | 0, _, _, out => some out
  | c + 1, fr, en, out =>
    if fr < en then
      if (at_ (fr / 105 / 3) (fr / 105 % 3)).2 = true ∧ ((fr % 105 + min (105 - fr % 105) (en - fr) : Nat) : Int) ≤ (at_ (fr / 105 / 3) (fr / 105 % 3)).1.headD 0 then
        partM at_ c (fr + min (105 - fr % 105) (en - fr)) en (out ++ ((at_ (fr / 105 / 3) (fr / 105 % 3)).1.drop (1 + fr % 105)).take (min (105 - fr % 105) (en - fr)))
      else none
    else some out
structure AtText (l : List Int) (at_ : Nat → Nat → List Int × Bool) : Prop where
  right : ∀ i k, k < 3 → (at_ i k).2 = true → (at_ i k).1 = slotI (partI l (3 * i + k))
def slotT (l : List Int) (i k : Nat) : List Int := if k = 3 then parI l i 3 else slotI (partI l (3 * i + k))
structure StRead (B : Dk) (x : ByteArray) (gen : Nat) (l : List Int) : Prop where
  right : ∀ i k, k < 4 → i < groupsN l.length → slotOf B x gen i k = (slotT l i k, true)
  none : ∀ i k, k < 4 → groupsN l.length ≤ i → slotOf B x gen i k = (slotZ, false)
  bytes : ∀ k, k < 4 → ∀ (i : Int) c, B.cel (stripeF x k) i = some c → Bytes c.read
def lookEnd (E : Env) (q : HP) (A : Dk) (x : ByteArray) (gen i : Int) (e : Ending) (w' : World) : Prop := ∃ G R n, e = .returned (.agg (gCells G R n).toArray) ∧ Looked A x gen i 4 G R n ∧ Sat E w' q
set_option maxHeartbeats 4000000 in
set_option maxRecDepth 100000 in
theorem stripe_look (E : Env) (q : HP) (d : Nat) (A : Dk) (name : ByteArray) (gen i : Int) (w : World) (hname : name.size + 2 ≤ maxLen) (hby : ∀ k, k < 4 → ∀ c, A.cel (stripeF name k) i = some c → Bytes c.read)
    (hq : ∀ w, Sat E w q → Quarter w) (hw : Sat E w (HP.disk d A * q)) :
    Calls Tryz.prog 70 #[.pointer (some ⟨d, 0, none⟩), .string name, .int .i64 gen, .int .i64 i] w (lookEnd E (HP.disk d A * q) A name gen i) := by
  have h0 := (hw.alloc (.cells Tryz.zeroCells115 115)).alloc (.cells Tryz.zeroCells115 115)
  rw [show (w.alloc (.cells Tryz.zeroCells115 115)).heap.size = w.heap.size + 1 by simp] at h0
  have HQ := Aside.mk (And.intro hq hby)
  obtain ⟨Z, hZ⟩ : ∃ Z, Z = Tryz.zeroCells115 := ⟨_, rfl⟩
  have HZ : Aside (Z = (gCells (List.replicate 424 0) (List.replicate 4 false) 0).toArray) := ⟨by rw [hZ]; exact zero_grp.symm⟩
  rw [← hZ] at h0
  have H0 := Aside.mk h0
  have hfa : (name ++ dot0).size ≤ maxLen := by rw [(dot_size name).1]; exact hname
  have hfb : (name ++ dot1).size ≤ maxLen := by rw [(dot_size name).2.1]; exact hname
  have hfc : (name ++ dot2).size ≤ maxLen := by rw [(dot_size name).2.2.1]; exact hname
  have hfd : (name ++ dotP).size ≤ maxLen := by rw [(dot_size name).2.2.2]; exact hname
  have HF : Aside (stripeF name 0 = name ++ dot0 ∧ stripeF name 1 = name ++ dot1 ∧ stripeF name 2 = name ++ dot2 ∧ stripeF name 3 = name ++ dotP) := ⟨rfl, rfl, rfl, rfl⟩
  have HZ9 := Aside.mk hZ
  clear h0 hw hq hby
  go_enter Tryz.func70, Tryz.ntmps70
  go_wp2_with fail
  rw [← HZ9.out]
  refine (stripe_names E _ name _ hname H0.out).mono ?_
  rintro e w1 ⟨rfl, h1⟩
  obtain ⟨fa, hfae⟩ : ∃ fa, fa = name ++ dot0 := ⟨_, rfl⟩
  obtain ⟨fb, hfbe⟩ : ∃ fb, fb = name ++ dot1 := ⟨_, rfl⟩
  obtain ⟨fc, hfce⟩ : ∃ fc, fc = name ++ dot2 := ⟨_, rfl⟩
  obtain ⟨fd, hfde⟩ : ∃ fd, fd = name ++ dotP := ⟨_, rfl⟩
  rw [← hfae] at hfa HF ⊢
  rw [← hfbe] at hfb HF ⊢
  rw [← hfce] at hfc HF ⊢
  rw [← hfde] at hfd HF ⊢
  have i0 : ∀ w, (Instr.index 104 (.agg #[.string fa, .string fb, .string fc, .string fd]) (.int .i64 0)).run Tryz.prog w = .ok (.string fa) w := fun w => by kernel_rfl
  have i1 : ∀ w, (Instr.index 104 (.agg #[.string fa, .string fb, .string fc, .string fd]) (.int .i64 1)).run Tryz.prog w = .ok (.string fb) w := fun w => by kernel_rfl
  have i2 : ∀ w, (Instr.index 104 (.agg #[.string fa, .string fb, .string fc, .string fd]) (.int .i64 2)).run Tryz.prog w = .ok (.string fc) w := fun w => by kernel_rfl
  have i3 : ∀ w, (Instr.index 104 (.agg #[.string fa, .string fb, .string fc, .string fd]) (.int .i64 3)).run Tryz.prog w = .ok (.string fd) w := fun w => by kernel_rfl
  have H1 : Aside (∃ G R n, Looked A name gen i 0 G R n ∧ Sat E w1 (HP.pt (w.heap.size + 1) (.cells (gCells G R n).toArray 115) * (HP.pt w.heap.size (.cells Z 115) * (HP.disk d A * q)))) := ⟨_, _, _, looked_start A name gen i, by rw [← HZ.out]; exact h1⟩
  clear h1 hfae hfbe hfce hfde H0 hZ
  generalize w.heap.size + 1 = b at *
  generalize w.heap.size = r at *
  go_wp2
  go_loopw [14] (fun v14 wr => ∃ k : Nat, k ≤ 4 ∧ v14 = .int .i64 k ∧ Aside (∃ G R n, Looked A name gen i k G R n ∧ Sat E wr (HP.pt b (.cells (gCells G R n).toArray 115) * (HP.pt r (.cells Z 115) * (HP.disk d A * q))))) (fun i _ => 4 - (intOf i).toNat)
  case atStart => exact ⟨0, by omega, rfl, H1⟩
  case round =>
    clear H1
    obtain ⟨k, hk, rfl, HK⟩ := hrel
    by_cases hlt : k < 4
    · obtain ⟨f, hf, hff, hix⟩ : ∃ f : ByteArray, f.size ≤ maxLen ∧ stripeF name k = f ∧ ∀ w, (Instr.index 104 (.agg #[.string fa, .string fb, .string fc, .string fd]) (.int .i64 (k : Int))).run Tryz.prog w = .ok (.string f) w := by
        have hc : k = 0 ∨ k = 1 ∨ k = 2 ∨ k = 3 := by omega
        rcases hc with h0 | h0 | h0 | h0 <;> subst h0
        · exact ⟨fa, hfa, HF.out.1, i0⟩
        · exact ⟨fb, hfb, HF.out.2.1, i1⟩
        · exact ⟨fc, hfc, HF.out.2.2.1, i2⟩
        · exact ⟨fd, hfd, HF.out.2.2.2, i3⟩
      obtain ⟨G, R, n, hG, hS⟩ := HK.out
      have hby := HQ.out.2 k hlt
      have HST := Aside.mk (looked_step hG hlt)
      have hSl : (slotOf A name gen i k).1.length = 106 := readS_length _ _ _ _ _
      have hso : readS A f k gen i = slotOf A name gen i k := by unfold slotOf; rw [hff]
      have hn4 : n ≤ 4 := by
        have := hG.bad
        have := badN_le A name gen i k
        omega
      rw [hff] at hby
      have HG := Aside.mk (And.intro hG.len (And.intro hG.rlen (And.intro hSl (And.intro hso hby))))
      have hS2 : Sat E wr (HP.disk d A * (HP.pt b (.cells (gCells G R n).toArray 115) * (HP.pt r (.cells Z 115) * q))) := hS.perm (by ac_rfl)
      have HS := Aside.mk hS2
      clear hG hS hS2 hby hSl hso hff HK i0 i1 i2 i3
      have hlt2 : (k : Int) < 4 := by omega
      go_wp2_with fail
      refine (stripe_read E _ d A f k gen i _ hf hlt HG.out.2.2.2.2 (fun w h => HQ.out.1 w h.right.right) HS.out).mono ?_
      rintro e w3 ⟨rfl, h3⟩
      rw [HG.out.2.2.2.1]
      have hSl := HG.out.2.2.1
      generalize slotOf A name gen i k = so at *
      obtain ⟨S, rt⟩ := so
      dsimp only at *
      have h4 : Sat E w3 (HP.pt b (.cells (gCells G R n).toArray 115) * (HP.pt r (.cells Z 115) * (HP.disk d A * q))) := h3.perm (by ac_rfl)
      have hr4 := run_storeAgg agSlot (g := b) (off := 106 * k) (cs := b8s S) h4.get (by rw [b8s_length]; exact hSl) (by rw [List.size_toArray, gCells_length n HG.out.1 HG.out.2.1]; omega) (b8s_one S)
      have h5 := h4.splice (splice (gCells G R n).toArray.toList (106 * k) (b8s S))
      have e5 : splice (gCells G R n).toArray.toList (106 * k) (b8s S) = gCells (splS G k S) R n := gCells_spl HG.out.1 hlt hSl
      rw [e5] at h5 hr4
      rw [Nat.mul_comm] at hr4
      generalize World.setRow w3 b (gCells (splS G k S) R n).toArray = w5 at *
      have hG5 : (splS G k S).length = 424 := by rw [spl_length hSl (by have := HG.out.1; omega), HG.out.1]
      have g5 : w5.cell? ⟨b, 424 + k, none⟩ = some (.bool (R[k]'(by rw [HG.out.2.1]; exact hlt))) := by rw [h5.cell (424 + k)]; exact gCells_right hG5 (List.getElem?_eq_getElem _)
      generalize (R[k]'(by rw [HG.out.2.1]; exact hlt)) = ob at g5
      have t5 : w5.frozen? ⟨b, 424 + k, none⟩ = false := h5.thaw (424 + k)
      have h6 := h5.set (i := 424 + k) (.bool rt)
      rw [gCells_setR rt hG5 (by rw [HG.out.2.1]; exact hlt)] at h6
      have hR6 : (R.set k rt)[k]? = some rt := by rw [List.getElem?_set_self (by rw [HG.out.2.1]; exact hlt)]
      have hRl : (R.set k rt).length = 4 := by rw [List.length_set]; exact HG.out.2.1
      have g6 : (w5.setCell ⟨b, 424 + k, none⟩ (.bool rt)).cell? ⟨b, 424 + k, none⟩ = some (.bool rt) := by rw [h6.cell (424 + k)]; exact gCells_right hG5 hR6
      have g7 : (w5.setCell ⟨b, 424 + k, none⟩ (.bool rt)).cell? ⟨b, 428, none⟩ = some (.int .i64 n) := by rw [h6.cell 428]; exact gCells_bad n hG5 hRl
      have t7 : (w5.setCell ⟨b, 424 + k, none⟩ (.bool rt)).frozen? ⟨b, 428, none⟩ = false := h6.thaw 428
      have H6 := Aside.mk (And.intro h6 (And.intro hG5 hRl))
      clear h3 h4 h5 h6 e5 hG5 hR6 hRl hSl HS
      cases rt with
      | true =>
        simp only [if_true] at HST
        have H8 : Aside (∃ G R n, Looked A name gen i (k + 1) G R n ∧ Sat E (w5.setCell ⟨b, 424 + k, none⟩ (.bool true)) (HP.pt b (.cells (gCells G R n).toArray 115) * (HP.pt r (.cells Z 115) * (HP.disk d A * q)))) := ⟨_, _, _, HST.out, H6.out.1⟩
        clear HST H6 t7 g7 HG
        go_wp2_with (first | (refine wpList_store_run rfl rfl rfl rfl rfl hr4 ?_))
        go_roundw
        case rel => exact ⟨k + 1, by omega, by push_cast; rfl, H8⟩
        case measure => simp [intOf]; omega
      | false =>
        have H8 : Aside (∃ G' R' n', Looked A name gen i (k + 1) G' R' n' ∧ Sat E ((w5.setCell ⟨b, 424 + k, none⟩ (.bool false)).setCell ⟨b, 428, none⟩ (.int .i64 ((n + 1 : Nat) : Int))) (HP.pt b (.cells (gCells G' R' n').toArray 115) * (HP.pt r (.cells Z 115) * (HP.disk d A * q)))) := ⟨_, _, n + 1, HST.out, by
          have h := H6.out.1.set (i := 428) (.int .i64 ((n + 1 : Nat) : Int))
          rw [gCells_setN (n + 1) H6.out.2.1 H6.out.2.2] at h
          exact h⟩
        push_cast at H8
        clear HST H6 HG
        go_wp2_with (first | (refine wpList_store_run rfl rfl rfl rfl rfl hr4 ?_))
        go_roundw
        case rel => exact ⟨k + 1, by omega, by push_cast; rfl, H8⟩
        case measure => simp [intOf]; omega
    · obtain rfl : k = 4 := by omega
      obtain ⟨G, R, n, hG, hS⟩ := HK.out
      have rl := run_loadAgg (P := Tryz.prog) agGrp (gCells_length n hG.len hG.rlen) (Sat.ptCells (off := 0) (l := gCells G R n) hS (by rw [List.drop_zero, List.take_length]))
      have h2 := hS.s2
      rw [HZ.out] at h2
      have hr2 := run_storeAgg agGrp (g := r) (off := 0) (cs := gCells G R n) h2.get (gCells_length n hG.len hG.rlen) (by rw [List.size_toArray, gCells_length 0 (List.length_replicate ..) (List.length_replicate ..)]; exact Nat.le_refl _) (gCells_one G R n)
      have h3 := h2.splice (splice (gCells (List.replicate 424 0) (List.replicate 4 false) 0).toArray.toList 0 (gCells G R n))
      have e3 : splice (gCells (List.replicate 424 0) (List.replicate 4 false) 0).toArray.toList 0 (gCells G R n) = gCells G R n := by
        unfold splice
        rw [List.take_zero, List.nil_append, Nat.zero_add, List.drop_of_length_le (by rw [show (gCells (List.replicate 424 0) (List.replicate 4 false) 0).toArray.toList.length = 429 from gCells_length 0 (List.length_replicate ..) (List.length_replicate ..), gCells_length n hG.len hG.rlen]; exact Nat.le_refl _), List.append_nil]
      rw [e3] at h3 hr2
      generalize World.setRow wr r (gCells G R n).toArray = w4 at *
      have rl4 := run_loadAgg (P := Tryz.prog) agGrp (gCells_length n hG.len hG.rlen) (Sat.ptCells (off := 0) (l := gCells G R n) h3 (by rw [List.drop_zero, List.take_length]))
      have H3 := Aside.mk (And.intro h3 hG)
      clear hG hS h2 h3 e3 HK i0 i1 i2 i3
      obtain ⟨C, hC⟩ : ∃ C, C = (gCells G R n).toArray := ⟨_, rfl⟩
      rw [← hC] at rl hr2 rl4
      have HC := Aside.mk hC
      clear hC
      go_wp2_with (first | (refine wpList_load_run rfl rfl rfl rl ?_) | (refine wpList_store_run rfl rfl rfl rfl rfl hr2 ?_))
      refine bodyPost_ret (results_cell (t := 8) rfl rfl rl4) rfl ?_
      exact ⟨G, R, n, by rw [HC.out], H3.out.2, H3.out.1.right.right⟩
end Go.Proofs.YtnpinegpajbkeaaGreatDoor
