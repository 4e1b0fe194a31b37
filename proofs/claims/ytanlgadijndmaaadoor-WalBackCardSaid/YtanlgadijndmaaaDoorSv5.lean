/- Texts of one claim, one behind the other: PtC, ExtA, AnchA, AnchE, ExtB, AnchD, ArrEq, ExtF, ExtO, DiskM, DiskRm, Nones, PairA. -/
import Derived.Test.YtanlgadijndmaaaDoorSv4
import Derived.Laws.IdiomStrings
import Derived.Laws.StructEq
import Derived.ChangeKeysEq
/- Copying into an array of one's own; a string's bytes. -/
namespace Go.Proofs.YtanlgadijndmaaaDoor
open Go.RowKit HP
set_option linter.unusedSimpArgs false
set_option linter.unusedVariables false

/-- A text's bytes. -/
def strB (s : ByteArray) : List Int := s.data.toList.map fun b => (b.toNat : Int)
theorem strB_length (s : ByteArray) : (strB s).length = s.size := by
  unfold strB
  rw [List.length_map, Array.length_toList]
  rfl
theorem strB_bytes (s : ByteArray) : Bytes (strB s) := fun x hx => by
  obtain ⟨b, _, rfl⟩ := List.mem_map.1 hx
  have := b.toNat_lt
  omega
theorem z_bytes (n : Nat) : Bytes (List.replicate n 0) := fun x hx => by
  have := List.eq_of_mem_replicate hx
  omega
theorem Bytes.append {a b : List Int} (ha : Bytes a) (hb : Bytes b) : Bytes (a ++ b) := fun x hx => by
  rcases List.mem_append.1 hx with h | h
  · exact ha x h
  · exact hb x h
theorem zero_at {a : List Int} {n off : Nat} (ho : off = a.length) : (b8s (a ++ List.replicate (n + 1) 0)).toArray[off]? = some (.int .u8 0) := by
  subst ho
  simp [b8s]
theorem set_zero {a : List Int} {n off : Nat} {x : Int} (ho : off = a.length) : (b8s (a ++ List.replicate (n + 1) 0)).toArray.setIfInBounds off (.int .u8 x) = (b8s (a ++ [x] ++ List.replicate n 0)).toArray := by
  subst ho
  rw [List.setIfInBounds_toArray]
  congr 1
  unfold b8s
  rw [← List.map_set, List.replicate_succ, List.set_append_right _ _ (Nat.le_refl _), Nat.sub_self, List.set_cons_zero, List.append_assoc]
  rfl
theorem b8s_append (a b : List Int) : b8s (a ++ b) = b8s a ++ b8s b := by unfold b8s; rw [List.map_append]
/-- What is copied to the front of the zeros. -/
theorem splice_zero {a c : List Int} {n off : Nat} (ho : off = a.length) (hc : c.length ≤ n) : splice (b8s (a ++ List.replicate n 0)) off (b8s c) = b8s (a ++ c ++ List.replicate (n - c.length) 0) := by
  have e : List.replicate n (0 : Int) = List.replicate c.length 0 ++ List.replicate (n - c.length) 0 := by rw [List.replicate_append_replicate, Nat.add_sub_cancel' hc]
  rw [e, b8s_append, b8s_append, splice_mid _ _ _ _ (by rw [b8s_length, ho]) (by rw [b8s_length, b8s_length, List.length_replicate]), b8s_append, b8s_append, List.append_assoc]

section
variable {P : Program} {E : Env} {q : HP} {w : World}
theorem Sat.ptCells {g : Nat} {t : TypeId} {L : List Value} {fr : Nat × Nat} (h : Sat E w (HP.pt g (.cells L.toArray t fr) * q)) {off : Nat} {l : List Value} (hs : (L.drop off).take l.length = l) : Cells w (some ⟨g, off, none⟩) l := fun j u hj => by
  refine ⟨_, rfl, ?_⟩
  rw [addr_add, h.cell]
  have hjl : j < l.length := (List.getElem?_eq_some_iff.1 hj).1
  rw [← hs, List.getElem?_take_of_lt hjl, List.getElem?_drop] at hj
  simpa using hj
/-- 'copy(x[off:], src)', x an array of one's own. -/
theorem run_copy_pt {dT sT ty e t : TypeId} {g off n c m k : Nat} {A : Option Addr} {L src : List Int} (hu : P.underlying dT = some (.slice e)) (hs : (P.info? e).map (·.size) = some 1) (h : Sat E w (HP.pt g (.cells (b8s L).toArray t) * q))
    (hm : src.length = m) (hmn : m ≤ n) (hfit : off + m ≤ L.length) (hsrc : Cells w A (b8s src)) :
    ∃ w', (Builtin.copy_ #[dT, sT] ty #[.slice (some ⟨g, off, none⟩) n c, .slice A m k]).run P w = .ok (goInt m) w' ∧ Sat E w' (HP.pt g (.cells (splice (b8s L) off (b8s src)).toArray t) * q) := by
  obtain ⟨i, hi⟩ : ∃ i, P.info? e = some i := by
    cases hq : P.info? e with
    | none => simp [hq] at hs
    | some i => exact ⟨i, rfl⟩
  have hi1 : i.size = 1 := by simpa [hi] using hs
  cases A with
  | none =>
    have hs0 : src = [] := by
      cases src with
      | nil => rfl
      | cons x l => obtain ⟨a, ha, _⟩ := hsrc.at_ 0 (by simp [b8s]); cases ha
    subst hs0
    obtain rfl : m = 0 := by simpa using hm.symm
    refine ⟨w, ?_, ?_⟩
    · have hmin : Nat.min 0 n = 0 := Nat.zero_min n
      simp [Builtin.copy_, run_underlying hu, Builtin.lenOf, Builtin.firstCells, sizeOf, typeInfo, hi, hi1, hmin, storeCells, loadCells, loadCellsFrom]
    · have e0 : splice (b8s L) off (b8s []) = b8s L := by simp [splice, b8s]
      rw [e0]; exact h
  | some a =>
    have hr := run_copy_row (P := P) w dT sT ty e g off n c a m k _ t (b8s src) hu hs h.get (by rw [b8s_length, hm]; exact (Nat.min_eq_left hmn).symm) (fun j u hj => hsrc.some_ j u hj) (by rw [b8s_length, hm, List.size_toArray, b8s_length]; exact hfit) (fun v hv => List.all_eq_true.1 (b8s_one src) v hv)
    rw [b8s_length, hm] at hr
    refine ⟨_, hr, ?_⟩
    have h2 := h.splice (splice (b8s L) off (b8s src))
    unfold splice at h2
    rw [b8s_length, hm] at h2
    unfold splice
    rw [b8s_length, hm]
    exact h2
theorem wpList_copy_pt {ops : Array Oper} {rest : List Oper} {o : Oper} {a : Act} {Q : Exit → Act → World → Prop} {x y : Operand} {dT sT e t : TypeId} {g off n c m k : Nat} {A : Option Addr} {L src : List Int} (hu : P.underlying dT = some (.slice e)) (hs : (P.info? e).map (·.size) = some 1)
    (hg : o.guard = none) (ho : o.op = .call { callee := .builtin .copy, args := #[x, y], argTypes := #[dT, sT] }) (hx : a.eval x = .slice (some ⟨g, off, none⟩) n c) (hy : a.eval y = .slice A m k) (h : Sat E w (HP.pt g (.cells (b8s L).toArray t) * q))
    (hm : src.length = m) (hmn : m ≤ n) (hfit : off + m ≤ L.length) (hsrc : Cells w A (b8s src))
    (hk : ∀ w', Sat E w' (HP.pt g (.cells (splice (b8s L) off (b8s src)).toArray t) * q) → wpList P ops Q rest (a.put o.dst (goInt m)) w') : wpList P ops Q (o :: rest) a w := by
  obtain ⟨w', hr, h2⟩ := run_copy_pt (sT := sT) (ty := o.type) (k := k) (c := c) hu hs h hm hmn hfit hsrc
  refine wpList_plain hg fun K hK => ?_
  exact wp_copy_run ho hx hy hr (hK _ _ (hk w' h2))
theorem wp_copy_pt (dn : Option Nat) {o : Oper} {a : Act} {K : Act → World → Prop} {Q : Exit → Act → World → Prop} {x y : Operand} {dT sT e t : TypeId} {g off n c m k : Nat} {A : Option Addr} {L src : List Int} (hd : o.dst = dn) (hu : P.underlying dT = some (.slice e)) (hs : (P.info? e).map (·.size) = some 1)
    (ho : o.op = .call { callee := .builtin .copy, args := #[x, y], argTypes := #[dT, sT] }) (hx : a.eval x = .slice (some ⟨g, off, none⟩) n c) (hy : a.eval y = .slice A m k) (h : Sat E w (HP.pt g (.cells (b8s L).toArray t) * q))
    (hm : src.length = m) (hmn : m ≤ n) (hfit : off + m ≤ L.length) (hsrc : Cells w A (b8s src))
    (hk : ∀ w', Sat E w' (HP.pt g (.cells (splice (b8s L) off (b8s src)).toArray t) * q) → K (a.put dn (goInt m)) w') : o.wp P a w K Q := by
  subst hd
  obtain ⟨w', hr, h2⟩ := run_copy_pt (sT := sT) (ty := o.type) (k := k) (c := c) hu hs h hm hmn hfit hsrc
  exact wp_copy_run ho hx hy hr (hk w' h2)
/-- '[]byte(s)'. -/
theorem run_str_bytes {src dst e : TypeId} (hs : P.underlying src = some .string) (hd : P.underlying dst = some (.slice e)) (he : P.underlying e = some (.int .u8)) (s : ByteArray) (h : Sat E w q) :
    ∃ g cap w', (convert src dst (.string s)).run P w = .ok (.slice (some ⟨g, 0, none⟩) s.size cap) w' ∧ Sat E w' q ∧ Cells w' (some ⟨g, 0, none⟩) (b8s (strB s)) := by
  refine ⟨_, _, _, run_bytes_of_string w src dst e s hs hd he, ?_, ?_⟩
  · exact (h.drew.alloc _).right
  · have h1 := h.drew.alloc (.cells (bytesRow s (grownCap w s.size 0 e)) e ((bytesRow s (grownCap w s.size 0 e)).size, (bytesRow s (grownCap w s.size 0 e)).size + 1))
    have e1 : bytesRow s (grownCap w s.size 0 e) = (b8s (strB s) ++ List.replicate (grownCap w s.size 0 e - s.size) (Value.int .u8 0)).toArray := by
      apply Array.toList_inj.1
      simp [bytesRow, b8s, strB]
    have h2 := h1
    rw [e1] at h2
    have h3 := Sat.ptCells (off := 0) (l := b8s (strB s)) h2 (by simp)
    rw [← e1] at h3
    exact h3
theorem wp_value_run {o : Oper} {a : Act} {w' : World} {K : Act → World → Prop} {Q : Exit → Act → World → Prop} {v : Value} (hr : (execOp a.eval o).run P w = .ok (.value v) w') (hk : K (a.put o.dst v) w') : o.wp P a w K Q := by
  unfold Oper.wp
  rw [hr]
  exact hk
theorem exec_convert {o : Oper} {a : Act} {w' : World} {s d : TypeId} {x : Operand} {v V : Value} (ho : o.op = .convert s d x) (hx : a.eval x = v) (hr : (convert s d v).run P w = .ok V w') : (execOp a.eval o).run P w = .ok (.value V) w' := by
  unfold execOp
  rw [ho]
  simp only [hx, Sem.run_bind, hr, Result.andThen_ok]
  rfl
end
end Go.Proofs.YtanlgadijndmaaaDoor
/- Extents: the bytes; copying into an array of one's own; a string's bytes. -/
namespace Go.Proofs.YtanlgadijndmaaaDoor
open Go.RowKit HP
set_option linter.unusedSimpArgs false
set_option linter.unusedVariables false

/-- An extent's bytes without the sum. -/
def extH (name : ByteArray) (index gen : Nat) (p : List Int) : List Int :=
  [229] ++ putI (crcSum (strB name)) 4 ++ putI index 4 ++ putI gen 8 ++ [(p.length : Int)] ++ p ++ List.replicate (106 - p.length) 0
def extI (name : ByteArray) (index gen : Nat) (p : List Int) : List Int := extH name index gen p ++ putI (crcSum (extH name index gen p)) 4
theorem extH_length {name : ByteArray} {index gen : Nat} {p : List Int} (h : p.length ≤ 106) : (extH name index gen p).length = 124 := by
  simp only [extH, List.length_append, List.length_cons, List.length_nil, putI_length, List.length_replicate]
  omega
theorem extI_length {name : ByteArray} {index gen : Nat} {p : List Int} (h : p.length ≤ 106) : (extI name index gen p).length = 128 := by
  rw [extI, List.length_append, extH_length h, putI_length]
theorem extH_bytes {name : ByteArray} {index gen : Nat} {p : List Int} (h : p.length ≤ 106) (hp : Bytes p) : Bytes (extH name index gen p) := by
  unfold extH
  refine ((((((Bytes.append ?_ (putI_bytes _ _)).append (putI_bytes _ _)).append (putI_bytes _ _)).append ?_).append hp).append (z_bytes _))
  · intro x hx; simp at hx; omega
  · intro x hx; simp at hx; omega
theorem extI_bytes {name : ByteArray} {index gen : Nat} {p : List Int} (h : p.length ≤ 106) (hp : Bytes p) : Bytes (extI name index gen p) := (extH_bytes h hp).append (putI_bytes _ _)

theorem crc_sum_n (A : Option Addr) (l : List Int) (n c : Nat) (w : World) (hln : l.length = n) (hq : Quarter w) (hl : n ≤ maxLen) (hb : Bytes l) (hc : Cells w A (b8s l)) :
    Calls Tryd.prog 147 #[.slice A n c] w fun e w' => e = .returned (.int .u32 (crcSum l)) ∧ w' = w := by
  subst hln
  exact crc_sum A l c w hq hl hb hc
end Go.Proofs.YtanlgadijndmaaaDoor
/- anchor: whether an anchor may be. -/
namespace Go.Proofs.YtanlgadijndmaaaDoor
open Go.RowKit HP
set_option linter.unusedSimpArgs false
set_option linter.unusedVariables false

def i8s (l : List Int) : List Value := l.map (Value.int .i64)
def nOk (lo n : Int) : Bool := decide (lo ≤ n) && decide (n ≤ 4611686018427387904)
def btw (lo : Int) (l : List Int) : Bool := l.all (nOk lo)
set_option maxHeartbeats 1000000 in
set_option maxRecDepth 100000 in
theorem btw_in (lo x : Int) (b : Nat) (w : World) (hb : w.cell? ⟨b, 0, none⟩ = some (.int .i64 lo)) :
    Calls Tryd.prog 119 #[.int .i64 x, .pointer (some ⟨b, 0, none⟩)] w fun e w' => e = .returned (.bool (!nOk lo x)) ∧ w' = w := by
  by_cases h1 : x < lo
  · have hr : nOk lo x = false := by unfold nOk; rw [decide_eq_false (by omega)]; rfl
    have HR := Aside.mk hr
    clear hr
    go_enter Tryd.func119, Tryd.ntmps119
    go_wp2
    go_ret
    rw [HR.out]
    exact ⟨rfl, rfl⟩
  · have hr : nOk lo x = decide (x ≤ 4611686018427387904) := by unfold nOk; rw [decide_eq_true (by omega)]; rfl
    by_cases h2 : 4611686018427387904 < x
    · have HR : Aside (nOk lo x = false) := ⟨by rw [hr, decide_eq_false (by omega)]⟩
      clear hr
      go_enter Tryd.func119, Tryd.ntmps119
      go_wp2
      go_ret
      rw [HR.out]
      exact ⟨rfl, rfl⟩
    · have HR : Aside (nOk lo x = true) := ⟨by rw [hr, decide_eq_true (by omega)]⟩
      clear hr
      go_enter Tryd.func119, Tryd.ntmps119
      go_wp2
      go_ret
      rw [HR.out]
      exact ⟨rfl, rfl⟩
theorem btw_take {lo : Int} {l : List Int} {k : Nat} {x : Int} (hx : l[k]? = some x) : btw lo (l.take (k + 1)) = (btw lo (l.take k) && nOk lo x) := by
  unfold btw
  rw [List.take_add_one, hx, List.all_append]
  simp
theorem btw_bad {lo : Int} {l : List Int} {k : Nat} {x : Int} (hx : l[k]? = some x) (h : nOk lo x = false) : btw lo l = false := by
  unfold btw
  rw [Bool.eq_false_iff]
  intro hn
  rw [List.all_eq_true] at hn
  have := hn x (List.mem_of_getElem? hx)
  rw [h] at this
  cases this
set_option maxHeartbeats 1000000 in
set_option maxRecDepth 100000 in
theorem index_fn (lo : Int) (g : Nat) (l : List Int) (n c b : Nat) (w : World) (hln : l.length = n) (hm : n ≤ 4611686018427387904) (hb : w.cell? ⟨b, 0, none⟩ = some (.int .i64 lo)) (hc : Cells w (some ⟨g, 0, none⟩) (i8s l)) :
    Calls Tryd.prog 149 #[.slice (some ⟨g, 0, none⟩) n c, .func (.func 119) #[] #[.pointer (some ⟨b, 0, none⟩)]] w fun e w' => (∃ i : Int, e = .returned (.int .i64 i) ∧ (if 0 ≤ i then btw lo l = false else btw lo l = true)) ∧ w' = w := by
  have HL := Aside.mk (And.intro hln hc)
  have Hb := Aside.mk hb
  clear hln hc hb
  go_enter Tryd.func149, Tryd.ntmps149
  go_wp2
  go_loopw [8] (fun v8 wr => ∃ k : Nat, k ≤ n ∧ v8 = .int .i64 k ∧ Aside (btw lo (l.take k) = true) ∧ wr = w) (fun i _ => n - (intOf i).toNat)
  case atStart => exact ⟨0, by omega, rfl, ⟨rfl⟩, rfl⟩
  case round =>
    obtain ⟨k, hk, rfl, HB, hwr⟩ := hrel
    subst wr
    by_cases hlt : k < n
    · have hlt2 : (k : Int) < n := by omega
      have hkl : k < l.length := by rw [HL.out.1]; exact hlt
      obtain ⟨x, hx⟩ : ∃ x, l[k]? = some x := ⟨_, List.getElem?_eq_getElem hkl⟩
      have gx : w.cell? ⟨g, k, none⟩ = some (.int .i64 x) := by
        have := HL.out.2.some_ k (.int .i64 x) (by unfold i8s; rw [List.getElem?_map, hx]; rfl)
        rw [addr_add, Nat.zero_add] at this
        exact this
      have HX := Aside.mk hx
      clear hx hkl
      cases hq : nOk lo x with
      | false =>
        have HQ : Aside (btw lo l = false) := ⟨btw_bad HX.out hq⟩
        go_wp2_with fail
        refine (btw_in lo x b _ Hb.out).mono ?_
        rintro e w1 ⟨rfl, hw1⟩
        subst w1
        rw [hq]
        go_wp2
        go_ret
        exact ⟨⟨_, rfl, by rw [if_pos (by omega)]; exact HQ.out⟩, rfl⟩
      | true =>
        have HQ : Aside (btw lo (l.take (k + 1)) = true) := ⟨by rw [btw_take HX.out, HB.out, hq]; rfl⟩
        go_wp2_with fail
        refine (btw_in lo x b _ Hb.out).mono ?_
        rintro e w1 ⟨rfl, hw1⟩
        subst w1
        rw [hq]
        go_wp2
        go_roundw
        case rel => exact ⟨k + 1, by omega, by push_cast; rfl, HQ, by first | rfl | trivial⟩
        case measure => simp [intOf]; omega
    · obtain rfl : k = n := by omega
      have HQ : Aside (btw lo l = true) := ⟨by have := HB.out; rwa [List.take_of_length_le (by rw [HL.out.1]; exact Nat.le_refl _)] at this⟩
      go_wp2
      go_ret
      exact ⟨⟨_, rfl, by rw [if_neg (by omega)]; exact HQ.out⟩, rfl⟩
set_option maxHeartbeats 1000000 in
set_option maxRecDepth 100000 in
theorem contains_fn (lo : Int) (g : Nat) (l : List Int) (n c b : Nat) (w : World) (hln : l.length = n) (hm : n ≤ 4611686018427387904) (hb : w.cell? ⟨b, 0, none⟩ = some (.int .i64 lo)) (hc : Cells w (some ⟨g, 0, none⟩) (i8s l)) :
    Calls Tryd.prog 118 #[.slice (some ⟨g, 0, none⟩) n c, .func (.func 119) #[] #[.pointer (some ⟨b, 0, none⟩)]] w fun e w' => e = .returned (.bool (!btw lo l)) ∧ w' = w := by
  have HI := Aside.mk (index_fn lo g l n c b w hln hm hb hc)
  clear hln hc hb
  go_enter Tryd.func118, Tryd.ntmps118
  go_wp2_with fail
  refine HI.out.mono ?_
  rintro e w1 ⟨⟨i, rfl, hi⟩, hw1⟩
  subst w1
  by_cases h0 : 0 ≤ i
  · rw [if_pos h0] at hi
    have HV := Aside.mk hi
    clear hi
    go_wp2
    go_ret
    rw [HV.out]
    exact ⟨rfl, rfl⟩
  · rw [if_neg h0] at hi
    have HV := Aside.mk hi
    clear hi
    go_wp2
    go_ret
    rw [HV.out]
    exact ⟨by show Ending.returned (Value.bool (decide (0 ≤ i))) = _; rw [decide_eq_false (by omega)]; rfl, rfl⟩
set_option maxHeartbeats 1000000 in
set_option maxRecDepth 100000 in
theorem between_ok (E : Env) (q : HP) (lo : Int) (g : Nat) (l : List Int) (n c : Nat) (w : World) (hln : l.length = n) (hm : n ≤ 4611686018427387904) (hq : ∀ w, Sat E w q → Cells w (some ⟨g, 0, none⟩) (i8s l)) (hw : Sat E w q) :
    Calls Tryd.prog 70 #[.int .i64 lo, .slice (some ⟨g, 0, none⟩) n c] w fun e w' => e = .returned (.bool (btw lo l)) ∧ Sat E w' q := by
  have h1 := hw.alloc (.cells #[.int .i64 lo] 3)
  have HI := Aside.mk (And.intro (contains_fn lo g l n c w.heap.size _ hln hm h1.cell1 (hq _ h1.right)) h1.right)
  clear hln hq hw h1
  go_enter Tryd.func70, Tryd.ntmps70
  go_wp2_with fail
  refine HI.out.1.mono ?_
  rintro e w1 ⟨rfl, hw1⟩
  subst w1
  go_wp2
  go_ret
  simp only [Bool.not_not]
  exact ⟨rfl, HI.out.2⟩
structure Anch where
  seq : Int
  gen : Int
  lsn : Int
  seg : Int
  ext : Int
  flo : Int
  new : Int
  keep : Int
  next : Int
  cur : Int
def Anch.l (a : Anch) : List Int := [a.seq, a.gen, a.lsn, a.seg, a.ext, a.flo, a.new, a.keep, a.next, a.cur]
def canA (a : Anch) : Bool := btw 1 [a.seq, a.gen, a.seg, a.next] && btw 0 [a.lsn, a.ext, a.keep, a.cur]
set_option maxHeartbeats 1000000 in
set_option maxRecDepth 100000 in
theorem can_ok (E : Env) (q : HP) (a : Anch) (w : World) (hw : Sat E w q) :
    Calls Tryd.prog 63 #[.agg #[.int .i64 a.seq, .int .i64 a.gen, .int .i64 a.lsn, .int .i64 a.seg, .int .i64 a.ext, .int .i64 a.flo, .int .i64 a.new, .int .i64 a.keep, .int .i64 a.next, .int .i64 a.cur]] w fun e w' => e = .returned (.bool (canA a)) ∧ Sat E w' q := by
  have h1 := (hw.alloc (.cells #[.int .i64 a.seq, .int .i64 a.gen, .int .i64 a.lsn, .int .i64 a.seg, .int .i64 a.ext, .int .i64 a.flo, .int .i64 a.new, .int .i64 a.keep, .int .i64 a.next, .int .i64 a.cur] 34))
  have h2 := h1.alloc (.cells #[.int .i64 a.seq, .int .i64 a.gen, .int .i64 a.seg, .int .i64 a.next] 3)
  have hz : (w.alloc (.cells #[.int .i64 a.seq, .int .i64 a.gen, .int .i64 a.lsn, .int .i64 a.seg, .int .i64 a.ext, .int .i64 a.flo, .int .i64 a.new, .int .i64 a.keep, .int .i64 a.next, .int .i64 a.cur] 34)).heap.size = w.heap.size + 1 := by simp
  rw [hz] at h2
  have H2 := Aside.mk h2
  have HC : Aside (canA a = (btw 1 [a.seq, a.gen, a.seg, a.next] && btw 0 [a.lsn, a.ext, a.keep, a.cur])) := ⟨rfl⟩
  clear hw h1 h2 hz
  go_enter Tryd.func63, Tryd.ntmps63
  go_wp2_with fail
  refine (between_ok E _ 1 (w.heap.size + 1) [a.seq, a.gen, a.seg, a.next] 4 4 _ rfl (by omega) (fun w h => Sat.ptCells (off := 0) (l := i8s [a.seq, a.gen, a.seg, a.next]) h rfl) H2.out).mono ?_
  rintro e w1 ⟨rfl, h3⟩
  cases hb : btw 1 [a.seq, a.gen, a.seg, a.next] with
  | false =>
    have H3 := Aside.mk h3.right.right
    rw [hb] at HC
    clear h3 hb H2
    go_wp2
    go_ret
    rw [HC.out]
    exact ⟨rfl, H3.out⟩
  | true =>
    have H3 := Aside.mk h3.right
    rw [hb] at HC
    have k0 := H3.out.cell 2
    have k1 := H3.out.cell 4
    have k2 := H3.out.cell 7
    have k3 := H3.out.cell 9
    simp only [List.getElem?_toArray, List.getElem?_cons_zero, List.getElem?_cons_succ] at k0 k1 k2 k3
    have H4 := Aside.mk (H3.out.alloc (.cells #[.int .i64 a.lsn, .int .i64 a.ext, .int .i64 a.keep, .int .i64 a.cur] 3))
    clear h3 hb H2
    go_wp2_with fail
    refine (between_ok E _ 0 w1.heap.size [a.lsn, a.ext, a.keep, a.cur] 4 4 _ rfl (by omega) (fun w h => Sat.ptCells (off := 0) (l := i8s [a.lsn, a.ext, a.keep, a.cur]) h rfl) H4.out).mono ?_
    rintro e w2 ⟨rfl, h5⟩
    have H5 := Aside.mk h5.right.right
    clear h5
    go_wp2
    go_ret
    rw [HC.out]
    exact ⟨rfl, H5.out⟩
end Go.Proofs.YtanlgadijndmaaaDoor
/- anchor.Encode. -/
namespace Go.Proofs.YtanlgadijndmaaaDoor
open Go.RowKit HP
set_option linter.unusedSimpArgs false
set_option linter.unusedVariables false

def n64 (n : Int) : Nat := (n % 18446744073709551616).toNat
def encI (l : List Int) : List Int := l.flatMap fun n => putI (n64 n) 8
def encEnd (E : Env) (q : HP) (a : Anch) (e : Ending) (w' : World) : Prop :=
  if canA a = true then ∃ v, e = .returned (.tuple #[v, .int .i64 0]) ∧ Sat E w' (HP.row 5 1 v 80 (b8s (encI a.l)) * q) else e = .returned (.tuple #[.slice none 0 0, .int .i64 1]) ∧ Sat E w' q
theorem encEnd_no {E : Env} {q : HP} {a : Anch} {e : Ending} {w' : World} (h : canA a = false) (he : e = .returned (.tuple #[.slice none 0 0, .int .i64 1])) (hw : Sat E w' q) : encEnd E q a e w' := by
  unfold encEnd
  rw [if_neg (by rw [h]; decide)]
  exact ⟨he, hw⟩
theorem encEnd_yes {E : Env} {q : HP} {a : Anch} {e : Ending} {w' : World} {v : Value} (h : canA a = true) (he : e = .returned (.tuple #[v, .int .i64 0])) (hw : Sat E w' (HP.row 5 1 v 80 (b8s (encI a.l)) * q)) : encEnd E q a e w' := by
  unfold encEnd
  rw [if_pos h]
  exact ⟨v, he, hw⟩
theorem Anch.l_length (a : Anch) : a.l.length = 10 := rfl
theorem encI_length (l : List Int) : (encI l).length = 8 * l.length := by
  unfold encI
  rw [List.length_flatMap]
  induction l with
  | nil => rfl
  | cons x l ih => rw [List.map_cons, List.sum_cons, ih, putI_length, List.length_cons]; omega
theorem encI_bytes (l : List Int) : Bytes (encI l) := fun x hx => by
  obtain ⟨n, -, h⟩ := List.mem_flatMap.1 hx
  exact putI_bytes _ _ x h
theorem encI_take {l : List Int} {k : Nat} {x : Int} (hx : l[k]? = some x) : encI (l.take (k + 1)) = encI (l.take k) ++ putI (n64 x) 8 := by
  unfold encI
  rw [List.take_add_one, hx, List.flatMap_append]
  simp
theorem n64_wrap (n : Int) : IntKind.u64.wrap n = (n64 n : Int) := by
  rw [IntKind.wrap_u64]
  unfold n64
  rw [Int.toNat_of_nonneg (by omega)]
theorem n64_lt (n : Int) : n64 n < 18446744073709551616 := by unfold n64; omega
set_option maxRecDepth 100000 in
theorem index_anch (a : Anch) : ∀ k : Nat, k < 10 → ∃ x, a.l[k]? = some x ∧ ∀ w, (Instr.index 187 (.agg #[.int .i64 a.seq, .int .i64 a.gen, .int .i64 a.lsn, .int .i64 a.seg, .int .i64 a.ext, .int .i64 a.flo, .int .i64 a.new, .int .i64 a.keep, .int .i64 a.next, .int .i64 a.cur]) (.int .i64 (k : Int))).run Tryd.prog w = .ok (.int .i64 x) w
  | 0, _ => ⟨_, rfl, fun w => by kernel_rfl⟩
  | 1, _ => ⟨_, rfl, fun w => by kernel_rfl⟩
  | 2, _ => ⟨_, rfl, fun w => by kernel_rfl⟩
  | 3, _ => ⟨_, rfl, fun w => by kernel_rfl⟩
  | 4, _ => ⟨_, rfl, fun w => by kernel_rfl⟩
  | 5, _ => ⟨_, rfl, fun w => by kernel_rfl⟩
  | 6, _ => ⟨_, rfl, fun w => by kernel_rfl⟩
  | 7, _ => ⟨_, rfl, fun w => by kernel_rfl⟩
  | 8, _ => ⟨_, rfl, fun w => by kernel_rfl⟩
  | 9, _ => ⟨_, rfl, fun w => by kernel_rfl⟩
  | k + 10, h => by omega
set_option maxHeartbeats 2000000 in
set_option maxRecDepth 100000 in
theorem encode_ok (E : Env) (q : HP) (a : Anch) (w : World) (hw : Sat E w q) :
    Calls Tryd.prog 71 #[.agg #[.int .i64 a.seq, .int .i64 a.gen, .int .i64 a.lsn, .int .i64 a.seg, .int .i64 a.ext, .int .i64 a.flo, .int .i64 a.new, .int .i64 a.keep, .int .i64 a.next, .int .i64 a.cur]] w (encEnd E q a) := by
  have H1 := Aside.mk (hw.alloc (.cells #[.int .i64 a.seq, .int .i64 a.gen, .int .i64 a.lsn, .int .i64 a.seg, .int .i64 a.ext, .int .i64 a.flo, .int .i64 a.new, .int .i64 a.keep, .int .i64 a.next, .int .i64 a.cur] 34))
  clear hw
  go_enter Tryd.func71, Tryd.ntmps71
  go_wp2_with fail
  refine (can_ok E _ a _ H1.out).mono ?_
  rintro e w1 ⟨rfl, h2⟩
  have H2 := Aside.mk h2
  clear h2 H1
  obtain ⟨cb, hcb⟩ : ∃ cb, cb = canA a := ⟨_, rfl⟩
  rw [← hcb]
  have HC := Aside.mk hcb
  clear hcb
  cases cb with
  | false =>
    go_wp2
    go_ret2
    exact encEnd_no HC.out.symm rfl H2.out.right
  | true =>
    have k0 := H2.out.cell 0
    have k1 := H2.out.cell 1
    have k2 := H2.out.cell 2
    have k3 := H2.out.cell 3
    have k4 := H2.out.cell 4
    have k5 := H2.out.cell 5
    have k6 := H2.out.cell 6
    have k7 := H2.out.cell 7
    have k8 := H2.out.cell 8
    have k9 := H2.out.cell 9
    simp only [List.getElem?_toArray, List.getElem?_cons_zero, List.getElem?_cons_succ] at k0 k1 k2 k3 k4 k5 k6 k7 k8 k9
    have H3 := Aside.mk ((H2.out.right.alloc (.cells #[.int .i64 a.seq, .int .i64 a.gen, .int .i64 a.lsn, .int .i64 a.seg, .int .i64 a.ext, .int .i64 a.flo, .int .i64 a.new, .int .i64 a.keep, .int .i64 a.next, .int .i64 a.cur] 187)).right.row_nil 5 1 none)
    have HIX := Aside.mk (index_anch a)
    go_wp2
    go_loopw [5, 33] (fun v5 v33 wr => ∃ k : Nat, k ≤ 10 ∧ v33 = .int .i64 k ∧ Aside (Sat E wr (HP.row 5 1 v5 (8 * k) (b8s (encI (a.l.take k))) * q))) (fun _ i _ => 10 - (intOf i).toNat)
    case atStart => exact ⟨0, by omega, rfl, H3⟩
    case round =>
      obtain ⟨k, hk, rfl, HS⟩ := hrel
      clear k0 k1 k2 k3 k4 k5 k6 k7 k8 k9 H3 H2
      by_cases hlt : k < 10
      · obtain ⟨x, hx, ix⟩ := HIX.out k hlt
        have HX := Aside.mk (encI_take hx)
        have hlt2 : (k : Int) < 10 := by omega
        have hwr := n64_wrap x
        have HN := Aside.mk (n64_lt x)
        obtain ⟨m, hm⟩ : ∃ m, m = n64 x := ⟨_, rfl⟩
        rw [← hm] at hwr HX HN
        clear hm hx
        go_wp2_with fail
        refine (crc_put E _ m 8 _ (by omega) HN.out HS.out).mono ?_
        rintro e w4 ⟨g, rfl, h4⟩
        have h5 := h4.s2
        obtain ⟨ol, hol⟩ : ∃ ol, ol = 8 * k := ⟨_, rfl⟩
        rw [← hol] at h5
        have ho : ol ≤ 80 := by omega
        have H5 := Aside.mk (And.intro h5 (And.intro h4.row_cells (show (b8s (putI m 8)).length = 8 * 1 by rw [b8s_length, putI_length])))
        have HO := Aside.mk hol
        clear h4 h5 hol
        go_wp2_with (at_builtin; refine wpList_append_row slB8 rfl rfl (by rfl) (by rfl) H5.out.1 H5.out.2.1 H5.out.2.2 (b8s_one _) (by unfold maxLen; omega) (by omega) (fun v5 w5 hw5 => ?_); obtain ⟨A5, c5, rfl, -, -⟩ := hw5.row_slice; have HW5 := Aside.mk hw5; clear hw5)
        have H6 : Aside (Sat E w5 (HP.row 5 1 (.slice A5 (ol + 8) c5) (8 * (k + 1)) (b8s (encI (a.l.take (k + 1)))) * q)) := ⟨by
          rw [HX.out, b8s_append, show 8 * (k + 1) = ol + 8 by have := HO.out; omega]
          exact HW5.out.drop2⟩
        clear HW5 H5
        go_wp2
        go_roundw
        case rel => exact ⟨k + 1, by omega, by push_cast; rfl, H6⟩
        case measure => simp [intOf]; omega
      · obtain rfl : k = 10 := by omega
        have H7 : Aside (Sat E wr (HP.row 5 1 u5 80 (b8s (encI a.l)) * q)) := ⟨HS.out⟩
        clear HS
        go_wp2
        go_ret2
        exact encEnd_yes HC.out.symm rfl H7.out
end Go.Proofs.YtanlgadijndmaaaDoor
/- extent.build. -/
namespace Go.Proofs.YtanlgadijndmaaaDoor
open Go.RowKit HP
set_option linter.unusedSimpArgs false
set_option linter.unusedVariables false

theorem results_cell {P : Program} {fn : Func} {t : Tmp} {ty : TypeId} (h : fn.results = #[.cell t ty]) {tmps : Array Value} {w : World} {a : Addr} {V : Value} (ha : tmps.getD t undef = .pointer (some a)) (hr : (loadVar ty a).run P w = .ok V w) : (results fn tmps).run P w = .ok V w := by
  have ha' : tmps[t]?.getD undef = .pointer (some a) := by simpa using ha
  unfold results
  rw [h]
  simp [ha', asAddr, hr]
theorem agExt : AgTy Tryd.prog 183 128 := ⟨⟨_, Tryd.underlying183, rfl⟩, by kernel_rfl⟩
theorem zero_ext : (b8s (List.replicate 128 0)).toArray = Tryd.zeroCells183 := by kernel_rfl
theorem zero_ext1 : Tryd.zeroCells183.setIfInBounds 0 (.int .u8 229) = (b8s ([229] ++ List.replicate 127 0)).toArray := by kernel_rfl
set_option maxHeartbeats 2000000 in
set_option maxRecDepth 100000 in
theorem ext_build (E : Env) (q : HP) (name : ByteArray) (index gen : Nat) (A : Option Addr) (p : List Int) (n c : Nat) (w : World) (hname : name.size ≤ maxLen) (hi : index < 4294967296) (hg : gen < 18446744073709551616) (hpn : p.length = n) (hn : n ≤ 106) (hp : Bytes p)
    (hq : ∀ w, Sat E w q → Quarter w ∧ Cells w A (b8s p)) (hw : Sat E w q) :
    Calls Tryd.prog 115 #[.string name, .int .i64 index, .int .i64 gen, .slice A n c] w fun e w' => e = .returned (.agg (b8s (extI name index gen p)).toArray) ∧ Sat E w' q := by
  have h0 := (hw.alloc (.cells Tryd.zeroCells183 183)).alloc (.cells (Tryd.zeroCells183.setIfInBounds 0 (.int .u8 229)) 183)
  rw [show (w.alloc (.cells Tryd.zeroCells183 183)).heap.size = w.heap.size + 1 by simp, zero_ext1] at h0
  have HQ := Aside.mk (And.intro hq (And.intro hp hpn))
  clear hq hw hp hpn
  go_enter Tryd.func115, Tryd.ntmps115
  go_wp2
  rw [zero_ext1]
  generalize World.alloc (World.alloc w _) _ = w1 at *
  generalize w.heap.size + 1 = g at *
  generalize w.heap.size = g0 at *
  refine region_R [2, 3, 5, 6] [] (fun _ => True) #[false, false, false, false, false, false, false] (by kernel_rfl) rfl rfl ?_
  refine wpR_pu 0 #[true, false, false, false, false, false, false] rfl onlyN_noPanic (by kernel_rfl) (fun K hK => ?_); (go_simp; try go_bits); refine hK _ ?_; clear hK K
  refine wpR_rd 1 #[true, true, false, false, false, false, false] rfl onlyN_noPanic (by kernel_rfl) (fun K hK => ?_); (go_simp; try go_bits); refine hK _ ?_; clear hK K
  refine wpR_eff #[true, true, true, false, false, false, false] (i := 2) rfl (by kernel_rfl) (fun K hK => ?_)
  obtain ⟨gs, cs, w2, hr2, h2, c2⟩ := run_str_bytes (dst := 52) Tryd.underlying9 Tryd.underlying52 Tryd.underlying5 name h0.drew
  refine Eq.mpr (if_pos (by rfl)) ?_
  refine wp_value_run (exec_convert rfl rfl hr2) ?_
  simp only [Act.put, List.setIfInBounds_toArray, List.set_cons_zero, List.set_cons_succ]
  refine hK _ _ ?_; clear hK K hr2
  refine wpR_eff #[true, true, true, true, false, false, false] (i := 3) rfl (by kernel_rfl) (fun K hK => ?_)
  go_simp
  refine (crc_sum_n _ (strB name) name.size cs w2 (strB_length _) (HQ.out.1 _ h2.right.right).1 hname (strB_bytes _) c2).mono ?_
  rintro e w3 ⟨rfl, rfl⟩
  obtain ⟨S, hS⟩ : ∃ S, S = crcSum (strB name) := ⟨_, rfl⟩
  have hS4 : S < 4294967296 := by rw [hS]; exact crcSum_lt (strB_bytes _)
  rw [← hS]
  have HS := Aside.mk hS
  clear hS
  refine hK _ _ ?_; clear hK K c2
  refine wpR_rd 4 #[true, true, true, true, true, false, false] rfl onlyN_noPanic (by kernel_rfl) (fun K hK => ?_); (go_simp; try go_bits); refine hK _ ?_; clear hK K
  refine wpR_eff #[true, true, true, true, true, true, false] (i := 5) rfl (by kernel_rfl) (fun K hK => ?_)
  go_simp
  refine (crc_put E _ S 4 w3 (by omega) (by omega) h2).mono ?_
  rintro e w4 ⟨gp, rfl, h4⟩
  refine hK _ _ ?_; clear hK K h2
  refine wpR_eff #[true, true, true, true, true, true, true] (i := 6) rfl (by kernel_rfl) (fun K hK => ?_)
  refine Eq.mpr (if_pos (by rfl)) ?_
  refine wp_copy_pt (some 17) (L := [229] ++ List.replicate 127 0) (src := putI S 4) rfl slB8.under (by kernel_rfl) rfl rfl rfl h4.s2 (putI_length _ _) (by omega) (by decide) h4.row_cells (fun w5 h5 => ?_)
  rw [splice_zero (a := [229]) (off := 1) (c := putI S 4) (n := 127) rfl (by rw [putI_length]; omega), putI_length] at h5
  have h5 := h5.drop2
  simp only [Act.put, List.setIfInBounds_toArray, List.set_cons_zero, List.set_cons_succ]
  refine hK _ _ ?_; clear hK K h4
  refine wpR_done (by kernel_rfl) ?_ _
  simp only [OnlyN]
  go_wp2
  refine region_R [3, 4] [] (fun _ => True) #[false, false, false, false, false] (by kernel_rfl) rfl rfl ?_
  refine wpR_pu 0 #[true, false, false, false, false] rfl onlyN_noPanic (by kernel_rfl) (fun K hK => ?_); (go_simp; try go_bits); refine hK _ ?_; clear hK K
  refine wpR_rd 1 #[true, true, false, false, false] rfl onlyN_noPanic (by kernel_rfl) (fun K hK => ?_); (go_simp; try go_bits); refine hK _ ?_; clear hK K
  refine wpR_rd 2 #[true, true, true, false, false] rfl onlyN_noPanic (by kernel_rfl) (fun K hK => ?_); (go_simp; try go_bits); refine hK _ ?_; clear hK K
  refine wpR_eff #[true, true, true, true, false] (i := 3) rfl (by kernel_rfl) (fun K hK => ?_)
  go_simp
  refine (crc_put E _ index 4 _ (by omega) (by omega) (h5.drew)).mono ?_
  rintro e w6 ⟨gp5, rfl, h6⟩
  refine hK _ _ ?_; clear hK K h5
  refine wpR_eff #[true, true, true, true, true] (i := 4) rfl (by kernel_rfl) (fun K hK => ?_)
  refine Eq.mpr (if_pos (by rfl)) ?_
  refine wp_copy_pt (some 22) (L := [229] ++ putI S 4 ++ List.replicate 123 0) (src := putI index 4) rfl slB8.under (by kernel_rfl) rfl rfl rfl h6.s2 (putI_length _ _) (by omega) (by simp [putI_length]) h6.row_cells (fun w7 h7 => ?_)
  rw [splice_zero (a := [229] ++ putI S 4) (off := 5) (c := putI index 4) (n := 123) (by simp [putI_length]) (by rw [putI_length]; omega), putI_length] at h7
  have h7 := h7.drop2
  simp only [Act.put, List.setIfInBounds_toArray, List.set_cons_zero, List.set_cons_succ]
  refine hK _ _ ?_; clear hK K h6
  refine wpR_done (by kernel_rfl) ?_ _
  simp only [OnlyN]
  go_wp2
  refine region_R [3, 4] [] (fun _ => True) #[false, false, false, false, false] (by kernel_rfl) rfl rfl ?_
  refine wpR_pu 0 #[true, false, false, false, false] rfl onlyN_noPanic (by kernel_rfl) (fun K hK => ?_); (go_simp; try go_bits); refine hK _ ?_; clear hK K
  refine wpR_rd 1 #[true, true, false, false, false] rfl onlyN_noPanic (by kernel_rfl) (fun K hK => ?_); (go_simp; try go_bits); refine hK _ ?_; clear hK K
  refine wpR_rd 2 #[true, true, true, false, false] rfl onlyN_noPanic (by kernel_rfl) (fun K hK => ?_); (go_simp; try go_bits); refine hK _ ?_; clear hK K
  refine wpR_eff #[true, true, true, true, false] (i := 3) rfl (by kernel_rfl) (fun K hK => ?_)
  go_simp
  refine (crc_put E _ gen 8 _ (by omega) (by omega) (h7.drew)).mono ?_
  rintro e w8 ⟨gp7, rfl, h8⟩
  refine hK _ _ ?_; clear hK K h7
  refine wpR_eff #[true, true, true, true, true] (i := 4) rfl (by kernel_rfl) (fun K hK => ?_)
  refine Eq.mpr (if_pos (by rfl)) ?_
  refine wp_copy_pt (some 27) (L := [229] ++ putI S 4 ++ putI index 4 ++ List.replicate 119 0) (src := putI gen 8) rfl slB8.under (by kernel_rfl) rfl rfl rfl h8.s2 (putI_length _ _) (by omega) (by simp [putI_length]) h8.row_cells (fun w9 h9 => ?_)
  rw [splice_zero (a := [229] ++ putI S 4 ++ putI index 4) (off := 9) (c := putI gen 8) (n := 119) (by simp [putI_length]) (by rw [putI_length]; omega), putI_length] at h9
  have h9 := h9.drop2
  simp only [Act.put, List.setIfInBounds_toArray, List.set_cons_zero, List.set_cons_succ]
  refine hK _ _ ?_; clear hK K h8
  refine wpR_done (by kernel_rfl) ?_ _
  simp only [OnlyN]
  have hP3 : 17 = ([229] ++ putI S 4 ++ putI index 4 ++ putI gen 8).length := by simp [putI_length]
  have c17 := h9.cell 17
  rw [show 119 - 8 = 110 + 1 from rfl, zero_at hP3] at c17
  have f17 := h9.thaw 17
  have h10 := h9.set (i := 17) (.int .u8 (n : Int))
  rw [show 119 - 8 = 110 + 1 from rfl, set_zero hP3] at h10
  clear h9
  clear h9 hP3 h7 h5 h0
  go_wp2_with (first | (at_builtin; fail) | (refine wpList_copy_pt (L := [229] ++ putI S 4 ++ putI index 4 ++ putI gen 8 ++ [(n : Int)] ++ List.replicate 110 0) (src := p) slB8.under (by kernel_rfl) rfl rfl rfl rfl h10 HQ.out.2.2 (by omega) (by simp [putI_length]; omega) (HQ.out.1 _ h10.right.right).2 (fun w11 h11 => ?_); have H11 := Aside.mk h11; clear h11))
  have h11 := H11.out
  clear H11
  rw [splice_zero (a := [229] ++ putI S 4 ++ putI index 4 ++ putI gen 8 ++ [(n : Int)]) (off := 18) (c := p) (n := 110) (by simp [putI_length]) (by rw [HQ.out.2.2]; omega), HQ.out.2.2] at h11
  clear c17 f17 h10
  have hH : b8s ([229] ++ putI S 4 ++ putI index 4 ++ putI gen 8 ++ [(n : Int)] ++ p ++ List.replicate (110 - n) 0) = b8s (extH name index gen p ++ List.replicate 4 0) := by
    have e : List.replicate (110 - n) (0 : Int) = List.replicate (106 - n) 0 ++ List.replicate 4 0 := by
      rw [List.replicate_append_replicate]
      congr 1
      omega
    rw [e]
    unfold extH
    rw [HS.out, HQ.out.2.2]
    simp only [List.append_assoc]
  rw [hH] at h11
  have hpl : p.length ≤ 106 := by rw [HQ.out.2.2]; exact hn
  have hHl := extH_length (name := name) (index := index) (gen := gen) hpl
  have hHb := extH_bytes (name := name) (index := index) (gen := gen) hpl HQ.out.2.1
  have HI : Aside (extI name index gen p = extH name index gen p ++ putI (crcSum (extH name index gen p)) 4) := ⟨rfl⟩
  obtain ⟨H, hHe⟩ : ∃ H, H = extH name index gen p := ⟨_, rfl⟩
  rw [← hHe] at h11 hHl hHb HI
  clear hH hpl hHe
  have HB := Aside.mk (And.intro hHl hHb)
  clear hHl hHb
  simp only [Act.put, List.setIfInBounds_toArray, List.set_cons_zero, List.set_cons_succ]
  refine region_R [2, 4, 5] [] (fun _ => True) #[false, false, false, false, false, false] (by kernel_rfl) rfl rfl ?_
  refine wpR_pu 0 #[true, false, false, false, false, false] rfl onlyN_noPanic (by kernel_rfl) (fun K hK => ?_); (go_simp; try go_bits); refine hK _ ?_; clear hK K
  refine wpR_rd 1 #[true, true, false, false, false, false] rfl onlyN_noPanic (by kernel_rfl) (fun K hK => ?_); (go_simp; try go_bits); refine hK _ ?_; clear hK K
  refine wpR_eff #[true, true, true, false, false, false] (i := 2) rfl (by kernel_rfl) (fun K hK => ?_)
  go_simp
  have h12 := h11.drew
  have c12 := Sat.ptCells (off := 0) (l := b8s H) h12 (by rw [List.drop_zero, b8s_append, List.take_left])
  refine (crc_sum_n _ H 124 128 _ HB.out.1 (HQ.out.1 _ h12.right.right).1 (by unfold maxLen; omega) HB.out.2 c12).mono ?_
  rintro e w12 ⟨rfl, rfl⟩
  obtain ⟨T, hT⟩ : ∃ T, T = crcSum H := ⟨_, rfl⟩
  have hT4 : T < 4294967296 := by rw [hT]; exact crcSum_lt HB.out.2
  rw [← hT] at HI ⊢
  clear hT c12
  refine hK _ _ ?_; clear hK K
  refine wpR_rd 3 #[true, true, true, true, false, false] rfl onlyN_noPanic (by kernel_rfl) (fun K hK => ?_); (go_simp; try go_bits); refine hK _ ?_; clear hK K
  refine wpR_eff #[true, true, true, true, true, false] (i := 4) rfl (by kernel_rfl) (fun K hK => ?_)
  go_simp
  refine (crc_put E _ T 4 _ (by omega) (by omega) h12).mono ?_
  rintro e w13 ⟨gp12, rfl, h13⟩
  refine hK _ _ ?_; clear hK K h12 h11
  refine wpR_eff #[true, true, true, true, true, true] (i := 5) rfl (by kernel_rfl) (fun K hK => ?_)
  refine Eq.mpr (if_pos (by rfl)) ?_
  refine wp_copy_pt (some 40) (L := H ++ List.replicate 4 0) (src := putI T 4) rfl slB8.under (by kernel_rfl) rfl rfl rfl h13.s2 (putI_length _ _) (by omega) (by rw [List.length_append, HB.out.1]; exact Nat.le_refl _) h13.row_cells (fun w14 h14 => ?_)
  rw [splice_zero (a := H) (off := 124) (c := putI T 4) (n := 4) HB.out.1.symm (by rw [putI_length]; omega), putI_length, Nat.sub_self, List.replicate_zero, List.append_nil, ← HI.out] at h14
  have h15 := h14.drop2
  clear h14
  simp only [Act.put, List.setIfInBounds_toArray, List.set_cons_zero, List.set_cons_succ]
  refine hK _ _ ?_; clear hK K h13
  refine wpR_done (by kernel_rfl) ?_ _
  simp only [OnlyN]
  have hIl : (extI name index gen p).length = 128 := extI_length (by rw [HQ.out.2.2]; exact hn)
  obtain ⟨I, hIe⟩ : ∃ I, I = extI name index gen p := ⟨_, rfl⟩
  rw [← hIe] at hIl h15
  have HI2 := Aside.mk hIl
  have HIe := Aside.mk hIe
  clear hIl HI hIe
  have r1 := run_loadAgg agExt (by rw [b8s_length]; exact HI2.out) (Sat.ptCells (off := 0) (l := b8s I) h15 (by rw [List.drop_zero, List.take_length]))
  have r2 := run_storeAgg agExt (g := g0) (off := 0) (cs := b8s I) h15.s2.get (by rw [b8s_length]; exact HI2.out) (by rw [← zero_ext]; simp [b8s_length]) (b8s_one I)
  have h16 := h15.s2.splice (splice Tryd.zeroCells183.toList 0 (b8s I))
  have e16 : splice Tryd.zeroCells183.toList 0 (b8s I) = b8s I := by
    rw [← zero_ext]
    unfold splice
    rw [List.take_zero, List.nil_append, Nat.zero_add, List.drop_of_length_le (by simp [b8s_length, HI2.out]), List.append_nil]
  rw [e16] at h16 r2
  have r3 := run_loadAgg agExt (by rw [b8s_length]; exact HI2.out) (Sat.ptCells (off := 0) (l := b8s I) h16 (by rw [List.drop_zero, List.take_length]))
  have H16 := Aside.mk h16
  clear h15 h16 e16
  generalize World.setRow w14 g0 (b8s I).toArray = w16 at *
  go_wp2_with (first | (refine wpList_load_run rfl rfl rfl r1 ?_) | (refine wpList_store_run rfl rfl rfl rfl rfl r2 ?_))
  simp only [Act.put, List.setIfInBounds_toArray, List.set_cons_zero, List.set_cons_succ]
  have r4 : (loadVar 183 ⟨g0, 0, none⟩).run Tryd.prog w16 = .ok (.agg (b8s (extI name index gen p)).toArray) w16 := by rw [← HIe.out]; exact r3
  exact ⟨rfl, _, results_cell (t := 8) (by kernel_rfl) rfl r4, rfl, H16.out.right.right⟩
end Go.Proofs.YtanlgadijndmaaaDoor
/- anchor.Decode. -/
namespace Go.Proofs.YtanlgadijndmaaaDoor
open Go.RowKit HP
set_option linter.unusedSimpArgs false
set_option linter.unusedVariables false

theorem results_cellTmp {P : Program} {fn : Func} {t u : Tmp} {ty : TypeId} (h : fn.results = #[.cell t ty, .tmp u]) {tmps : Array Value} {w : World} {a : Addr} {V : Value} (ha : tmps.getD t undef = .pointer (some a)) (hr : (loadVar ty a).run P w = .ok V w) : (results fn tmps).run P w = .ok (.tuple #[V, tmps.getD u undef]) w := by
  have ha' : tmps[t]?.getD undef = .pointer (some a) := by simpa using ha
  unfold results
  rw [h]
  simp [ha', asAddr, hr]
theorem agAnch : AgTy Tryd.prog 34 10 := ⟨⟨_, Tryd.underlying34, rfl⟩, by kernel_rfl⟩
def decN (b : List Int) (k : Nat) : Int := wrap64 (getN ((b.drop (8 * k)).take 8) : Int)
def decA (b : List Int) : Anch := ⟨decN b 0, decN b 1, decN b 2, decN b 3, decN b 4, decN b 5, decN b 6, decN b 7, decN b 8, decN b 9⟩
set_option maxHeartbeats 1000000 in
set_option maxRecDepth 100000 in
theorem of_ok (k : Nat) (hk : k < 10) (bl : Nat) (g o : Nat) (b : List Int) (n c : Nat) (w : World) (hn : n = 80) (hln : b.length = n) (hnc : n ≤ c) (hcm : c ≤ maxLen) (hb : Bytes b) (hs : w.cell? ⟨bl, 0, none⟩ = some (.slice (some ⟨g, o, none⟩) n c)) (hc : Cells w (some ⟨g, o, none⟩) (b8s b)) :
    Calls Tryd.prog 125 #[.int .i64 k, .pointer (some ⟨bl, 0, none⟩)] w fun e w' => e = .returned (.int .i64 (decN b k)) ∧ w' = w := by
  obtain ⟨j, hj⟩ : ∃ j, j = 8 * k := ⟨_, rfl⟩
  have h8 : (8 : Int) * (k : Int) = (j : Int) := by omega
  have hjn : j + 8 ≤ 80 := by omega
  have c2 : Cells w (some ⟨g, o + j, none⟩) (b8s ((b.drop j).take 8)) := by
    have := (hc.drop j).take 8
    rw [addr_add] at this
    unfold b8s at this ⊢
    rw [List.map_take, List.map_drop]
    exact this
  have l2 : ((b.drop j).take 8).length = 8 := by rw [List.length_take, List.length_drop]; omega
  have b2 : Bytes ((b.drop j).take 8) := fun y hy => hb y (List.mem_of_mem_drop (List.mem_of_mem_take hy))
  have HD : Aside (decN b k = wrap64 (getN ((b.drop j).take 8) : Int)) := ⟨by unfold decN; rw [hj]⟩
  have H2 := Aside.mk (And.intro c2 (And.intro l2 b2))
  subst hn
  clear c2 l2 b2 hc hb hln hj
  go_enter Tryd.func125, Tryd.ntmps125
  go_wp2_with fail
  refine (crc_get (some ⟨g, o + j, none⟩) ((b.drop j).take 8) 8 _ w H2.out.2.1 (by omega) (by omega) H2.out.2.2 H2.out.1).mono ?_
  rintro e w1 ⟨rfl, hw1⟩
  subst w1
  go_wp2
  go_ret
  rw [HD.out]
  exact ⟨rfl, rfl⟩
def Anch.val (a : Anch) : Value := .agg (i8s a.l).toArray
def zeroA : Anch := ⟨0, 0, 0, 0, 0, 0, 0, 0, 0, 0⟩
def decP (b : List Int) : Anch × Int := if b.length = 80 ∧ canA (decA b) = true then (decA b, 0) else (zeroA, 5)
theorem decP_long {b : List Int} (h : ¬ b.length = 80) : decP b = (zeroA, 5) := by
  unfold decP
  rw [if_neg (fun h2 => h h2.1)]
set_option maxHeartbeats 2000000 in
set_option maxRecDepth 100000 in
theorem decode_ok (E : Env) (q : HP) (A : Option Addr) (b : List Int) (n c : Nat) (w : World) (hln : b.length = n) (hnc : n ≤ c) (hcm : c ≤ maxLen) (hb : Bytes b) (hq : ∀ w, Sat E w q → Cells w A (b8s b)) (hw : Sat E w q) :
    Calls Tryd.prog 80 #[.slice A n c] w fun e w' => e = .returned (.tuple #[(decP b).1.val, .int .i64 (decP b).2]) ∧ Sat E w' q := by
  have h1 := (hw.alloc (.cells #[.slice A n c] 52)).alloc (.cells #[.int .i64 0, .int .i64 0, .int .i64 0, .int .i64 0, .int .i64 0, .int .i64 0, .int .i64 0, .int .i64 0, .int .i64 0, .int .i64 0] 34)
  have hz : (w.alloc (.cells #[.slice A n c] 52)).heap.size = w.heap.size + 1 := by simp
  rw [hz] at h1
  by_cases h80 : n = 80
  · subst h80
    have HC : Aside (decP b = if canA (decA b) = true then (decA b, 0) else (zeroA, 5)) := ⟨by
      unfold decP
      by_cases hc : canA (decA b) = true
      · rw [if_pos ⟨hln, hc⟩, if_pos hc]
      · rw [if_neg (fun h => hc h.2), if_neg hc]⟩
    have hcw := hq _ h1.right.right
    obtain ⟨a0, rfl, -⟩ := hcw.at_ 0 (by rw [b8s_length, hln]; decide)
    obtain ⟨g, o, rfl⟩ := slice_addr hcw rfl (k := 0) (by rw [b8s_length, hln]; decide)
    have HQ := Aside.mk (And.intro hln (And.intro hb (And.intro h1.right.cell1 hcw)))
    have h2 := h1.alloc (.cells #[.int .i64 (decN b 0), .int .i64 (decN b 1), .int .i64 (decN b 2), .int .i64 (decN b 3), .int .i64 (decN b 4), .int .i64 (decN b 5), .int .i64 (decN b 6), .int .i64 (decN b 7), .int .i64 (decN b 8), .int .i64 (decN b 9)] 34)
    have hz2 : ((w.alloc (.cells #[.slice (some ⟨g, o, none⟩) 80 c] 52)).alloc (.cells #[.int .i64 0, .int .i64 0, .int .i64 0, .int .i64 0, .int .i64 0, .int .i64 0, .int .i64 0, .int .i64 0, .int .i64 0, .int .i64 0] 34)).heap.size = w.heap.size + 1 + 1 := by simp
    rw [hz2] at h2
    have H2 := Aside.mk h2
    clear hw h1 hz hq hb hln hcw h2 hz2
    go_enter Tryd.func80, Tryd.ntmps80
    go_wp2_with fail
    refine (of_ok 0 (by omega) w.heap.size g o b 80 c _ rfl HQ.out.1 hnc hcm HQ.out.2.1 HQ.out.2.2.1 HQ.out.2.2.2).mono ?_
    rintro e w1 ⟨rfl, hw1⟩
    subst w1
    go_wp2_with fail
    refine (of_ok 1 (by omega) w.heap.size g o b 80 c _ rfl HQ.out.1 hnc hcm HQ.out.2.1 HQ.out.2.2.1 HQ.out.2.2.2).mono ?_
    rintro e w1 ⟨rfl, hw1⟩
    subst w1
    go_wp2_with fail
    refine (of_ok 2 (by omega) w.heap.size g o b 80 c _ rfl HQ.out.1 hnc hcm HQ.out.2.1 HQ.out.2.2.1 HQ.out.2.2.2).mono ?_
    rintro e w1 ⟨rfl, hw1⟩
    subst w1
    go_wp2_with fail
    refine (of_ok 3 (by omega) w.heap.size g o b 80 c _ rfl HQ.out.1 hnc hcm HQ.out.2.1 HQ.out.2.2.1 HQ.out.2.2.2).mono ?_
    rintro e w1 ⟨rfl, hw1⟩
    subst w1
    go_wp2_with fail
    refine (of_ok 4 (by omega) w.heap.size g o b 80 c _ rfl HQ.out.1 hnc hcm HQ.out.2.1 HQ.out.2.2.1 HQ.out.2.2.2).mono ?_
    rintro e w1 ⟨rfl, hw1⟩
    subst w1
    go_wp2_with fail
    refine (of_ok 5 (by omega) w.heap.size g o b 80 c _ rfl HQ.out.1 hnc hcm HQ.out.2.1 HQ.out.2.2.1 HQ.out.2.2.2).mono ?_
    rintro e w1 ⟨rfl, hw1⟩
    subst w1
    go_wp2_with fail
    refine (of_ok 6 (by omega) w.heap.size g o b 80 c _ rfl HQ.out.1 hnc hcm HQ.out.2.1 HQ.out.2.2.1 HQ.out.2.2.2).mono ?_
    rintro e w1 ⟨rfl, hw1⟩
    subst w1
    go_wp2_with fail
    refine (of_ok 7 (by omega) w.heap.size g o b 80 c _ rfl HQ.out.1 hnc hcm HQ.out.2.1 HQ.out.2.2.1 HQ.out.2.2.2).mono ?_
    rintro e w1 ⟨rfl, hw1⟩
    subst w1
    go_wp2_with fail
    refine (of_ok 8 (by omega) w.heap.size g o b 80 c _ rfl HQ.out.1 hnc hcm HQ.out.2.1 HQ.out.2.2.1 HQ.out.2.2.2).mono ?_
    rintro e w1 ⟨rfl, hw1⟩
    subst w1
    go_wp2_with fail
    refine (of_ok 9 (by omega) w.heap.size g o b 80 c _ rfl HQ.out.1 hnc hcm HQ.out.2.1 HQ.out.2.2.1 HQ.out.2.2.2).mono ?_
    rintro e w1 ⟨rfl, hw1⟩
    subst w1
    go_wp2_with fail
    refine (can_ok E _ (decA b) _ H2.out).mono ?_
    rintro e w2 ⟨rfl, h3⟩
    have H3 := Aside.mk h3
    clear h3 H2 HQ
    obtain ⟨cb, hcb⟩ : ∃ cb, cb = canA (decA b) := ⟨_, rfl⟩
    rw [← hcb] at HC ⊢
    clear hcb
    cases cb with
    | false =>
      rw [if_neg (by decide)] at HC
      have r2 : (storeVar 34 ⟨w.heap.size + 1, 0, none⟩ (.agg (i8s zeroA.l).toArray)).run Tryd.prog w2 = .ok () (w2.setRow (w.heap.size + 1) (i8s zeroA.l).toArray) := run_storeAgg agAnch (g := w.heap.size + 1) (off := 0) (cs := i8s zeroA.l) H3.out.s2.get rfl (by decide) rfl
      have h4 := H3.out.s2.splice (i8s zeroA.l)
      have H4 := Aside.mk h4
      clear h4
      generalize World.setRow w2 _ _ = w4 at *
      go_wp2_with (refine wpList_store_run rfl rfl rfl rfl rfl r2 ?_)
      go_wp2
      refine bodyPost_ret (results_cellTmp rfl rfl (run_loadAgg agAnch (cs := i8s zeroA.l) rfl (Sat.ptCells (off := 0) H4.out rfl))) rfl ?_
      rw [HC.out]
      exact ⟨rfl, H4.out.right.right.right⟩
    | true =>
      rw [if_pos rfl] at HC
      have r1 : (loadVar 34 ⟨w.heap.size + 1 + 1, 0, none⟩).run Tryd.prog w2 = .ok (.agg (i8s (decA b).l).toArray) w2 := run_loadAgg agAnch (cs := i8s (decA b).l) rfl (Sat.ptCells (off := 0) H3.out rfl)
      have r2 : (storeVar 34 ⟨w.heap.size + 1, 0, none⟩ (.agg (i8s (decA b).l).toArray)).run Tryd.prog w2 = .ok () (w2.setRow (w.heap.size + 1) (i8s (decA b).l).toArray) := run_storeAgg agAnch (g := w.heap.size + 1) (off := 0) (cs := i8s (decA b).l) H3.out.s2.get rfl (by show 0 + 10 ≤ 10; omega) rfl
      have h4 := H3.out.s2.splice (i8s (decA b).l)
      have H4 := Aside.mk h4
      clear h4
      generalize World.setRow w2 _ _ = w4 at *
      go_wp2_with (first | (refine wpList_load_run rfl rfl rfl r1 ?_) | (refine wpList_store_run rfl rfl rfl rfl rfl r2 ?_))
      go_wp2
      refine bodyPost_ret (results_cellTmp rfl rfl (run_loadAgg agAnch (cs := i8s (decA b).l) rfl (Sat.ptCells (off := 0) H4.out rfl))) rfl ?_
      rw [HC.out]
      exact ⟨rfl, H4.out.right.right.right⟩
  · have HP := Aside.mk (decP_long (b := b) (by omega))
    have H1 := Aside.mk h1
    have h80b : ((n : Int) == 80) = false := by rw [beq_eq_false_iff_ne]; omega
    have h80c : ¬ (n : Int) = 80 := by omega
    clear hw h1 hz hq hb hln
    go_enter Tryd.func80, Tryd.ntmps80
    go_wp2
    refine bodyPost_ret (results_cellTmp rfl rfl (run_loadAgg agAnch (cs := i8s zeroA.l) rfl (Sat.ptCells (off := 0) H1.out rfl))) rfl ?_
    rw [HP.out]
    exact ⟨rfl, H1.out.right.right⟩
end Go.Proofs.YtanlgadijndmaaaDoor
/- Arrays of bytes compared. -/
namespace Go.Proofs.YtanlgadijndmaaaDoor
open Go.RowKit HP
set_option linter.unusedSimpArgs false
set_option linter.unusedVariables false

theorem run_forIn_all {P : Program} {w : World} {f : Nat → Sem Bool} {g : Nat → Bool} : ∀ (l : List Nat), (∀ i ∈ l, (f i).run P w = .ok (g i) w) →
    ((do for i in l do
           if !(← f i) then return false
         pure true) : Sem Bool).run P w = .ok (l.all g) w
  | [], _ => by simp
  | i :: l, h => by
    have h0 := h i (List.mem_cons_self ..)
    have ih := run_forIn_all l (fun j hj => h j (List.mem_cons_of_mem _ hj))
    simp only [List.forIn_cons, Sem.run_bind, h0, Result.andThen_ok] at ih ⊢
    cases hg : g i
    · simp [hg]
    · simp [hg] at ih ⊢
      exact ih
theorem run_equalIn_arr {P : Program} {w : World} {d n : Nat} {t e : TypeId} {k : IntKind} (ht : P.underlying t = some (.array n e)) (he : P.underlying e = some (.int k)) (hs : (P.info? e).map (·.size) = some 1) (hp : ∀ (xs : Array Value) (off : Nat) (v : Value), xs[off]? = some v → (part e xs off).run P w = .ok v w)
    (a b : List Int) (ha : a.length = n) (hb : b.length = n) :
    (Op.equalIn (d + 2) t (.agg (b8s a).toArray) (.agg (b8s b).toArray)).run P w = .ok (decide (a = b)) w := by
  have hsz : (Go.sizeOf e).run P w = .ok 1 w := by
    cases hq : P.info? e with
    | none => simp [hq] at hs
    | some i =>
      have hs : i.size = 1 := by simpa [hq] using hs
      simp [Go.sizeOf, typeInfo, hq, hs]
  have hall : ((List.range' 0 n).all fun i => a.getD i 0 == b.getD i 0) = decide (a = b) := by
    rw [Bool.eq_iff_iff]
    simp only [List.all_eq_true, List.mem_range'_1, beq_iff_eq, decide_eq_true_eq]
    constructor
    · intro h
      apply List.ext_getElem (by omega)
      intro i h1 h2
      have := h i (by omega)
      simpa [List.getD, h1, h2] using this
    · rintro rfl i _
      rfl
  rw [← hall]
  have key := run_forIn_all (P := P) (w := w) (f := fun i => do Op.equalIn (d + 1) e (← part e (b8s a).toArray (i * 1)) (← part e (b8s b).toArray (i * 1))) (g := fun i => a.getD i 0 == b.getD i 0) (List.range' 0 n) (by
    intro i hi
    simp only [List.mem_range'_1] at hi
    have h1 : i < a.length := by omega
    have h2 : i < b.length := by omega
    have p1 := hp (b8s a).toArray (i * 1) (.int .u8 (a.getD i 0)) (by simp [b8s, h1, List.getD])
    have p2 := hp (b8s b).toArray (i * 1) (.int .u8 (b.getD i 0)) (by simp [b8s, h2, List.getD])
    simp only [Sem.run_bind, p1, p2, Result.andThen_ok]
    exact run_equalIn_int w d e .u8 k _ _ he)
  unfold Op.equalIn
  simp only [Sem.run_bind, run_underlying ht, Result.andThen_ok, hsz]
  rw [Std.Legacy.Range.forIn_eq_forIn_range'] 
  simp only [Sem.run_bind, bind_assoc] at key ⊢
  have e0 : List.range' [:n].start [:n].size [:n].step = List.range' 0 n := by simp [Std.Legacy.Range.size]
  rw [e0]
  exact key

theorem run_neq_u8s {P : Program} {w : World} {n : Nat} {t e : TypeId} {k : IntKind} (ht : P.underlying t = some (.array n e)) (he : P.underlying e = some (.int k)) (hs : (P.info? e).map (·.size) = some 1) (hp : P.plainKey e = true)
    (a b : List Int) (ha : a.length = n) (hb : b.length = n) : (binOp .neq t (.agg (b8s a).toArray) (.agg (b8s b).toArray)).run P w = .ok (.bool (!(decide (a = b)))) w := by
  rw [run_neq_struct, run_equalIn_arr (d := 9998) ht he hs (fun xs off v h => run_part_plain w hp h) a b ha hb]
  rfl
theorem exec_binop {P : Program} {o : Oper} {a : Act} {w : World} {op : BinOp} {t ty : TypeId} {x y : Operand} {X Y V : Value} (ho : o.op = .binOp op t x y ty) (hx : a.eval x = X) (hy : a.eval y = Y) (hg : (eqGuard op t x y X Y).run P w = .ok () w) (hr : (binOp op t X Y).run P w = .ok V w) :
    (execOp a.eval o).run P w = .ok (.value V) w := by
  unfold execOp
  rw [ho]
  simp only [hx, hy, Sem.run_bind, hg, hr, Result.andThen_ok]
  rfl
end Go.Proofs.YtanlgadijndmaaaDoor
/- extent.Frame. -/
namespace Go.Proofs.YtanlgadijndmaaaDoor
open Go.RowKit HP
set_option linter.unusedSimpArgs false
set_option linter.unusedVariables false

def FrameOk (index gen : Int) (n : Nat) : Prop := 0 ≤ index ∧ index ≤ 2147483647 ∧ 0 ≤ gen ∧ gen ≤ 4611686018427387904 ∧ n ≤ 106
instance (index gen : Int) (n : Nat) : Decidable (FrameOk index gen n) := by unfold FrameOk; infer_instance
set_option maxHeartbeats 2000000 in
set_option maxRecDepth 100000 in
theorem ext_frame (E : Env) (q : HP) (name : ByteArray) (index gen : Nat) (A : Option Addr) (p : List Int) (n c : Nat) (w : World) (hname : name.size ≤ maxLen) (hi : (index : Int) ≤ 2147483647) (hg : (gen : Int) ≤ 4611686018427387904) (hpn : p.length = n) (hn : n ≤ 106) (hp : Bytes p)
    (hq : ∀ w, Sat E w q → Quarter w ∧ Cells w A (b8s p)) (hw : Sat E w q) :
    Calls Tryd.prog 83 #[.string name, .int .i64 index, .int .i64 gen, .slice A n c] w fun e w' => ∃ g, e = .returned (.tuple #[.slice (some ⟨g, 0, none⟩) 128 128, .int .i64 0]) ∧ Sat E w' (HP.pt g (.cells (b8s (extI name index gen p)).toArray 183) * q) := by
  have HQ := Aside.mk (And.intro hq (And.intro hp (And.intro hpn hw)))
  clear hq hw hp hpn
  have hn' : (n : Int) ≤ 106 := by omega
  go_enter Tryd.func83, Tryd.ntmps83
  go_wp2_with fail
  refine (ext_build E q name index gen A p n c w hname (by omega) (by omega) HQ.out.2.2.1 hn HQ.out.2.1 HQ.out.1 HQ.out.2.2.2).mono ?_
  rintro e w2 ⟨rfl, h2⟩
  have hIl : (extI name index gen p).length = 128 := extI_length (by rw [HQ.out.2.2.1]; exact hn)
  obtain ⟨I, hIe⟩ : ∃ I, I = extI name index gen p := ⟨_, rfl⟩
  rw [← hIe] at hIl ⊢
  have HI2 := Aside.mk hIl
  have HIe := Aside.mk hIe
  clear hIl hIe
  have h3 := h2.alloc (.cells Tryd.zeroCells183 183)
  have r2 := run_storeAgg agExt (g := w2.heap.size) (off := 0) (cs := b8s I) h3.get (by rw [b8s_length]; exact HI2.out) (by rw [← zero_ext]; simp [b8s_length]) (b8s_one I)
  have h4 := h3.splice (splice Tryd.zeroCells183.toList 0 (b8s I))
  have e4 : splice Tryd.zeroCells183.toList 0 (b8s I) = b8s I := by
    rw [← zero_ext]
    unfold splice
    rw [List.take_zero, List.nil_append, Nat.zero_add, List.drop_of_length_le (by simp [b8s_length, HI2.out]), List.append_nil]
  rw [e4] at h4 r2
  have H4 := Aside.mk h4
  clear h3 h4 e4 h2
  go_wp2_with (first | (refine wpList_store_run rfl rfl rfl rfl rfl r2 ?_))
  go_ret2
  rw [← HIe.out]
  exact ⟨_, rfl, H4.out⟩
set_option maxHeartbeats 2000000 in
set_option maxRecDepth 100000 in
theorem ext_frame_bad (name : ByteArray) (index gen : Int) (A : Option Addr) (n c : Nat) (w : World) (h : ¬ FrameOk index gen n) :
    Calls Tryd.prog 83 #[.string name, .int .i64 index, .int .i64 gen, .slice A n c] w fun e w' => e = .returned (.tuple #[.slice none 0 0, .int .i64 1]) ∧ w' = w := by
  have hb : index < 0 ∨ 2147483647 < index ∨ gen < 0 ∨ 4611686018427387904 < gen ∨ 106 < (n : Int) := by unfold FrameOk at h; omega
  clear h
  have key : ((((index < 0 ∨ 2147483647 < index) ∨ gen < 0) ∨ 4611686018427387904 < gen) ∨ 106 < (n : Int)) := by omega
  go_enter Tryd.func83, Tryd.ntmps83
  go_wp2
  all_goals (go_ret2; exact ⟨rfl, rfl⟩)
end Go.Proofs.YtanlgadijndmaaaDoor
/- extent.Open: what an extent holds. -/
namespace Go.Proofs.YtanlgadijndmaaaDoor
open Go.RowKit HP
set_option linter.unusedSimpArgs false
set_option linter.unusedVariables false

/-- What bytes say as an extent of a file at an index; none: they are bad. -/
def openI (b : List Int) (name : ByteArray) (index : Int) : Option (List Int × Nat) :=
  if b.length ≠ 128 ∨ 106 < b.getD 17 0 ∨ index < 0 ∨ 2147483647 < index then none else
  if 4611686018427387904 < getN ((b.drop 9).take 8) then none else
  if extI name index.toNat (getN ((b.drop 9).take 8)) ((b.drop 18).take (b.getD 17 0).toNat) ≠ b then none else
  some ((b.drop 18).take (b.getD 17 0).toNat, getN ((b.drop 9).take 8))
theorem run_arrayExt (a : Option Addr) (n c : Nat) (h : 128 ≤ n) (w : World) : (Instr.arrayAt 183 (.slice a n c)).run Tryd.prog w = .ok (.pointer a) w := by
  have : ¬ n < 128 := by omega
  simp [Instr.arrayAt, run_underlying Tryd.underlying183, this]
set_option maxHeartbeats 2000000 in
set_option maxRecDepth 100000 in
theorem ext_open (E : Env) (q : HP) (name : ByteArray) (index : Int) (A : Option Addr) (b : List Int) (n c : Nat) (w : World) (hname : name.size ≤ maxLen) (hbn : b.length = n) (hnc : n ≤ c) (hb : Bytes b)
    (hq : ∀ w, Sat E w q → Quarter w ∧ Cells w A (b8s b)) (hw : Sat E w q) :
    Calls Tryd.prog 61 #[.slice A n c, .string name, .int .i64 index] w fun e w' =>
      (openI b name index = none ∧ e = .returned (.tuple #[.slice none 0 0, .int .i64 0, .int .i64 40]) ∧ Sat E w' q) ∨
      (∃ p gen v, openI b name index = some (p, gen) ∧ e = .returned (.tuple #[v, .int .i64 gen, .int .i64 0]) ∧ Sat E w' (HP.row 5 1 v p.length (b8s p) * q)) := by
  by_cases hlen : n = 128
  · subst hlen
    have hcw := (hq w hw).2
    obtain ⟨a, rfl, -⟩ := hcw.at_ 0 (by rw [b8s_length, hbn]; decide)
    obtain ⟨g, o, rfl⟩ := slice_addr hcw rfl (k := 0) (by rw [b8s_length, hbn]; decide)
    have g17 : b[17]? = some (b.getD 17 0) := by
      have : 17 < b.length := by omega
      simp [List.getD, this]
    have c17 : w.cell? ⟨g, o + 17, none⟩ = some (.int .u8 (b.getD 17 0)) := by
      have := hcw.some_ 17 (.int .u8 (b.getD 17 0)) (by unfold b8s; rw [List.getElem?_map, g17]; rfl)
      rw [addr_add] at this
      exact this
    have hx := hb _ (List.mem_of_getElem? g17)
    have HO : Aside (openI b name index = if b.length ≠ 128 ∨ 106 < b.getD 17 0 ∨ index < 0 ∨ 2147483647 < index then none else
        if 4611686018427387904 < getN ((b.drop 9).take 8) then none else
        if extI name index.toNat (getN ((b.drop 9).take 8)) ((b.drop 18).take (b.getD 17 0).toNat) ≠ b then none else
        some ((b.drop 18).take (b.getD 17 0).toNat, getN ((b.drop 9).take 8))) := ⟨rfl⟩
    obtain ⟨x, hxe⟩ : ∃ x : Nat, b.getD 17 0 = (x : Int) := ⟨(b.getD 17 0).toNat, by omega⟩
    rw [hxe] at c17 hx HO
    clear g17 hxe
    by_cases hbad : 106 < (x : Int) ∨ index < 0 ∨ 2147483647 < index
    · have HN : Aside (openI b name index = none ∧ Sat E w q) := ⟨by rw [HO.out, if_pos (.inr hbad)], hw⟩
      clear HO hw hq hcw hbn
      go_enter Tryd.func61, Tryd.ntmps61
      go_wp2
      all_goals (go_ret3; exact .inl ⟨HN.out.1, rfl, HN.out.2⟩)
    · have hx1 : ¬ 106 < (x : Int) := fun h => hbad (.inl h)
      have hi0 : ¬ index < 0 := fun h => hbad (.inr (.inl h))
      have hi2 : ¬ 2147483647 < index := fun h => hbad (.inr (.inr h))
      rw [if_neg (by rw [hbn]; intro h; rcases h with h | h; exact h rfl; exact hbad h), Int.toNat_natCast] at HO
      obtain ⟨ix, rfl⟩ := Int.eq_ofNat_of_zero_le (Int.not_lt.1 hi0)
      rw [Int.toNat_natCast] at HO
      have HQ := Aside.mk (And.intro hq (And.intro hw (And.intro hb hbn)))
      have cg : Cells w (some ⟨g, o + 9, none⟩) (b8s ((b.drop 9).take 8)) := by
        have := (hcw.drop 9).take 8
        rw [addr_add] at this
        unfold b8s at this ⊢
        rw [List.map_take, List.map_drop]
        exact this
      have CG := Aside.mk cg
      clear hbad hq hw hcw hbn cg hb
      go_enter Tryd.func61, Tryd.ntmps61
      go_wp2_with fail
      refine (crc_get (some ⟨g, o + 9, none⟩) ((b.drop 9).take 8) 8 (c - 9) w (by rw [List.length_take, List.length_drop, HQ.out.2.2.2]; rfl) (by decide) (by decide) (fun y hy => HQ.out.2.2.1 y (List.mem_of_mem_drop (List.mem_of_mem_take hy))) CG.out).mono ?_
      rintro e w1 ⟨rfl, rfl⟩
      clear CG
      generalize getN ((b.drop 9).take 8) = G at *
      by_cases hG : 4611686018427387904 < (G : Int)
      · have HN : Aside (openI b name ix = none ∧ Sat E w1 q) := ⟨by rw [HO.out, if_pos (by omega)], HQ.out.2.1⟩
        clear HO
        go_wp2
        go_ret3
        exact .inl ⟨HN.out.1, rfl, HN.out.2⟩
      · rw [if_neg (by omega)] at HO
        have c17a : (w1.alloc (.cells #[] 5)).cell? ⟨g, o + 17, none⟩ = some (.int .u8 (x : Int)) := by
          rw [World.cell?_of_block (w := w1) (heap_alloc_old w1 _ (World.block_lt_of_cell? w1 _ c17))]; exact c17
        have hpl : ((b.drop 18).take x).length = x := by rw [List.length_take, List.length_drop, HQ.out.2.2.2]; omega
        have cp : Cells w1 (some ⟨g, o + 18, none⟩) (b8s ((b.drop 18).take x)) := by
          have := (((HQ.out.1 _ HQ.out.2.1).2).drop 18).take x
          rw [addr_add] at this
          unfold b8s at this ⊢
          rw [List.map_take, List.map_drop]
          exact this
        have hpb : Bytes ((b.drop 18).take x) := fun y hy => HQ.out.2.2.1 y (List.mem_of_mem_drop (List.mem_of_mem_take hy))
        obtain ⟨p, hp⟩ : ∃ p, p = (b.drop 18).take x := ⟨_, rfl⟩
        rw [← hp] at HO hpl cp hpb
        have HP1 := Aside.mk (And.intro hpl (And.intro cp (And.intro hpb (show (b8s p).length = (18 + x - 18) * 1 by rw [b8s_length, hpl, Nat.mul_one]; omega))))
        clear hpl cp hpb hp
        go_wp2_with (at_builtin; go_loud (refine wpList_append_row slB8 rfl rfl (by rfl) (by rfl) (((HQ.out.2.1.alloc _).right).row_nil _ _ _) (HP1.out.2.1.alloc _) HP1.out.2.2.2 (b8s_one _) (by unfold maxLen; omega) (by omega) (fun v4 w4 hw4 => ?_); have HW4 := Aside.mk hw4; clear hw4))
        have hw4 : Sat E w4 (HP.row 5 1 v4 x (b8s p) * q) := by
          have := HW4.out
          rw [Nat.zero_add, List.nil_append, Nat.add_sub_cancel_left] at this
          exact this
        obtain ⟨A4, c4, rfl, -, -⟩ := hw4.row_slice
        have hT0 : (loadVar 183 ⟨g, o, none⟩).run Tryd.prog w4 = .ok (.agg (b8s b).toArray) w4 := run_loadAgg agExt (by rw [b8s_length]; exact HQ.out.2.2.2) (HQ.out.1 _ hw4.right).2
        have HW := Aside.mk hw4
        have ra : ∀ w, (Instr.arrayAt 183 (.slice (some ⟨g, o, none⟩) 128 c)).run Tryd.prog w = .ok (.pointer (some ⟨g, o, none⟩)) w := fun w => run_arrayExt _ 128 c (Nat.le_refl _) w
        clear HW4 hw4 c17 c17a
        refine region_R [5] [5] (fun w' => (loadVar 183 ⟨g, o, none⟩).run Tryd.prog w' = .ok (.agg (b8s b).toArray) w') #[false, false, false, false, false, false, false, false, false, false] (by kernel_rfl) rfl rfl ?_
        have hT1 : (loadVar 183 ⟨g, o, none⟩).run Tryd.prog w4.drew = .ok (.agg (b8s b).toArray) w4.drew := run_loadAgg agExt (by rw [b8s_length]; exact HQ.out.2.2.2) (HQ.out.1 _ HW.out.drew.right).2
        refine wpR_rd 0 #[true, false, false, false, false, false, false, false, false, false] rfl onlyN_noPanic (by kernel_rfl) (fun K hK => ?_); (go_simp; try go_bits); refine hK _ ?_; clear hK K
        refine wpR_rd 1 #[true, true, false, false, false, false, false, false, false, false] rfl onlyN_noPanic (by kernel_rfl) (fun K hK => ?_); (go_simp; try go_bits); refine hK _ ?_; clear hK K
        refine wpR_rd 2 #[true, true, true, false, false, false, false, false, false, false] rfl onlyN_noPanic (by kernel_rfl) (fun K hK => ?_); (go_simp; try go_bits); refine hK _ ?_; clear hK K
        refine wpR_rd 3 #[true, true, true, true, false, false, false, false, false, false] rfl onlyN_noPanic (by kernel_rfl) (fun K hK => ?_); (go_simp; try go_bits); refine hK _ ?_; clear hK K
        refine wpR_rd 4 #[true, true, true, true, true, false, false, false, false, false] rfl onlyN_noPanic (by kernel_rfl) (fun K hK => ?_); (go_simp; try go_bits); refine hK _ ?_; clear hK K
        refine wpR_pu 6 #[true, true, true, true, true, false, true, false, false, false] rfl onlyN_noPanic (by kernel_rfl) (fun K hK => ?_); (go_simp; try go_bits); refine hK _ ?_; clear hK K
        refine wpR_pu 7 #[true, true, true, true, true, false, true, true, false, false] rfl onlyN_noPanic (by kernel_rfl) (fun K hK => ?_); (go_simp; try go_bits); refine hK _ ?_; clear hK K
        refine wpR_held (i := 8) (v := .agg (b8s b).toArray) #[true, true, true, true, true, false, true, true, true, false] rfl onlyN_noPanic (by kernel_rfl) hT1 (.inl ⟨rfl, fun w' hT => exec_load rfl rfl hT⟩) ?_
        simp only [Act.put, List.setIfInBounds_toArray, List.set_cons_zero, List.set_cons_succ]
        refine wpR_keep #[true, true, true, true, true, true, true, true, true, false] (i := 5) rfl (by kernel_rfl) (fun K hK => ?_)
        go_simp
        refine (ext_build E _ name ix G A4 p x c4 _ hname (by omega) (by omega) HP1.out.1 (by omega) HP1.out.2.2.1 (fun w h => ⟨(HQ.out.1 _ h.right).1, h.row_cells⟩) HW.out.drew).mono ?_
        rintro e w5 ⟨rfl, h5⟩
        refine hK _ _ (run_loadAgg agExt (by rw [b8s_length]; exact HQ.out.2.2.2) (HQ.out.1 _ h5.right).2) ?_
        clear hK K
        have hIl : (extI name ix G p).length = 128 := extI_length (by rw [HP1.out.1]; omega)
        obtain ⟨I, hIe⟩ : ∃ I, I = extI name ix G p := ⟨_, rfl⟩
        rw [← hIe] at HO hIl ⊢
        have hne := run_neq_u8s (P := Tryd.prog) (w := w5) Tryd.underlying183 Tryd.underlying5 (by kernel_rfl) (by kernel_rfl) I b hIl HQ.out.2.2.2
        refine wpR_read (i := 9) #[true, true, true, true, true, true, true, true, true, true] rfl onlyN_noPanic (by kernel_rfl) (.inl ⟨rfl, exec_binop rfl rfl rfl (run_eqGuard_agg w5 .neq 183 _ _ _ _ (by kernel_rfl)) hne⟩) ?_
        simp only [Act.put, List.setIfInBounds_toArray, List.set_cons_zero, List.set_cons_succ]
        refine wpR_done (by kernel_rfl) ?_ _
        simp only [OnlyN]
        clear hne hT0 hT1 ra
        by_cases hIb : I = b
        · rw [decide_eq_true hIb]
          have HE : Aside (openI b name ix = some (p, G) ∧ Sat E w5 (HP.row 5 1 (.slice A4 x c4) p.length (b8s p) * q)) := ⟨by rw [HO.out, if_neg (by simpa using hIb)], by rw [HP1.out.1]; exact h5⟩
          clear HO hIe hIl hIb h5 HW
          generalize (b8s b).toArray = Lb at *
          generalize (b8s I).toArray = LI at *
          go_wp2
          go_ret3
          exact .inr ⟨p, G, _, HE.out.1, rfl, HE.out.2⟩
        · rw [decide_eq_false hIb]
          have HE : Aside (openI b name ix = none ∧ Sat E w5 q) := ⟨by rw [HO.out, if_pos hIb], h5.right⟩
          clear HO hIe hIl hIb h5 HW
          generalize (b8s b).toArray = Lb at *
          generalize (b8s I).toArray = LI at *
          go_wp2
          go_ret3
          exact .inl ⟨HE.out.1, rfl, HE.out.2⟩
  · have HO : Aside (openI b name index = none) := ⟨by unfold openI; rw [if_pos (.inl (by rw [hbn]; exact hlen))]⟩
    have hne : ¬ (n : Int) = 128 := by omega
    have HW := Aside.mk hw
    clear hw hq hbn
    go_enter Tryd.func61, Tryd.ntmps61
    go_wp2
    go_ret3
    exact .inl ⟨HO.out, rfl, HW.out⟩
end Go.Proofs.YtanlgadijndmaaaDoor
/- What calls make of a disk: plain lemmas. -/
namespace Go.Proofs.YtanlgadijndmaaaDoor
open Go.RowKit HP
set_option linter.unusedSimpArgs false
set_option linter.unusedVariables false

def Dk.new (room : Int) : Dk := ⟨room, -1, []⟩
theorem Dk.new_fine {room : Int} (h : 0 ≤ room ∧ room ≤ 100000) : (Dk.new room).Fine :=
  ⟨List.Pairwise.nil, (fun x hx => by cases hx), (fun x hx => by cases hx), h, ⟨by show (-1 : Int) ≤ -1; omega, by show (-1 : Int) ≤ _; omega⟩, h.1⟩
theorem View.new {room : Int} (h : 0 ≤ room ∧ room ≤ 100000) : View (Dk.new room) #[] 0 [] :=
  ⟨⟨(fun x hx => by simp at hx), rfl, by simp, (fun x hx => by simp at hx), by simp⟩, fun s => rfl, Dk.new_fine h⟩
theorem disk_new_ok (E : Env) (q : HP) (room : Int) (w : World) (h : 0 ≤ room ∧ room ≤ 100000) (hw : Sat E w q) :
    Calls Tryd.prog 19 #[.int .i64 room] w fun e w' => ∃ d, e = .returned (.tuple #[.pointer (some ⟨d, 0, none⟩), .int .i64 0]) ∧ Sat E w' (HP.disk d (Dk.new room) * q) :=
  (disk_new E q room w h.1 h.2 hw).mono fun e w' ⟨d, m, he, hs⟩ => ⟨d, he, Sat.disk_close (m := m) (View.new h) (hs.perm (by
    unfold HP.dk
    simp only [List.map_nil, HP.all, HP.mul_emp]
    show _ = HP.dsk d room (-1) m * HP.pt m (.map #[] 0) * q
    rw [HP.mul_assoc]))⟩

section
variable {A : Dk} {s t : ByteArray} {i : Int} {b : List Int} {l : List Cel}
theorem at_set (hs : Sorted A.files) (l : List Cel) : (A.set s l).at t = if s = t then l else A.at t := by
  unfold Dk.at Dk.set
  rw [lk_put _ _ _ hs]
  split <;> rfl
theorem lk_set (hs : Sorted A.files) (l : List Cel) : lk (A.set s l).files t = if s = t then some l else lk A.files t := lk_put _ _ _ hs
theorem burnt_forever (h : A.fuse = -1) : A.burnt = A := by
  unfold Dk.burnt burnI
  rw [h]
  simp only [gt_iff_lt, Int.reduceNeg, Int.reduceLT, if_false]
  cases A
  simp only at h
  rw [h]
theorem goes_forever (h : A.fuse = -1) : A.goes = true := by
  unfold Dk.goes burnI
  rw [h]; rfl
theorem write_first (hn : namedB s = true) (hb : b.length = 128) (hat : A.at s = []) (hf : 0 < A.free) (hg : A.goes = true) : A.write s 0 b = (0, A.burnt.set s [Cel.zero.wrote b]) := by
  unfold Dk.write
  rw [if_neg (by simp [hn, hb, hat]), if_neg (by simp [hg]), if_neg (by omega), if_pos (by simp [hat]), hat]
  rfl
theorem write_other (hs : Sorted A.files) (hne : s ≠ t) : lk (A.write s i b).2.files t = lk A.files t := by
  unfold Dk.write
  split
  · rfl
  · split
    · rfl
    · split
      · rfl
      · split
        · show lk (A.burnt.set s _).files t = _
          rw [lk_set (A := A.burnt) hs, if_neg hne]; rfl
        · show lk (A.burnt.set s _).files t = _
          rw [lk_set (A := A.burnt) hs, if_neg hne]; rfl
theorem write_forever (h : A.fuse = -1) : (A.write s i b).2.fuse = -1 := by
  have e := burnt_forever h
  unfold Dk.write
  rw [e]
  split
  · exact h
  · split
    · exact h
    · split
      · exact h
      · split <;> exact h
theorem sync_some (hl : lk A.files s = some l) (hg : A.goes = true) : A.sync s = (0, A.burnt.set s (l.map Cel.syncd)) := by
  unfold Dk.sync
  rw [hl]
  simp [hg]
theorem cel_at (hl : lk A.files s = some l) (k : Nat) : A.cel s k = l[k]? := by
  unfold Dk.cel Dk.at
  rw [if_pos (by omega), hl]; rfl
end
theorem celAt_view {A : Dk} {es : Array MapEntry} {clock : Nat} {fs : List Fil} (hv : View A es clock fs) (s : ByteArray) (i : Int) : (celAt fs s i).map (·.2) = A.cel s i := by
  have h := hv.same s
  unfold celAt Dk.cel Dk.at
  unfold lkF at h
  cases hf : fs.find? (fun f => decide (f.name = s)) with
  | none =>
    rw [hf] at h
    rw [← h]
    simp
  | some f =>
    rw [hf] at h
    simp only [Option.map_some] at h
    rw [← h]
    simp only [Option.getD_some]
    by_cases h0 : 0 ≤ i
    · rw [if_pos h0]
      by_cases h1 : i < f.cels.length
      · rw [if_pos ⟨h0, h1⟩, Fil.cs, List.getElem?_map]
      · rw [if_neg (fun h => h1 h.2), Fil.cs, List.getElem?_map, List.getElem?_eq_none (by omega)]
    · rw [if_neg h0, if_neg (fun h => h0 h.1)]; rfl
def readEnd (E : Env) (q : HP) (r : Option Cel) (e : Ending) (w' : World) : Prop :=
  match r with
  | none => e = .returned (.tuple #[.slice none 0 0, .int .i64 30]) ∧ Sat E w' q
  | some c => ∃ v, e = .returned (.tuple #[v, .int .i64 0]) ∧ Sat E w' (HP.row 5 1 v 128 (b8s c.read) * q)
theorem disk_read_ok (E : Env) (q : HP) (d : Nat) (A : Dk) (name : ByteArray) (i : Int) (w : World) (hn : name.size ≤ maxLen) (hw : Sat E w (HP.disk d A * q)) :
    Calls Tryd.prog 35 #[.pointer (some ⟨d, 0, none⟩), .string name, .int .i64 i] w (readEnd E (HP.disk d A * q) (A.cel name i)) := by
  obtain ⟨m, es, clock, fs, hv, hd⟩ := hw.disk_open
  refine (disk_read E q d A.room A.fuse m es clock fs name i w hn hv.map hv.good hd).mono fun e w' h => ?_
  rw [← celAt_view hv]
  unfold readPost at h
  unfold readEnd
  cases hc : celAt fs name i with
  | none => rw [hc] at h; exact ⟨h.1, Sat.disk_close hv h.2⟩
  | some x =>
    rw [hc] at h
    obtain ⟨v, he, hs⟩ := h
    exact ⟨v, he, (Sat.disk_close (q := HP.row 5 1 v 128 (b8s x.2.read) * q) hv (hs.perm (HP.left_comm _ _ _))).perm (HP.left_comm _ _ _)⟩
/-- Elements of several cells. -/
theorem flat_get {α : Type} (f : α → List Value) (n : Nat) (l : List α) (hn : ∀ x, (f x).length = n) (i k : Nat) (x : α) (h : l[i]? = some x) (hk : k < n) : (l.flatMap f)[i * n + k]? = (f x)[k]? := by
  induction l generalizing i with
  | nil => simp at h
  | cons y l ih =>
    rw [List.flatMap_cons]
    cases i with
    | zero =>
      simp only [List.getElem?_cons_zero, Option.some.injEq] at h
      subst h
      rw [Nat.zero_mul, Nat.zero_add, List.getElem?_append_left (by rw [hn]; exact hk)]
    | succ i =>
      simp only [List.getElem?_cons_succ] at h
      rw [List.getElem?_append_right (by rw [hn, Nat.add_mul]; omega), hn, ← ih i h]
      congr 1
      rw [Nat.add_mul, Nat.one_mul]
      omega
theorem StepV.vals_length (s : StepV) : s.vals.length = 8 := rfl
end Go.Proofs.YtanlgadijndmaaaDoor
/- (*Disk).Remove, Extents, Free, Fuse: over a disk told by its files. -/
namespace Go.Proofs.YtanlgadijndmaaaDoor
open Go.RowKit HP
set_option linter.unusedSimpArgs false
set_option linter.unusedVariables false

set_option maxHeartbeats 1000000 in
set_option maxRecDepth 100000 in
theorem disk_extents (E : Env) (q : HP) (d : Nat) (A : Dk) (name : ByteArray) (w : World) (hn : name.size ≤ maxLen) (hw : Sat E w (HP.disk d A * q)) :
    Calls Tryd.prog 33 #[.pointer (some ⟨d, 0, none⟩), .string name] w fun e w' => e = .returned (.int .i64 ((A.at name).length : Int)) ∧ w' = w := by
  obtain ⟨m, es, clock, fs, hv, hd⟩ := hw.disk_open
  have hsm := at_small hv.fine name
  obtain ⟨k, hk⟩ : ∃ k, k = (A.at name).length := ⟨_, rfl⟩
  simp only [← hk] at hsm ⊢
  clear hw
  go_enter Tryd.func33, Tryd.ntmps33
  go_wp2_with fail
  refine (disk_none E _ d _ _ m w (dk_parts hd)).mono ?_
  rintro e w1 ⟨rfl, rfl⟩
  have c1 := (dk_parts hd).cell 1
  simp only [List.getElem?_toArray, List.getElem?_cons_zero, List.getElem?_cons_succ] at c1
  obtain ⟨v, B, cc, hvB, hlook, -, -⟩ := find_file hv hd name hn
  rw [hvB] at hlook
  clear hvB hd hv
  rw [← hk] at hlook
  clear hk
  go_wp2
  go_ret
  exact ⟨rfl, rfl⟩
theorem disk_free_ok (E : Env) (q : HP) (d : Nat) (A : Dk) (w : World) (hw : Sat E w (HP.disk d A * q)) :
    Calls Tryd.prog 132 #[.pointer (some ⟨d, 0, none⟩)] w fun e w' => e = .returned (.int .i64 A.free) ∧ Sat E w' (HP.disk d A * q) := by
  obtain ⟨m, es, clock, fs, hv, hd⟩ := hw.disk_open
  refine (disk_free E q d A.room A.fuse m es clock fs w hv.map hv.fine.room (by rw [hv.total]; have := hv.size_le; omega) hd).mono ?_
  rintro e w' ⟨rfl, h⟩
  exact ⟨by rw [hv.total]; rfl, Sat.disk_close hv h⟩
theorem disk_fuse_ok (E : Env) (q : HP) (d : Nat) (A : Dk) (n : Int) (w : World) (hn : n ≤ 9223372036854775807) (hw : Sat E w (HP.disk d A * q)) :
    Calls Tryd.prog 27 #[.pointer (some ⟨d, 0, none⟩), .int .i64 n] w fun e w' => (n < 0 ∧ e = .returned (.int .i64 1) ∧ Sat E w' (HP.disk d A * q)) ∨ (0 ≤ n ∧ e = .returned (.int .i64 0) ∧ Sat E w' (HP.disk d { A with fuse := n } * q)) := by
  obtain ⟨m, es, clock, fs, hv, hd⟩ := hw.disk_open
  refine (disk_fuse E _ d _ _ m n w (dk_parts hd)).mono ?_
  rintro e w' (⟨h1, rfl, rfl⟩ | ⟨h1, rfl, h⟩)
  · exact .inl ⟨h1, rfl, hw⟩
  · refine .inr ⟨h1, rfl, Sat.disk_close (m := m) (hv.fuel n ⟨by omega, hn⟩) (h.perm ?_)⟩
    unfold HP.dk
    ac_rfl
/-- Whether a disk was made: 'Fuse(-1)' of one that was. -/
theorem disk_asked (E : Env) (q : HP) (d : Nat) (A : Dk) (w : World) (hw : Sat E w (HP.disk d A * q)) :
    Calls Tryd.prog 27 #[.pointer (some ⟨d, 0, none⟩), .int .i64 (-1)] w fun e w' => e = .returned (.int .i64 1) ∧ Sat E w' (HP.disk d A * q) :=
  (disk_fuse_ok E q d A (-1) w (by omega) hw).mono fun e w' h => by
    rcases h with ⟨_, he, hs⟩ | ⟨h0, _, _⟩
    · exact ⟨he, hs⟩
    · omega
set_option maxHeartbeats 1000000 in
set_option maxRecDepth 100000 in
theorem disk_remove (E : Env) (q : HP) (d : Nat) (A : Dk) (name : ByteArray) (w : World) (hn : name.size ≤ maxLen) (hw : Sat E w (HP.disk d A * q)) :
    Calls Tryd.prog 127 #[.pointer (some ⟨d, 0, none⟩), .string name] w fun e w' => e = .returned (.int .i64 (A.remove name).1) ∧ Sat E w' (HP.disk d (A.remove name).2 * q) := by
  obtain ⟨m, es, clock, fs, hv, hd⟩ := hw.disk_open
  have hfu := hv.fine.fuse
  have HF : Aside (A.remove name = match lk A.files name with
    | none => (30, A)
    | some _ => if A.goes = false then (31, A.burnt) else (0, { A.burnt with files := delF A.files name })) := ⟨rfl⟩
  clear hw
  go_enter Tryd.func127, Tryd.ntmps127
  go_wp2_with fail
  refine (disk_none E _ d _ _ m w (dk_parts hd)).mono ?_
  rintro e w1 ⟨rfl, rfl⟩
  have c1 := (dk_parts hd).cell 1
  simp only [List.getElem?_toArray, List.getElem?_cons_zero, List.getElem?_cons_succ] at c1
  obtain ⟨v, B, cc, hvB, -, hlook, hcase⟩ := find_file hv hd name hn
  clear hvB
  rcases hcase with ⟨hlk, -⟩ | ⟨j, f, hj, hname, hfv, hlk⟩
  · rw [hlk] at HF hlook
    have HT : Aside (A.remove name = (30, A) ∧ Sat E w1 (HP.disk d A * q)) := ⟨HF.out, Sat.disk_close hv hd⟩
    clear HF hd hv hlk hfu
    go_wp2
    go_ret
    rw [HT.out.1]
    exact ⟨rfl, HT.out.2⟩
  · rw [hlk] at HF hlook
    subst hname
    have HV := Aside.mk (And.intro hv hj)
    clear hlk hv hj hfv
    go_wp2_with fail
    refine (disk_burn E _ d _ _ m w1 hfu.2 (dk_parts hd)).mono ?_
    rintro e w3 ⟨rfl, hd3⟩
    cases hgo : A.goes with
    | false =>
      have hgo' : (burnI A.fuse).2 = false := hgo
      rw [hgo']
      have HT : Aside (A.remove f.name = (31, A.burnt) ∧ Sat E w3 (HP.disk d A.burnt * q)) := ⟨by rw [HF.out]; simp [hgo], Sat.disk_close HV.out.1.burnt (burnt_dsk hd3)⟩
      clear HF hd hd3 HV hgo hgo' hfu hlook c1
      go_wp2
      go_ret
      rw [HT.out.1]
      exact ⟨rfl, HT.out.2⟩
    | true =>
      have hgo' : (burnI A.fuse).2 = true := hgo
      rw [hgo']
      have HS : Aside (A.remove f.name = (0, { A.burnt with files := delF A.files f.name })) := ⟨by rw [HF.out]; simp [hgo]⟩
      obtain ⟨hv, hj⟩ := HV.out
      have c3 := hd3.cell 1
      simp only [List.getElem?_toArray, List.getElem?_cons_zero, List.getElem?_cons_succ] at c3
      have hrun : (Builtin.delete_ #[36, 9] 0 #[.map (some m), .string f.name]).run Tryd.prog w3 = .ok (.tuple #[]) (ChangeMaps.setBlock w3 m (.map (es.eraseIdxIfInBounds j) clock)) := by
        rcases delete_str (P := Tryd.prog) (t := 36) (ty := 0) Tryd.underlying9 Tryd.underlying36 hd3.s2.get hv.map.1 f.name hn with ⟨hno, -⟩ | ⟨i, x, hi, hx, h⟩
        · have h1 : (Value.string f.name, f.val) ∈ fs.map (fun f => (Value.string f.name, f.val)) := List.mem_map.2 ⟨f, List.mem_of_getElem? hj, rfl⟩
          rw [← hv.map.2.1] at h1
          obtain ⟨x, hx, hxe⟩ := List.mem_map.1 h1
          simp only [Prod.mk.injEq] at hxe
          exact absurd hxe.1 (hno x hx)
        · have h6 := congrArg (fun l => l[i]?) hv.map.2.1
          simp only [List.getElem?_map, hi, Option.map_some] at h6
          cases hfi : fs[i]? with
          | none => rw [hfi] at h6; cases h6
          | some g =>
            rw [hfi] at h6
            simp only [Option.map_some, Option.some.injEq, Prod.mk.injEq] at h6
            have hgn : g.name = f.name := by
              have := h6.1.symm.trans hx
              injection this
            have hil : i < fs.length := (List.getElem?_eq_some_iff.1 hfi).1
            have hij : i = j := by
              have e1 : (fs.map (·.name))[i]? = some f.name := by rw [List.getElem?_map, hfi, ← hgn]; rfl
              have e2 : (fs.map (·.name))[j]? = some f.name := by rw [List.getElem?_map, hj]; rfl
              exact (List.getElem?_inj (by simpa using hil) hv.map.2.2.1).1 (e1.trans e2.symm)
            subst hij
            exact h
      have h4 : Sat E (ChangeMaps.setBlock w3 m (.map (es.eraseIdxIfInBounds j) clock)) (HP.disk d { A.burnt with files := delF A.files f.name } * q) := by
        have h5 := Sat.setBlk hd3.s2 (.map (es.eraseIdxIfInBounds j) clock)
        refine Sat.disk_close (m := m) (hv.burnt.erase hj) ?_
        have h6 : Sat E (ChangeMaps.setBlock w3 m (.map (es.eraseIdxIfInBounds j) clock)) (HP.all (fs.map HP.fil) * (HP.pt m (.map (es.eraseIdxIfInBounds j) clock) * (HP.dsk d A.room (burnI A.fuse).1 m * q))) := h5.perm (by ac_rfl)
        rw [all_take (l := fs.map HP.fil) (j := j) (p := HP.fil f) (by rw [List.getElem?_map, hj]; rfl), map_erase] at h6
        exact (h6.perm (HP.mul_assoc _ _ _)).right.perm (by unfold HP.dk; show _ = HP.dsk d A.room (burnI A.fuse).1 m * _ * q; ac_rfl)
      have HT := Aside.mk (And.intro HS.out h4)
      clear HF hd hd3 HV hgo hgo' hfu hlook c1 hv hj h4 HS
      go_wp2_with (at_builtin; refine wpList_delete_run rfl rfl rfl rfl hrun ?_)
      go_ret
      rw [HT.out.1]
      exact ⟨rfl, HT.out.2⟩
end Go.Proofs.YtanlgadijndmaaaDoor
/- A disk that no call made: what every call answers. -/
namespace Go.Proofs.YtanlgadijndmaaaDoor
open Go.RowKit HP
set_option linter.unusedSimpArgs false
set_option linter.unusedVariables false

set_option maxHeartbeats 1000000 in
set_option maxRecDepth 100000 in
theorem none_write (p : Value) (s : ByteArray) (i : Int) (v : Value) (w : World) (hn : Calls Tryd.prog 76 #[p] w fun e w' => e = .returned (.bool true) ∧ w' = w) : Calls Tryd.prog 89 #[p, .string s, .int .i64 i, v] w fun e w' => e = .returned (.int .i64 2) ∧ w' = w := by
  go_enter Tryd.func89, Tryd.ntmps89
  go_wp2_with fail
  refine hn.mono ?_
  rintro e w1 ⟨rfl, rfl⟩
  clear hn
  go_wp2
  go_ret
  exact ⟨rfl, rfl⟩
set_option maxHeartbeats 1000000 in
set_option maxRecDepth 100000 in
theorem none_sync (p : Value) (s : ByteArray) (w : World) (hn : Calls Tryd.prog 76 #[p] w fun e w' => e = .returned (.bool true) ∧ w' = w) : Calls Tryd.prog 90 #[p, .string s] w fun e w' => e = .returned (.int .i64 2) ∧ w' = w := by
  go_enter Tryd.func90, Tryd.ntmps90
  go_wp2_with fail
  refine hn.mono ?_
  rintro e w1 ⟨rfl, rfl⟩
  clear hn
  go_wp2
  go_ret
  exact ⟨rfl, rfl⟩
set_option maxHeartbeats 1000000 in
set_option maxRecDepth 100000 in
theorem none_remove (p : Value) (s : ByteArray) (w : World) (hn : Calls Tryd.prog 76 #[p] w fun e w' => e = .returned (.bool true) ∧ w' = w) : Calls Tryd.prog 127 #[p, .string s] w fun e w' => e = .returned (.int .i64 2) ∧ w' = w := by
  go_enter Tryd.func127, Tryd.ntmps127
  go_wp2_with fail
  refine hn.mono ?_
  rintro e w1 ⟨rfl, rfl⟩
  clear hn
  go_wp2
  go_ret
  exact ⟨rfl, rfl⟩
set_option maxHeartbeats 1000000 in
set_option maxRecDepth 100000 in
theorem none_rot (p : Value) (s : ByteArray) (i k m : Int) (w : World) (hn : Calls Tryd.prog 76 #[p] w fun e w' => e = .returned (.bool true) ∧ w' = w) : Calls Tryd.prog 44 #[p, .string s, .int .i64 i, .int .i64 k, .int .u8 m] w fun e w' => e = .returned (.int .i64 2) ∧ w' = w := by
  go_enter Tryd.func44, Tryd.ntmps44
  go_wp2_with fail
  refine hn.mono ?_
  rintro e w1 ⟨rfl, rfl⟩
  clear hn
  go_wp2
  go_ret
  exact ⟨rfl, rfl⟩
set_option maxHeartbeats 1000000 in
set_option maxRecDepth 100000 in
theorem none_fuse (p : Value) (n : Int) (w : World) (hn : Calls Tryd.prog 76 #[p] w fun e w' => e = .returned (.bool true) ∧ w' = w) : Calls Tryd.prog 27 #[p, .int .i64 n] w fun e w' => e = .returned (.int .i64 2) ∧ w' = w := by
  go_enter Tryd.func27, Tryd.ntmps27
  go_wp2_with fail
  refine hn.mono ?_
  rintro e w1 ⟨rfl, rfl⟩
  clear hn
  go_wp2
  go_ret
  exact ⟨rfl, rfl⟩
set_option maxHeartbeats 1000000 in
set_option maxRecDepth 100000 in
theorem none_read (p : Value) (s : ByteArray) (i : Int) (w : World) (hn : Calls Tryd.prog 76 #[p] w fun e w' => e = .returned (.bool true) ∧ w' = w) : Calls Tryd.prog 35 #[p, .string s, .int .i64 i] w fun e w' => e = .returned (.tuple #[.slice none 0 0, .int .i64 2]) ∧ w' = w := by
  go_enter Tryd.func35, Tryd.ntmps35
  go_wp2_with fail
  refine hn.mono ?_
  rintro e w1 ⟨rfl, rfl⟩
  clear hn
  go_wp2
  go_ret2
  exact ⟨rfl, rfl⟩
set_option maxHeartbeats 1000000 in
set_option maxRecDepth 100000 in
theorem none_extents (p : Value) (s : ByteArray) (w : World) (hn : Calls Tryd.prog 76 #[p] w fun e w' => e = .returned (.bool true) ∧ w' = w) : Calls Tryd.prog 33 #[p, .string s] w fun e w' => e = .returned (.int .i64 0) ∧ w' = w := by
  go_enter Tryd.func33, Tryd.ntmps33
  go_wp2_with fail
  refine hn.mono ?_
  rintro e w1 ⟨rfl, rfl⟩
  clear hn
  go_wp2
  go_ret
  exact ⟨rfl, rfl⟩
set_option maxHeartbeats 1000000 in
set_option maxRecDepth 100000 in
theorem none_free (p : Value)  (w : World) (hn : Calls Tryd.prog 76 #[p] w fun e w' => e = .returned (.bool true) ∧ w' = w) : Calls Tryd.prog 132 #[p] w fun e w' => e = .returned (.int .i64 0) ∧ w' = w := by
  go_enter Tryd.func132, Tryd.ntmps132
  go_wp2_with fail
  refine hn.mono ?_
  rintro e w1 ⟨rfl, rfl⟩
  clear hn
  go_wp2
  go_ret
  exact ⟨rfl, rfl⟩
set_option maxHeartbeats 1000000 in
set_option maxRecDepth 100000 in
theorem none_list (p : Value)  (w : World) (hn : Calls Tryd.prog 76 #[p] w fun e w' => e = .returned (.bool true) ∧ w' = w) : Calls Tryd.prog 77 #[p] w fun e w' => e = .returned (.slice none 0 0) ∧ w' = w := by
  go_enter Tryd.func77, Tryd.ntmps77
  go_wp2_with fail
  refine hn.mono ?_
  rintro e w1 ⟨rfl, rfl⟩
  clear hn
  go_wp2
  go_ret
  exact ⟨rfl, rfl⟩
set_option maxHeartbeats 1000000 in
set_option maxRecDepth 100000 in
theorem none_damaged (p : Value)  (w : World) (hn : Calls Tryd.prog 76 #[p] w fun e w' => e = .returned (.bool true) ∧ w' = w) : Calls Tryd.prog 36 #[p] w fun e w' => e = .returned (.slice none 0 0) ∧ w' = w := by
  go_enter Tryd.func36, Tryd.ntmps36
  go_wp2_with fail
  refine hn.mono ?_
  rintro e w1 ⟨rfl, rfl⟩
  clear hn
  go_wp2
  go_ret
  exact ⟨rfl, rfl⟩
set_option maxHeartbeats 1000000 in
set_option maxRecDepth 100000 in
theorem none_copy (p : Value)  (w : World) (hn : Calls Tryd.prog 76 #[p] w fun e w' => e = .returned (.bool true) ∧ w' = w) : Calls Tryd.prog 23 #[p] w fun e w' => e = .returned (.pointer none) ∧ w' = w := by
  go_enter Tryd.func23, Tryd.ntmps23
  go_wp2_with fail
  refine hn.mono ?_
  rintro e w1 ⟨rfl, rfl⟩
  clear hn
  go_wp2
  go_ret
  exact ⟨rfl, rfl⟩
set_option maxHeartbeats 1000000 in
set_option maxRecDepth 100000 in
theorem none_crash (p v : Value) (w : World) (hn : Calls Tryd.prog 76 #[p] w fun e w' => e = .returned (.bool true) ∧ w' = w) : Calls Tryd.prog 28 #[p, v] w fun e w' => e = .returned (.int .i64 2) ∧ w' = w := by
  go_enter Tryd.func28, Tryd.ntmps28
  go_wp2_with fail
  refine hn.mono ?_
  rintro e w1 ⟨rfl, rfl⟩
  clear hn
  go_wp2
  go_ret
  exact ⟨rfl, rfl⟩
end Go.Proofs.YtanlgadijndmaaaDoor
/- pair: halves, none. -/
namespace Go.Proofs.YtanlgadijndmaaaDoor
open Go.RowKit HP
set_option linter.unusedSimpArgs false
set_option linter.unusedVariables false

def dotA : ByteArray := ⟨#[46, 97]⟩
def dotB : ByteArray := ⟨#[46, 98]⟩
theorem agTwo : AgTy Tryd.prog 144 2 := ⟨⟨_, Tryd.underlying144, rfl⟩, by kernel_rfl⟩
set_option maxHeartbeats 1000000 in
set_option maxRecDepth 100000 in
theorem pair_halves (E : Env) (q : HP) (name : ByteArray) (w : World) (hn : name.size + 2 ≤ maxLen) (hw : Sat E w q) :
    Calls Tryd.prog 88 #[.string name] w fun e w' => e = .returned (.agg #[.string (name ++ dotA), .string (name ++ dotB)]) ∧ Sat E w' q := by
  have HW := Aside.mk hw
  have hn2 : name.size + 2 ≤ 9223372036854775807 := by unfold maxLen at hn; omega
  unfold dotA dotB
  go_enter Tryd.func88, Tryd.ntmps88
  have h1 := hw.alloc (.cells [.string (name ++ ⟨#[46, 97]⟩), .string (name ++ ⟨#[46, 98]⟩)].toArray 144)
  have r1 := run_loadAgg (P := Tryd.prog) (n := 2) agTwo rfl (Sat.ptCells (off := 0) (l := [.string (name ++ ⟨#[46, 97]⟩), .string (name ++ ⟨#[46, 98]⟩)]) h1 rfl)
  go_wp2
  exact ⟨rfl, _, results_cell (t := 2) (by kernel_rfl) rfl r1, rfl, h1.right⟩
set_option maxHeartbeats 1000000 in
set_option maxRecDepth 100000 in
theorem pair_none (E : Env) (q : HP) (d : Nat) (A : Dk) (w : World) (hw : Sat E w (HP.disk d A * q)) :
    Calls Tryd.prog 82 #[.pointer (some ⟨d, 0, none⟩)] w fun e w' => e = .returned (.bool false) ∧ Sat E w' (HP.disk d A * q) := by
  have HW := Aside.mk hw
  clear hw
  go_enter Tryd.func82, Tryd.ntmps82
  go_wp2_with fail
  refine (disk_asked E q d A _ HW.out).mono ?_
  rintro e w1 ⟨rfl, h1⟩
  have H1 := Aside.mk h1
  clear h1
  go_wp2
  go_ret
  exact ⟨rfl, H1.out⟩
end Go.Proofs.YtanlgadijndmaaaDoor
