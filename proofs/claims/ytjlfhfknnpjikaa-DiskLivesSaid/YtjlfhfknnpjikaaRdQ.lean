/- Copying into an array of one's own; a string's bytes. -/
import Derived.Test.YtjlfhfknnpjikaaRd4
import Derived.Laws.IdiomStrings
import Derived.Lib.MakeNoZero
import Derived.Laws.Externs
namespace Go.Proofs.Ytjlfhfknnpjikaa
open Go.RowKit HP
set_option linter.unusedSimpArgs false
set_option linter.unusedVariables false

/-- A text's bytes. -/
def strB (s : ByteArray) : List Int := s.data.toList.map fun b => (b.toNat : Int)
theorem strB_length (s : ByteArray) : (strB s).length = s.size := by
  unfold strB
  rw [List.length_map, Array.length_toList]
  rfl
theorem strB_bytes (s : ByteArray) : Bytes (strB s) := fun x hx => by
  obtain ⟨b, _, rfl⟩ := List.mem_map.1 hx
  have := b.toNat_lt
  omega
theorem z_bytes (n : Nat) : Bytes (List.replicate n 0) := fun x hx => by
  have := List.eq_of_mem_replicate hx
  omega
theorem Bytes.append {a b : List Int} (ha : Bytes a) (hb : Bytes b) : Bytes (a ++ b) := fun x hx => by
  rcases List.mem_append.1 hx with h | h
  · exact ha x h
  · exact hb x h
theorem zero_at {a : List Int} {n off : Nat} (ho : off = a.length) : (b8s (a ++ List.replicate (n + 1) 0)).toArray[off]? = some (.int .u8 0) := by
  subst ho
  simp [b8s]
theorem set_zero {a : List Int} {n off : Nat} {x : Int} (ho : off = a.length) : (b8s (a ++ List.replicate (n + 1) 0)).toArray.setIfInBounds off (.int .u8 x) = (b8s (a ++ [x] ++ List.replicate n 0)).toArray := by
  subst ho
  rw [List.setIfInBounds_toArray]
  congr 1
  unfold b8s
  rw [← List.map_set, List.replicate_succ, List.set_append_right _ _ (Nat.le_refl _), Nat.sub_self, List.set_cons_zero, List.append_assoc]
  rfl
theorem b8s_append (a b : List Int) : b8s (a ++ b) = b8s a ++ b8s b := by unfold b8s; rw [List.map_append]
/-- What is copied to the front of the zeros. -/
theorem splice_zero {a c : List Int} {n off : Nat} (ho : off = a.length) (hc : c.length ≤ n) : splice (b8s (a ++ List.replicate n 0)) off (b8s c) = b8s (a ++ c ++ List.replicate (n - c.length) 0) := by
  have e : List.replicate n (0 : Int) = List.replicate c.length 0 ++ List.replicate (n - c.length) 0 := by rw [List.replicate_append_replicate, Nat.add_sub_cancel' hc]
  rw [e, b8s_append, b8s_append, splice_mid _ _ _ _ (by rw [b8s_length, ho]) (by rw [b8s_length, b8s_length, List.length_replicate]), b8s_append, b8s_append, List.append_assoc]

section
variable {P : Program} {E : Env} {q : HP} {w : World}
theorem Sat.ptCells {g : Nat} {t : TypeId} {L : List Value} {fr : Nat × Nat} (h : Sat E w (HP.pt g (.cells L.toArray t fr) * q)) {off : Nat} {l : List Value} (hs : (L.drop off).take l.length = l) : Cells w (some ⟨g, off, none⟩) l := fun j u hj => by
  refine ⟨_, rfl, ?_⟩
  rw [addr_add, h.cell]
  have hjl : j < l.length := (List.getElem?_eq_some_iff.1 hj).1
  rw [← hs, List.getElem?_take_of_lt hjl, List.getElem?_drop] at hj
  simpa using hj
/-- 'copy(x[off:], src)', x an array of one's own. -/
theorem run_copy_pt {dT sT ty e t : TypeId} {g off n c m k : Nat} {A : Option Addr} {L src : List Int} (hu : P.underlying dT = some (.slice e)) (hs : (P.info? e).map (·.size) = some 1) (h : Sat E w (HP.pt g (.cells (b8s L).toArray t) * q))
    (hm : src.length = m) (hmn : m ≤ n) (hfit : off + m ≤ L.length) (hsrc : Cells w A (b8s src)) :
    ∃ w', (Builtin.copy_ #[dT, sT] ty #[.slice (some ⟨g, off, none⟩) n c, .slice A m k]).run P w = .ok (goInt m) w' ∧ Sat E w' (HP.pt g (.cells (splice (b8s L) off (b8s src)).toArray t) * q) := by
  obtain ⟨i, hi⟩ : ∃ i, P.info? e = some i := by
    cases hq : P.info? e with
    | none => simp [hq] at hs
    | some i => exact ⟨i, rfl⟩
  have hi1 : i.size = 1 := by simpa [hi] using hs
  cases A with
  | none =>
    have hs0 : src = [] := by
      cases src with
      | nil => rfl
      | cons x l => obtain ⟨a, ha, _⟩ := hsrc.at_ 0 (by simp [b8s]); cases ha
    subst hs0
    obtain rfl : m = 0 := by simpa using hm.symm
    refine ⟨w, ?_, ?_⟩
    · have hmin : Nat.min 0 n = 0 := Nat.zero_min n
      simp [Builtin.copy_, run_underlying hu, Builtin.lenOf, Builtin.firstCells, sizeOf, typeInfo, hi, hi1, hmin, storeCells, loadCells, loadCellsFrom]
    · have e0 : splice (b8s L) off (b8s []) = b8s L := by simp [splice, b8s]
      rw [e0]; exact h
  | some a =>
    have hr := run_copy_row (P := P) w dT sT ty e g off n c a m k _ t (b8s src) hu hs h.get (by rw [b8s_length, hm]; exact (Nat.min_eq_left hmn).symm) (fun j u hj => hsrc.some_ j u hj) (by rw [b8s_length, hm, List.size_toArray, b8s_length]; exact hfit) (fun v hv => List.all_eq_true.1 (b8s_one src) v hv)
    rw [b8s_length, hm] at hr
    refine ⟨_, hr, ?_⟩
    have h2 := h.splice (splice (b8s L) off (b8s src))
    unfold splice at h2
    rw [b8s_length, hm] at h2
    unfold splice
    rw [b8s_length, hm]
    exact h2
theorem wpList_copy_pt {ops : Array Oper} {rest : List Oper} {o : Oper} {a : Act} {Q : Exit → Act → World → Prop} {x y : Operand} {dT sT e t : TypeId} {g off n c m k : Nat} {A : Option Addr} {L src : List Int} (hu : P.underlying dT = some (.slice e)) (hs : (P.info? e).map (·.size) = some 1)
    (hg : o.guard = none) (ho : o.op = .call { callee := .builtin .copy, args := #[x, y], argTypes := #[dT, sT] }) (hx : a.eval x = .slice (some ⟨g, off, none⟩) n c) (hy : a.eval y = .slice A m k) (h : Sat E w (HP.pt g (.cells (b8s L).toArray t) * q))
    (hm : src.length = m) (hmn : m ≤ n) (hfit : off + m ≤ L.length) (hsrc : Cells w A (b8s src))
    (hk : ∀ w', Sat E w' (HP.pt g (.cells (splice (b8s L) off (b8s src)).toArray t) * q) → wpList P ops Q rest (a.put o.dst (goInt m)) w') : wpList P ops Q (o :: rest) a w := by
  obtain ⟨w', hr, h2⟩ := run_copy_pt (sT := sT) (ty := o.type) (k := k) (c := c) hu hs h hm hmn hfit hsrc
  refine wpList_plain hg fun K hK => ?_
  exact wp_copy_run ho hx hy hr (hK _ _ (hk w' h2))
theorem wp_copy_pt (dn : Option Nat) {o : Oper} {a : Act} {K : Act → World → Prop} {Q : Exit → Act → World → Prop} {x y : Operand} {dT sT e t : TypeId} {g off n c m k : Nat} {A : Option Addr} {L src : List Int} (hd : o.dst = dn) (hu : P.underlying dT = some (.slice e)) (hs : (P.info? e).map (·.size) = some 1)
    (ho : o.op = .call { callee := .builtin .copy, args := #[x, y], argTypes := #[dT, sT] }) (hx : a.eval x = .slice (some ⟨g, off, none⟩) n c) (hy : a.eval y = .slice A m k) (h : Sat E w (HP.pt g (.cells (b8s L).toArray t) * q))
    (hm : src.length = m) (hmn : m ≤ n) (hfit : off + m ≤ L.length) (hsrc : Cells w A (b8s src))
    (hk : ∀ w', Sat E w' (HP.pt g (.cells (splice (b8s L) off (b8s src)).toArray t) * q) → K (a.put dn (goInt m)) w') : o.wp P a w K Q := by
  subst hd
  obtain ⟨w', hr, h2⟩ := run_copy_pt (sT := sT) (ty := o.type) (k := k) (c := c) hu hs h hm hmn hfit hsrc
  exact wp_copy_run ho hx hy hr (hk w' h2)
/-- '[]byte(s)'. -/
theorem run_str_bytes {src dst e : TypeId} (hs : P.underlying src = some .string) (hd : P.underlying dst = some (.slice e)) (he : P.underlying e = some (.int .u8)) (s : ByteArray) (h : Sat E w q) :
    ∃ g cap w', (convert src dst (.string s)).run P w = .ok (.slice (some ⟨g, 0, none⟩) s.size cap) w' ∧ Sat E w' q ∧ Cells w' (some ⟨g, 0, none⟩) (b8s (strB s)) := by
  refine ⟨_, _, _, run_bytes_of_string w src dst e s hs hd he, ?_, ?_⟩
  · exact (h.drew.alloc _).right
  · have h1 := h.drew.alloc (.cells (bytesRow s (grownCap w s.size 0 e)) e ((bytesRow s (grownCap w s.size 0 e)).size, (bytesRow s (grownCap w s.size 0 e)).size + 1))
    have e1 : bytesRow s (grownCap w s.size 0 e) = (b8s (strB s) ++ List.replicate (grownCap w s.size 0 e - s.size) (Value.int .u8 0)).toArray := by
      apply Array.toList_inj.1
      simp [bytesRow, b8s, strB]
    have h2 := h1
    rw [e1] at h2
    have h3 := Sat.ptCells (off := 0) (l := b8s (strB s)) h2 (by simp)
    rw [← e1] at h3
    exact h3
theorem wp_value_run {o : Oper} {a : Act} {w' : World} {K : Act → World → Prop} {Q : Exit → Act → World → Prop} {v : Value} (hr : (execOp a.eval o).run P w = .ok (.value v) w') (hk : K (a.put o.dst v) w') : o.wp P a w K Q := by
  unfold Oper.wp
  rw [hr]
  exact hk
theorem exec_convert {o : Oper} {a : Act} {w' : World} {s d : TypeId} {x : Operand} {v V : Value} (ho : o.op = .convert s d x) (hx : a.eval x = v) (hr : (convert s d v).run P w = .ok V w') : (execOp a.eval o).run P w = .ok (.value V) w' := by
  unfold execOp
  rw [ho]
  simp only [hx, Sem.run_bind, hr, Result.andThen_ok]
  rfl
end
end Go.Proofs.Ytjlfhfknnpjikaa
/- bytes.Repeat of one byte, 128 times. -/
namespace Go.Proofs.Ytjlfhfknnpjikaa
open Go.RowKit HP
set_option linter.unusedSimpArgs false
set_option linter.unusedVariables false

theorem mul64_one (w : World) : Calls Try.prog 88 #[.int .u64 1, .int .u64 128] w fun e w' => e = .returned (.tuple #[.int .u64 0, .int .u64 128]) ∧ w' = w := by
  go_enter Try.func88, Try.ntmps88
  go_wp2
  go_ret2
  exact ⟨by kernel_rfl, rfl⟩
theorem mul_one (w : World) : Calls Try.prog 72 #[.int .u64 1, .int .u64 128] w fun e w' => e = .returned (.tuple #[.int .u64 0, .int .u64 128]) ∧ w' = w := by
  go_enter Try.func72, Try.ntmps72
  go_wp2_with fail
  refine (mul64_one _).mono ?_
  rintro e w' ⟨rfl, rfl⟩
  go_wp2
  go_ret2
  exact ⟨rfl, rfl⟩
theorem digits_b8s : ∀ (n t : Nat) (acc : Array Value), (∃ l : List Int, acc = (b8s l).toArray) → ∃ l : List Int, Extern.BytealgMakeNoZero.digits n t acc = (b8s l).toArray
  | 0, _, _, h => h
  | n + 1, t, acc, ⟨l, h⟩ => by
    rw [Extern.BytealgMakeNoZero.digits]
    refine digits_b8s n _ _ ⟨l ++ [Int.ofNat (t % 256)], ?_⟩
    rw [h]
    simp [b8s]
/-- The array that the library asks for: of whatever bytes. -/
theorem no_zero (n : Nat) (w : World) (hn : n ≤ 281474976710656) : ∃ l : List Int, n ≤ l.length ∧ (callFunc 73 #[.int .i64 n]).run Try.prog w = .ok (.value (.slice (some ⟨w.heap.size, 0, none⟩) n l.length)) (w.drew.drew.alloc (.cells (b8s l).toArray 5)) := by
  have ht : Try.prog.underlying 22 = some (.slice 5) := Try.underlying22
  obtain ⟨l, hl⟩ := digits_b8s (grownCap w n 0 5) ((Question.extern "internal/bytealg.MakeNoZero.bytes" 0).cut (w.tape (w.drawn + 1) (.extern "internal/bytealg.MakeNoZero.bytes" 0))) #[] ⟨[], rfl⟩
  have hdef : Extern.BytealgMakeNoZero.makeNoZero #[3] #[22] #[.int .i64 n] =
      (do
        let .slice elem ← underlying 22 | stuck "bytealg.MakeNoZero: slice type expected"
        if (n : Int) < 0 || (n : Int) > 2 ^ 48 then runtimePanic (.error "makeslice: len out of range")
        let cap ← choose (.appendCap (n : Int).toNat 0 elem)
        askRoom cap
        let bytes ← choose (.extern "internal/bytealg.MakeNoZero.bytes" 0)
        let a ← newRow elem (Extern.BytealgMakeNoZero.digits cap bytes #[])
        pure (.slice (some a) (n : Int).toNat cap)) := rfl
  have hsz : (b8s l).toArray.size = grownCap w n 0 5 := by rw [← hl, Lib.size_digits]; simp
  have hll : l.length = grownCap w n 0 5 := by rw [← hsz, List.size_toArray, b8s_length]
  refine ⟨l, by rw [hll]; exact grownCap_ge w n 0 _, ?_⟩
  rw [run_callFunc_extern Try.func73 (by kernel_rfl) (by kernel_rfl) (by kernel_rfl) (e := Extern.BytealgMakeNoZero.makeNoZero #[3] #[22]) (by kernel_rfl), hdef, ← hl, hll]
  have h1 : ¬ (n : Int) < 0 := by omega
  have h2 : ¬ (281474976710656 : Int) < (n : Int) := by omega
  simp [run_underlying ht, h1, h2, Question.forced, newRow, Lib.size_digits, grownCap, Result.andThen]
/-- The first n bytes are x. -/
def fillN (x : Int) (l : List Int) (n : Nat) : List Int := List.replicate n x ++ l.drop n
theorem fillN_length {x : Int} {l : List Int} {n : Nat} (h : n ≤ l.length) : (fillN x l n).length = l.length := by
  simp [fillN]; omega
theorem fillN_zero (x : Int) (l : List Int) : fillN x l 0 = l := by simp [fillN]
theorem fillN_splice {x : Int} {l : List Int} {n m : Nat} (h : n + m ≤ l.length) : splice (b8s (fillN x l n)) n (b8s (List.replicate m x)) = b8s (fillN x l (n + m)) := by
  have e : l.drop n = (l.drop n).take m ++ l.drop (n + m) := by rw [← List.drop_drop, List.take_append_drop]
  unfold fillN
  rw [e, b8s_append, b8s_append, splice_mid _ _ _ _ (by rw [b8s_length, List.length_replicate]) (by rw [b8s_length, b8s_length, List.length_replicate, List.length_take, List.length_drop]; omega), ← b8s_append, ← b8s_append, ← List.append_assoc, List.replicate_append_replicate]
theorem fillN_take {x : Int} {l : List Int} {n m : Nat} (h : m ≤ n) : ((b8s (fillN x l n)).drop 0).take (b8s (List.replicate m x)).length = b8s (List.replicate m x) := by
  rw [List.drop_zero, b8s_length, List.length_replicate]
  unfold b8s fillN
  rw [← List.map_take, List.take_append_of_le_length (by rw [List.length_replicate]; exact h), List.take_replicate, Nat.min_eq_left h]
set_option maxHeartbeats 2000000 in
set_option maxRecDepth 100000 in
theorem repeat_ok (E : Env) (q : HP) (A : Option Addr) (x : Int) (c : Nat) (w : World) (hq : ∀ w, Sat E w q → Cells w A (b8s [x])) (hw : Sat E w q) :
    Calls Try.prog 59 #[.slice A 1 c, .int .i64 128] w fun e w' => ∃ g, e = .returned (.slice (some ⟨g, 0, none⟩) 128 128) ∧ Sat E w' (HP.row 5 1 (.slice (some ⟨g, 0, none⟩) 128 128) 128 (b8s (List.replicate 128 x)) * q) := by
  have HQ := Aside.mk (And.intro hq hw)
  clear hq hw
  go_enter Try.func59, Try.ntmps59
  go_wp2_with fail
  refine (mul_one _).mono ?_
  rintro e w' ⟨rfl, rfl⟩
  obtain ⟨l, hl, hc0⟩ := no_zero 128 w' (by omega)
  have hc : (callFunc 73 #[.int .i64 128]).run Try.prog w' = .ok (.value (.slice (some ⟨w'.heap.size, 0, none⟩) 128 l.length)) (w'.drew.drew.alloc (.cells (b8s l).toArray 5)) := hc0
  have hl2 : (128 : Int) ≤ (l.length : Int) := by omega
  have h0 : Sat E (w'.drew.drew.alloc (.cells (b8s l).toArray 5)) (HP.pt w'.heap.size (.cells (b8s (fillN x l 0)).toArray 5) * q) := by
    rw [fillN_zero]
    exact HQ.out.2.drew.drew.alloc _
  have H0 := Aside.mk h0
  clear hc0 h0
  have HL := Aside.mk hl
  go_wp2_with (first
    | (refine wpList_copy_pt (o := ⟨some 60, _, _, _, _, _⟩) Try.underlying22 (by kernel_rfl) rfl rfl rfl rfl H0.out (m := 1) (src := [x]) rfl (by omega) (by rw [fillN_zero]; have := HL.out; omega) (HQ.out.1 _ H0.out.right) (fun w2 hw2 => ?_); have H1 := Aside.mk hw2; clear hw2 H0)
    | fail)
  have H2 := Aside.mk (show Sat E w2 (HP.pt w'.heap.size (.cells (b8s (fillN x l 1)).toArray 5) * q) from by
    have h := H1.out
    rw [show [x] = List.replicate 1 x from rfl, fillN_splice (by have := HL.out; omega)] at h
    exact h)
  clear H1
  go_loopw [10] (fun v10 wr => ∃ p : Nat, (∃ j : Nat, j ≤ 7 ∧ p = 2 ^ j) ∧ v10 = .int .i64 p ∧ Aside (Sat E wr (HP.pt w'.heap.size (.cells (b8s (fillN x l p)).toArray 5) * q))) (fun i _ => 128 - (intOf i).toNat)
  case atStart => exact ⟨1, ⟨0, by omega, rfl⟩, rfl, H2⟩
  case round =>
    clear H2
    obtain ⟨p, ⟨j, hj, hp⟩, rfl, HS⟩ := hrel
    have hp1 : 1 ≤ p := by rw [hp]; exact Nat.one_le_two_pow
    by_cases hlt : p < 128
    · have hj7 : j < 7 := by
        rcases Nat.lt_or_ge j 7 with h | h
        · exact h
        · obtain rfl : j = 7 := by omega
          omega
      have h64 : p ≤ 64 := by
        rw [hp]
        exact Nat.pow_le_pow_right (by omega) (by omega : j ≤ 6)
      have hlt2 : (p : Int) < 128 := by omega
      have hle2 : (p : Int) ≤ 128 := by omega
      have hne2 : ¬ 128 = p := by omega
      have hll := HL.out
      have HP := Aside.mk hp
      clear hp
      go_wp2
      refine region_R [7] [] (fun _ => True) #[false, false, false, false, false, false, false, false, false, false] (by kernel_rfl) rfl rfl ?_
      refine wpR_pu 0 #[true, false, false, false, false, false, false, false, false, false] rfl onlyN_noPanic (by kernel_rfl) (fun K hK => ?_); (go_simp; try go_bits); refine hK _ ?_; clear hK K
      refine wpR_rd 1 #[true, true, false, false, false, false, false, false, false, false] rfl onlyN_noPanic (by kernel_rfl) (fun K hK => ?_); (go_simp; try go_bits); refine hK _ ?_; clear hK K
      refine wpR_rd 2 #[true, true, true, false, false, false, false, false, false, false] rfl onlyN_noPanic (by kernel_rfl) (fun K hK => ?_); (go_simp; try go_bits); refine hK _ ?_; clear hK K
      refine wpR_rd 3 #[true, true, true, true, false, false, false, false, false, false] rfl onlyN_noPanic (by kernel_rfl) (fun K hK => ?_); (go_simp; try go_bits); refine hK _ ?_; clear hK K
      refine wpR_rd 4 #[true, true, true, true, true, false, false, false, false, false] rfl onlyN_noPanic (by kernel_rfl) (fun K hK => ?_); (go_simp; try go_bits); refine hK _ ?_; clear hK K
      refine wpR_rd 5 #[true, true, true, true, true, true, false, false, false, false] rfl onlyN_noPanic (by kernel_rfl) (fun K hK => ?_); (go_simp; try go_bits); refine hK _ ?_; clear hK K
      refine wpR_rd 6 #[true, true, true, true, true, true, true, false, false, false] rfl onlyN_noPanic (by kernel_rfl) (fun K hK => ?_); (go_simp; try go_bits); refine hK _ ?_; clear hK K
      refine wpR_eff #[true, true, true, true, true, true, true, true, false, false] (i := 7) rfl (by kernel_rfl) (fun K hK => ?_)
      refine Eq.mpr (if_pos (by rfl)) ?_
      refine wp_copy_pt (some 74) rfl Try.underlying22 (by kernel_rfl) rfl rfl rfl HS.out.drew (m := p) (src := List.replicate p x) List.length_replicate (by omega) (by rw [fillN_length (by omega)]; omega) (Sat.ptCells (off := 0) HS.out.drew (fillN_take (Nat.le_refl _))) (fun w3 hw3 => ?_)
      rw [fillN_splice (by omega)] at hw3
      have H3 := Aside.mk hw3
      clear hw3 HS
      refine hK _ _ ?_
      clear hK K
      go_simp
      refine wpR_rd 8 #[true, true, true, true, true, true, true, true, true, false] rfl onlyN_noPanic (by kernel_rfl) (fun K hK => ?_); (go_simp; try go_bits); refine hK _ ?_; clear hK K
      refine wpR_rd 9 #[true, true, true, true, true, true, true, true, true, true] rfl onlyN_noPanic (by kernel_rfl) (fun K hK => ?_); (go_simp; try go_bits); refine hK _ ?_; clear hK K
      refine wpR_done (by kernel_rfl) ?_ _
      simp only [OnlyN]
      go_wp2
      go_roundw
      case rel => exact ⟨p + p, ⟨j + 1, by omega, by rw [Nat.pow_succ]; have := HP.out; omega⟩, by push_cast; rfl, H3⟩
      case measure => simp [intOf]; omega
    · obtain rfl : j = 7 := by
        rcases Nat.lt_or_ge j 7 with h | h
        · have : p ≤ 64 := by
            rw [hp]
            exact Nat.pow_le_pow_right (by omega) (by omega : j ≤ 6)
          omega
        · omega
      obtain rfl : p = 128 := hp
      go_wp2
      go_ret
      refine ⟨_, rfl, ?_⟩
      exact HS.out.row_mk (off := 0) (n := 128) (Nat.le_refl _) (by unfold maxLen; omega) (by rw [List.size_toArray, b8s_length, fillN_length HL.out]; have := HL.out; omega) (by
        have h := fillN_take (x := x) (l := l) (Nat.le_refl 128)
        rw [b8s_length, List.length_replicate] at h
        exact h)
end Go.Proofs.Ytjlfhfknnpjikaa
/- awake of layer 3: what was synced is read behind a crash. -/
namespace Go.Proofs.Ytjlfhfknnpjikaa
open Go.RowKit HP
set_option linter.unusedSimpArgs false
set_option linter.unusedVariables false

def aS : ByteArray := ⟨#[97]⟩
theorem aS_named : namedB aS = true := by kernel_rfl
def sevens : List Int := List.replicate 128 7
theorem sevens_length : sevens.length = 128 := List.length_replicate
def aA : Dk := (Dk.new 3).set aS [Cel.zero.wrote sevens]
def aB : Dk := ⟨3, -1, [(aS, [⟨sevens, sevens, sevens, sevens, false⟩])]⟩
theorem aw1 : (Dk.new 3).write aS 0 sevens = (0, aA) := write_first aS_named sevens_length rfl (by show (0 : Int) < 3; omega) rfl
theorem aw2 : aA.sync aS = (0, aB) := by
  have := sync_some (A := aA) (s := aS) (l := [Cel.zero.wrote sevens]) (by simp [aA, Dk.set, Dk.new, putF, lk_cons]) rfl
  rw [this]; rfl
theorem aw3 : aB.crash [] = aB := rfl
theorem aw4 : aB.cel aS 0 = some ⟨sevens, sevens, sevens, sevens, false⟩ := by simp [aB, Dk.cel, Dk.at, lk_cons]
set_option maxHeartbeats 4000000 in
set_option maxRecDepth 100000 in
theorem awake3_ok (E : Env) (q : HP) (w : World) (hw : Sat E w q) :
    Calls Try.prog 31 #[] w fun e w' => e = .returned (.bool true) ∧ Sat E w' q := by
  have HQ := Aside.mk hw
  clear hw
  go_enter Try.func31, Try.ntmps31
  go_wp2_with fail
  refine (disk_new_ok E q 3 _ ⟨by omega, by omega⟩ HQ.out).mono ?_
  rintro e w1 ⟨d, rfl, h1⟩
  have H1 := Aside.mk h1
  clear h1
  go_wp2_with fail
  refine (repeat_ok E _ (some ⟨w1.heap.size, 0, none⟩) 7 1 _ (fun w h => Sat.ptCells (off := 0) (L := b8s [7]) h rfl) (H1.out.alloc (.cells (b8s [7]).toArray 5))).mono ?_
  rintro e w2 ⟨g, rfl, h2⟩
  have H2 : Aside (Sat E w2 (HP.disk d (Dk.new 3) * (HP.row 5 1 (.slice (some ⟨g, 0, none⟩) 128 128) 128 (b8s sevens) * q))) := ⟨(h2.perm (by ac_rfl : _ = HP.pt w1.heap.size (.cells (b8s [7]).toArray 5) * (HP.disk d (Dk.new 3) * (HP.row 5 1 (.slice (some ⟨g, 0, none⟩) 128 128) 128 (b8s (List.replicate 128 7)) * q)))).right⟩
  clear h2 H1
  have HB : Aside (Bytes sevens) := ⟨fun x hx => by have := List.eq_of_mem_replicate hx; omega⟩
  go_wp2_with fail
  refine (disk_write E _ d (Dk.new 3) aS 0 (some ⟨g, 0, none⟩) sevens 128 128 _ (by decide) sevens_length (by unfold maxLen; omega) (fun w h => h.row_cells) H2.out).mono ?_
  rw [aw1]
  rintro e w3 ⟨rfl, h3⟩
  have H3 := Aside.mk h3
  clear h3 H2
  go_wp2_with fail
  refine (disk_sync E _ d _ aS _ (by decide) H3.out).mono ?_
  rw [aw2]
  rintro e w4 ⟨rfl, h4⟩
  have H4 := Aside.mk h4
  clear h4 H3
  go_wp2_with fail
  refine (disk_crash E _ d aB none [] 0 _ (by decide) (by simp) (fun E w _ => Cells.nil _ _) H4.out).mono ?_
  rw [aw3]
  rintro e w5 ⟨rfl, h5⟩
  have H5 := Aside.mk h5
  clear h5 H4
  go_wp2_with fail
  refine (disk_read_ok E _ d aB aS 0 _ (by decide) H5.out).mono ?_
  rw [aw4]
  rintro e w6 ⟨vR, rfl, h6⟩
  obtain ⟨AR, cR, rfl, hcR, -⟩ := h6.row_slice
  have H6 := Aside.mk h6
  clear h6 H5
  go_wp2_with fail
  refine (bytesEq_ok AR (some ⟨g, 0, none⟩) sevens sevens 128 128 cR 128 _ sevens_length sevens_length H6.out.row_cells H6.out.right.right.row_cells HB.out HB.out).mono ?_
  rintro e w7 ⟨rfl, rfl⟩
  rw [decide_eq_true rfl]
  go_wp2
  go_ret
  exact ⟨rfl, H6.out.right.right.right⟩
end Go.Proofs.Ytjlfhfknnpjikaa
