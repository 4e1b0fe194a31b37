/- Bytes: compared, made, copied; a step's own bytes. -/
import Derived.Test.YtgdcdcacccaanaaCrashB
import Derived.Test.YtgdcdcacccaanaaRd
import Derived.Laws.BytesString
import Derived.Laws.MakeOwn
import Derived.WideShapes
namespace Go.Proofs.Ytgdcdcacccaanaa
open Go.RowKit HP
set_option linter.unusedSimpArgs false
set_option linter.unusedVariables false

def Bytes (l : List Int) : Prop := ∀ x ∈ l, 0 ≤ x ∧ x ≤ 255
def strOf (l : List Int) : ByteArray := l.foldl (fun r n => r.push (UInt8.ofNat n.toNat)) ByteArray.empty
theorem strOf_go (l : List Int) : ∀ b : ByteArray, (l.foldl (fun r n => r.push (UInt8.ofNat n.toNat)) b).data.toList = b.data.toList ++ l.map fun n => UInt8.ofNat n.toNat := by
  induction l with
  | nil => intro b; simp
  | cons n l ih => intro b; rw [List.foldl_cons, ih]; simp [ByteArray.push]
theorem strOf_data (l : List Int) : (strOf l).data.toList = l.map fun n => UInt8.ofNat n.toNat := by
  rw [strOf, strOf_go]; rfl
theorem strOf_inj {a b : List Int} (ha : Bytes a) (hb : Bytes b) (h : strOf a = strOf b) : a = b := by
  have h1 : (a.map fun n => UInt8.ofNat n.toNat) = b.map fun n => UInt8.ofNat n.toNat := by rw [← strOf_data, ← strOf_data, h]
  have key : ∀ l : List Int, Bytes l → ((l.map fun n => UInt8.ofNat n.toNat).map fun u => (u.toNat : Int)) = l := by
    intro l hl
    rw [List.map_map]
    conv => rhs; rw [← List.map_id l]
    apply List.map_congr_left
    intro x hx
    have := hl x hx
    simp only [Function.comp_apply, id, UInt8.toNat_ofNat']
    omega
  rw [← key a ha, ← key b hb, h1]
theorem run_string {P : Program} {w : World} {src dst e : TypeId} {A : Option Addr} {l : List Int} {c : Nat} (hs : P.underlying src = some (.slice e)) (he : P.underlying e = some (.int .u8)) (hd : P.underlying dst = some .string)
    (h : Cells w A (b8s l)) : (convert src dst (.slice A l.length c)).run P w = .ok (.string (strOf l)) w := by
  rw [run_convert_bytes_string w src dst e A l.length c hs he hd]
  cases A with
  | none =>
    cases l with
    | nil => simp [Conv.bytesToString, strOf, Sem.run_pure]
    | cons x l =>
      obtain ⟨a, ha, _⟩ := h.at_ 0 (by simp [b8s])
      cases ha
  | some a =>
    refine run_bytesToString w a l.length c l ?_
    have := run_loadCells_list (P := P) (w := w) a (b8s l) (fun j u hj => h.some_ j u hj)
    simpa [b8s] using this

set_option maxHeartbeats 1000000 in
set_option maxRecDepth 100000 in
theorem bytesEqual_ok (A0 A1 : Option Addr) (l0 l1 : List Int) (c0 c1 : Nat) (w : World) (h0 : Cells w A0 (b8s l0)) (h1 : Cells w A1 (b8s l1)) (b0 : Bytes l0) (b1 : Bytes l1) :
    Calls Try.prog 17 #[.slice A0 l0.length c0, .slice A1 l1.length c1] w fun e w' => e = .returned (.bool (decide (l0 = l1))) ∧ w' = w := by
  have e0 := run_string (P := Try.prog) (c := c0) Try.underlying22 Try.underlying5 Try.underlying9 h0
  have e1 := run_string (P := Try.prog) (c := c1) Try.underlying22 Try.underlying5 Try.underlying9 h1
  have hd : ((strOf l0).toList == (strOf l1).toList) = decide (l0 = l1) := by
    rw [ByteArray.toList_eq, ByteArray.toList_eq]
    by_cases h : l0 = l1
    · simp [h]
    · have : ¬ (strOf l0).data.toList = (strOf l1).data.toList := fun h2 => h (strOf_inj b0 b1 (Go.WideShapes.bytes_inj h2))
      have h3 : ¬ (strOf l0).data = (strOf l1).data := fun h2 => this (by rw [h2])
      simp [h, h3]
  have HD := Aside.mk hd
  clear hd h0 h1
  go_enter Try.func17, Try.ntmps17
  go_wp2
  go_ret
  exact ⟨ret_bool HD.out, rfl⟩

theorem bytesEq_ok (A0 A1 : Option Addr) (l0 l1 : List Int) (n0 n1 c0 c1 : Nat) (w : World) (e0 : l0.length = n0) (e1 : l1.length = n1) (h0 : Cells w A0 (b8s l0)) (h1 : Cells w A1 (b8s l1)) (b0 : Bytes l0) (b1 : Bytes l1) :
    Calls Try.prog 17 #[.slice A0 n0 c0, .slice A1 n1 c1] w fun e w' => e = .returned (.bool (decide (l0 = l1))) ∧ w' = w := by
  subst e0
  subst e1
  exact bytesEqual_ok A0 A1 l0 l1 c0 c1 w h0 h1 b0 b1
theorem made_one (z : Value) (n : Nat) (h : z.cells = #[z]) : (madeCells z.cells n).toList = List.replicate n z := by
  rw [h]
  apply List.ext_getElem
  · simp [madeCells]
  · intro i h1 h2
    have e1 : i % 1 = 0 := Nat.mod_one i
    simp [madeCells, e1]
/-- 'make([]T, n)': a row of zeros. -/
theorem run_make_row {P : Program} {E : Env} {q : HP} {w : World} {t e : TypeId} {z : Value} {bytes : Nat} (T : SlTy P t e z 1 bytes) (hz1 : z.cells = #[z]) (h : Sat E w q) (n : Nat) (hn : n ≤ maxLen) (hb : n * bytes ≤ 140737488355328) (kl kc : IntKind) :
    ∃ w', (Instr.makeSlice t (.int kl n) (.int kc n)).run P w = .ok (.slice (some ⟨w.heap.size, 0, none⟩) n n) w' ∧ Sat E w' (HP.row e 1 (.slice (some ⟨w.heap.size, 0, none⟩) n n) n (List.replicate n z) * q) := by
  obtain ⟨i, hi, hz, hsize, hby⟩ := info_parts T.info
  have hn' : (n : Int) ≤ 9223372036854775807 := by unfold maxLen at hn; omega
  have hr := run_make (P := P) w t e i z T.under hi hz kl kc n n (by omega) (Int.le_refl _) (by rw [hby]; have : ((bytes * n : Nat) : Int) ≤ 140737488355328 := by rw [Nat.mul_comm]; omega
                                                                                                rw [Int.natCast_mul] at this; omega) hn'
  simp only [Int.toNat_natCast, hsize, Nat.mul_one] at hr
  refine ⟨_, hr, ?_⟩
  have h1 := h.alloc (.cells (madeCells z.cells n) e)
  have h2 := Sat.row_mk (n := n) (cap := n) (off := 0) (size := 1) (cs := List.replicate n z) h1 (Nat.le_refl _) hn (by simp [size_madeCells]) (by rw [made_one z n hz1]; simp)
  simpa using h2
/-- 'copy(dst, src)' into a row. -/
theorem run_copy_sat {P : Program} {E : Env} {q : HP} {w : World} {dT sT ty e : TypeId} {dA : Option Addr} {n c : Nat} {cs : List Value} (hu : P.underlying dT = some (.slice e)) (hs : (P.info? e).map (·.size) = some 1) (h : Sat E w (HP.row e 1 (.slice dA n c) n cs * q))
    {A : Option Addr} {m k : Nat} {src : List Value} (hm : src.length = m) (hsrc : Cells w A src) (h1 : src.all Value.oneCell' = true) :
    ∃ w', (Builtin.copy_ #[dT, sT] ty #[.slice dA n c, .slice A m k]).run P w = .ok (goInt (Nat.min m n)) w' ∧ Sat E w' (HP.row e 1 (.slice dA n c) n (src.take n ++ cs.drop m) * q) := by
  have hcl := h.row_cases.1
  rw [Nat.mul_one] at hcl
  obtain ⟨i, hi⟩ : ∃ i, P.info? e = some i := by
    cases hq : P.info? e with
    | none => simp [hq] at hs
    | some i => exact ⟨i, rfl⟩
  have hi1 : i.size = 1 := by simpa [hi] using hs
  rcases h.row_cases.2 with ⟨A', hv, hn, hq⟩ | ⟨g, off, cap, cur, hv, hnc, hcm, hsz, htk, hp⟩
  · cases hv
    have hz : cs = [] := List.eq_nil_of_length_eq_zero (by omega)
    subst hz
    refine ⟨w, ?_, by simpa using h⟩
    have hmin : Nat.min m 0 = 0 := Nat.min_zero m
    cases A with
    | none => cases dA <;> simp [Builtin.copy_, run_underlying hu, Builtin.lenOf, Builtin.firstCells, sizeOf, typeInfo, hi, hi1, hmin, storeCells, loadCells, loadCellsFrom]
    | some a => cases dA <;> simp [Builtin.copy_, run_underlying hu, Builtin.lenOf, Builtin.firstCells, sizeOf, typeInfo, hi, hi1, hmin, storeCells, loadCells, loadCellsFrom]
  · cases hv
    rw [Nat.mul_one] at *
    simp only [Nat.mul_one] at hsz htk
    cases A with
    | none =>
      have hs0 : src = [] := by
        cases src with
        | nil => rfl
        | cons x l => obtain ⟨a, ha, _⟩ := hsrc.at_ 0 (by simp); cases ha
      subst hs0
      obtain rfl : m = 0 := by simpa using hm.symm
      refine ⟨w, ?_, by simpa using h⟩
      have hmin : Nat.min 0 n = 0 := Nat.zero_min n
      simp [Builtin.copy_, run_underlying hu, Builtin.lenOf, Builtin.firstCells, sizeOf, typeInfo, hi, hi1, hmin, storeCells, loadCells, loadCellsFrom]
    | some a =>
      have hlt : (src.take n).length = Nat.min m n := by rw [List.length_take, hm, Nat.min_comm]
      have hle : (src.take n).length ≤ n := by rw [List.length_take]; omega
      have hr := run_copy_row (P := P) w dT sT ty e g off n c a m k cur e (src.take n) hu hs hp.get hlt (fun j u hj => (hsrc.take n).some_ j u hj) (by omega) (fun v hv => List.all_eq_true.1 h1 v (List.mem_of_mem_take hv))
      refine ⟨w.setRow g (splice cur.toList off (src.take n)).toArray, by rw [← hlt]; exact hr, ?_⟩
      have h2 := hp.splice (splice cur.toList off (src.take n))
      have hcur : cur.toList.length = cur.size := Array.length_toList
      have hlen : (splice cur.toList off (src.take n)).length = cur.size := by
        unfold splice
        simp only [List.length_append, List.length_take, List.length_drop, Array.length_toList]
        rw [List.length_take] at hle
        omega
      have h3 := Sat.row_mk (n := n) (cap := c) (off := off) (size := 1) (cs := src.take n ++ cs.drop m) h2 hnc hcm (by rw [List.size_toArray, hlen]; omega) (by
        rw [Nat.mul_one, Nat.mul_one]
        show ((splice cur.toList off (src.take n)).drop off).take n = _
        unfold splice
        rw [List.append_assoc, List.drop_append_of_le_length (by rw [List.length_take]; omega), List.drop_take, Nat.sub_self, List.take_zero, List.nil_append]
        rw [List.take_append]
        congr 1
        · rw [List.take_of_length_le hle]
        · rw [← htk, List.drop_take, List.drop_drop]
          by_cases hmn : m ≤ n
          · rw [List.length_take, Nat.min_eq_right (by omega), hm]
          · have e1 : (src.take n).length = n := by rw [List.length_take]; omega
            rw [e1, Nat.sub_self, List.take_zero, show n - m = 0 by omega, List.take_zero])
      rw [Nat.mul_one] at h3
      exact h3

/-- What was read as a step. -/
structure StepV where
  op : Int
  i : Int
  at_ : Int
  n : Int
  name : ByteArray
  b : Sl Int
  mask : Int
  kept : Sl Kep
def rdKep : Rd Kep := rdMap (rdPair rdStr (rdPair (rdInt .i64) (rdPair (rdInt .i64) rdEnd))) (fun x => (⟨x.1, x.2.1, x.2.2.1⟩ : Kep)) (fun k => (k.name, k.index, k.bytes, ())) (fun a => rfl)
theorem rdKep_at : rdKep.At Try.prog 37 :=
  rdStruct_at Try.underlying37 (total := 1 + (1 + (1 + 0))) (by kernel_rfl) (rdPair_fs rfl (by kernel_rfl) (rdStr_at Try.underlying9) (rdPair_fs rfl (by kernel_rfl) (rdInt_at Try.underlying3) (rdPair_fs rfl (by kernel_rfl) (rdInt_at Try.underlying3) (rdEnd_fs _)))) _ _ _
def rdStep : Rd StepV := rdMap (rdPair (rdInt .i64) (rdPair (rdInt .i64) (rdPair (rdInt .i64) (rdPair (rdInt .i64) (rdPair rdStr (rdPair (rdSl (rdInt .u8)) (rdPair (rdInt .u8) (rdPair (rdSl rdKep) rdEnd))))))))
  (fun x => (⟨x.1, x.2.1, x.2.2.1, x.2.2.2.1, x.2.2.2.2.1, x.2.2.2.2.2.1, x.2.2.2.2.2.2.1, x.2.2.2.2.2.2.2.1⟩ : StepV)) (fun s => (s.op, s.i, s.at_, s.n, s.name, s.b, s.mask, s.kept, ())) (fun a => rfl)
theorem rdStep_at : rdStep.At Try.prog 32 :=
  rdStruct_at Try.underlying32 (total := 1 + (1 + (1 + (1 + (1 + (1 + (1 + (1 + 0)))))))) (by kernel_rfl) (rdPair_fs rfl (by kernel_rfl) (rdInt_at Try.underlying3) (rdPair_fs rfl (by kernel_rfl) (rdInt_at Try.underlying3) (rdPair_fs rfl (by kernel_rfl) (rdInt_at Try.underlying3) (rdPair_fs rfl (by kernel_rfl) (rdInt_at Try.underlying3)
    (rdPair_fs rfl (by kernel_rfl) (rdStr_at Try.underlying9) (rdPair_fs rfl (by kernel_rfl) (rdSl_at (n := 1) Try.underlying22 (by kernel_rfl) (rdInt_at Try.underlying5)) (rdPair_fs rfl (by kernel_rfl) (rdInt_at Try.underlying5) (rdPair_fs rfl (by kernel_rfl) (rdSl_at (n := 3) Try.underlying30 (by kernel_rfl) rdKep_at) (rdEnd_fs _))))))))) _ _ _
def StepV.vals (s : StepV) : List Value := [.int .i64 s.op, .int .i64 s.i, .int .i64 s.at_, .int .i64 s.n, .string s.name, s.b.val, .int .u8 s.mask, s.kept.val]
theorem StepV.cells_eq (s : StepV) : rdStep.cells s = s.vals := rfl
structure StepV.Ok (W : World) (s : StepV) : Prop where
  op : wf64 s.op
  i : wf64 s.i
  at_ : wf64 s.at_
  n : wf64 s.n
  name : s.name.size ≤ maxLen
  mask : 0 ≤ s.mask ∧ s.mask ≤ 255
  b : s.b.l.length ≤ s.b.cap ∧ s.b.cap ≤ maxLen ∧ Cells W s.b.A (b8s s.b.l) ∧ Bytes s.b.l
  kept : s.kept.l.length ≤ s.kept.cap ∧ s.kept.cap ≤ maxLen ∧ Cells W s.kept.A (kepCells s.kept.l) ∧ ∀ k ∈ s.kept.l, k.name.size ≤ maxLen ∧ wf64 k.index ∧ wf64 k.bytes
theorem wf64_of {i : Int} (h : (Lit.int .i64 i).wf = true) : wf64 i := by
  simp [Lit.wf, IntKind.min, IntKind.max, IntKind.signed, IntKind.bits] at h
  unfold wf64
  omega
theorem byte_of {i : Int} (h : (Lit.int .u8 i).wf = true) : 0 ≤ i ∧ i ≤ 255 := by
  simp [Lit.wf, IntKind.min, IntKind.max, IntKind.signed, IntKind.bits] at h
  omega
theorem int_cells (k : IntKind) (l : List Int) : l.flatMap (rdInt k).cells = l.map (Value.int k) := by
  induction l with
  | nil => rfl
  | cons x l ih => rw [List.flatMap_cons, ih]; rfl
theorem bytes_ok {W : World} {s : Sl Int} (h : (rdSl (rdInt .u8)).ok W s) : s.l.length ≤ s.cap ∧ s.cap ≤ maxLen ∧ Cells W s.A (b8s s.l) ∧ Bytes s.l := by
  obtain ⟨h1, h2, h3, h4⟩ := h
  rw [int_cells] at h3
  exact ⟨h1, h2, h3, fun x hx => byte_of (h4 x hx)⟩
theorem kept_ok {W : World} {s : Sl Kep} (h : (rdSl rdKep).ok W s) : s.l.length ≤ s.cap ∧ s.cap ≤ maxLen ∧ Cells W s.A (kepCells s.l) ∧ ∀ k ∈ s.l, k.name.size ≤ maxLen ∧ wf64 k.index ∧ wf64 k.bytes := by
  obtain ⟨h1, h2, h3, h4⟩ := h
  refine ⟨h1, h2, h3, fun k hk => ?_⟩
  obtain ⟨a, b, c, -⟩ := h4 k hk
  exact ⟨a, wf64_of b, wf64_of c⟩
theorem step_ok {W : World} {s : StepV} (h : rdStep.ok W s) : s.Ok W := by
  obtain ⟨h1, h2, h3, h4, h5, h6, h7, h8, -⟩ := h
  exact ⟨wf64_of h1, wf64_of h2, wf64_of h3, wf64_of h4, h5, byte_of h7, bytes_ok h6, kept_ok h8⟩
/-- A step's bytes, as many as an extent has. -/
def fullOf (b : List Int) : List Int := b.take 128 ++ z128.drop b.length
theorem fullOf_length (b : List Int) : (fullOf b).length = 128 := by
  unfold fullOf z128
  simp only [List.length_append, List.length_take, List.length_drop, List.length_replicate]
  omega
theorem z128_bytes : Bytes z128 := fun x hx => by
  have := List.eq_of_mem_replicate hx
  omega
theorem fullOf_bytes {b : List Int} (h : Bytes b) : Bytes (fullOf b) := fun x hx => by
  rcases List.mem_append.1 hx with hx | hx
  · exact h x (List.mem_of_mem_take hx)
  · exact z128_bytes x (List.mem_of_mem_drop hx)
theorem full_cells (b : List Int) : (b8s b).take 128 ++ (List.replicate 128 (Value.int .u8 0)).drop b.length = b8s (fullOf b) := by
  unfold fullOf b8s z128
  rw [List.map_append, List.map_take, List.map_drop, List.map_replicate]
theorem wpList_make_row {P : Program} {E : Env} {q : HP} {ops : Array Oper} {rest : List Oper} {o : Oper} {a : Act} {w : World} {Q : Exit → Act → World → Prop} {t e : TypeId} {z : Value} {bytes : Nat} {x y : Operand} (T : SlTy P t e z 1 bytes) (hz1 : z.cells = #[z]) (hg : o.guard = none) (ho : o.op = .makeSlice t x y) {n : Nat} {kl kc : IntKind} (hx : a.eval x = .int kl n) (hy : a.eval y = .int kc n)
    (h : Sat E w q) (hn : n ≤ maxLen) (hb : n * bytes ≤ 140737488355328)
    (hk : ∀ (g : Nat) (w' : World), Sat E w' (HP.row e 1 (.slice (some ⟨g, 0, none⟩) n n) n (List.replicate n z) * q) → wpList P ops Q rest (a.put o.dst (.slice (some ⟨g, 0, none⟩) n n)) w') : wpList P ops Q (o :: rest) a w := by
  obtain ⟨w', hr, h2⟩ := run_make_row T hz1 h n hn hb kl kc
  refine wpList_plain hg fun K hK => ?_
  unfold Oper.wp execOp
  simp only [ho, hx, hy, Sem.run_bind, hr, Result.andThen_ok]
  exact hK _ _ (hk _ w' h2)
theorem wpList_copy_sat {P : Program} {E : Env} {q : HP} {ops : Array Oper} {rest : List Oper} {o : Oper} {a : Act} {w : World} {Q : Exit → Act → World → Prop} {dT sT e : TypeId} {x y : Operand} {dA : Option Addr} {n c : Nat} {cs : List Value} (hu : P.underlying dT = some (.slice e)) (hs : (P.info? e).map (·.size) = some 1) (hg : o.guard = none) (ho : o.op = .call { callee := .builtin .copy, args := #[x, y], argTypes := #[dT, sT] })
    {A : Option Addr} {m k : Nat} {src : List Value} (hx : a.eval x = .slice dA n c) (hy : a.eval y = .slice A m k) (h : Sat E w (HP.row e 1 (.slice dA n c) n cs * q)) (hm : src.length = m) (hsrc : Cells w A src) (h1 : src.all Value.oneCell' = true)
    (hk : ∀ w', Sat E w' (HP.row e 1 (.slice dA n c) n (src.take n ++ cs.drop m) * q) → wpList P ops Q rest (a.put o.dst (goInt (Nat.min m n))) w') : wpList P ops Q (o :: rest) a w := by
  obtain ⟨w', hr, h2⟩ := run_copy_sat (sT := sT) (ty := o.type) (k := k) hu hs h hm hsrc h1
  refine wpList_plain hg fun K hK => ?_
  exact wp_copy_run ho hx hy hr (hK _ _ (hk w' h2))
theorem wp_make_row {P : Program} {E : Env} {q : HP} {o : Oper} {a : Act} {w : World} {K : Act → World → Prop} {Q : Exit → Act → World → Prop} {t e : TypeId} {z : Value} {bytes : Nat} {x y : Operand} (T : SlTy P t e z 1 bytes) (hz1 : z.cells = #[z]) (ho : o.op = .makeSlice t x y) {n : Nat} {kl kc : IntKind} (hx : a.eval x = .int kl n) (hy : a.eval y = .int kc n)
    (h : Sat E w q) (hn : n ≤ maxLen) (hb : n * bytes ≤ 140737488355328)
    (hk : ∀ (g : Nat) (w' : World), Sat E w' (HP.row e 1 (.slice (some ⟨g, 0, none⟩) n n) n (List.replicate n z) * q) → K (a.put o.dst (.slice (some ⟨g, 0, none⟩) n n)) w') : o.wp P a w K Q := by
  obtain ⟨w', hr, h2⟩ := run_make_row T hz1 h n hn hb kl kc
  unfold Oper.wp execOp
  simp only [ho, hx, hy, Sem.run_bind, hr, Result.andThen_ok]
  exact hk _ w' h2
set_option maxHeartbeats 1000000 in
set_option maxRecDepth 100000 in
theorem full_ok (E : Env) (q : HP) (s : StepV) (w : World) (hl : s.b.l.length ≤ s.b.cap) (hq : ∀ E w, Sat E w q → Cells w s.b.A (b8s s.b.l)) (hw : Sat E w q) :
    Calls Try.prog 14 #[.agg s.vals.toArray] w fun e w' => ∃ g, e = .returned (.slice (some ⟨g, 0, none⟩) 128 128) ∧ Sat E w' (HP.row 5 1 (.slice (some ⟨g, 0, none⟩) 128 128) 128 (b8s (fullOf s.b.l)) * q) := by
  unfold StepV.vals Sl.val
  go_enter Try.func14, Try.ntmps14
  have h1 := hw.alloc (.cells #[.int .i64 s.op, .int .i64 s.i, .int .i64 s.at_, .int .i64 s.n, .string s.name, .slice s.b.A s.b.l.length s.b.cap, .int .u8 s.mask, .slice s.kept.A s.kept.l.length s.kept.cap] 32)
  have HH := Aside.mk (And.intro h1 (And.intro hl hq))
  clear hw h1 hl hq
  go_wp2_with (first
    | (refine wpList_make_row (n := 128) slB8 rfl rfl rfl rfl rfl HH.out.1 (by unfold maxLen; omega) (by omega) (fun g w2 hw2 => ?_); have g5 := (hw2.s2).cell 5; simp only [List.getElem?_toArray, List.getElem?_cons_zero, List.getElem?_cons_succ] at g5; have HW2 := Aside.mk hw2; clear hw2)
    | (at_builtin; fail)
    | (refine wpList_copy_sat Try.underlying22 (by kernel_rfl) rfl rfl rfl rfl HW2.out (b8s_length _) (HH.out.2.2 _ _ HW2.out.right.right) (b8s_one _) (fun w3 hw3 => ?_); have HW3 := Aside.mk hw3; clear hw3))
  go_ret
  refine ⟨g, rfl, ?_⟩
  have h9 := HW3.out.drop2
  rw [full_cells] at h9
  exact h9
end Go.Proofs.Ytgdcdcacccaanaa
