/- Texts of one claim, one behind the other: ExtA, ExtB, ExtF, ArrEq, ExtO, DiskM, DiskRm, Nones, PairA, PairW, PairG, ExtP, FreshP, HeldP, ConcA, SameT, Laid, Tied. -/
import Derived.Test.YthifabopnabjoaaDoorWz4
import Derived.Laws.IdiomStrings
import Derived.Laws.StructEq
import Derived.ChangeKeysEq
import Derived.LaidMore
import Derived.Stop.Joined
/- Extents: the bytes; copying into an array of one's own; a string's bytes. -/
namespace Go.Proofs.YthifabopnabjoaaDoor
open Go.RowKit HP
set_option linter.unusedSimpArgs false
set_option linter.unusedVariables false

/-- A text's bytes. -/
def strB (s : ByteArray) : List Int := s.data.toList.map fun b => (b.toNat : Int)
theorem strB_length (s : ByteArray) : (strB s).length = s.size := by
  unfold strB
  rw [List.length_map, Array.length_toList]
  rfl
theorem strB_bytes (s : ByteArray) : Bytes (strB s) := fun x hx => by
  obtain ⟨b, _, rfl⟩ := List.mem_map.1 hx
  have := b.toNat_lt
  omega
theorem z_bytes (n : Nat) : Bytes (List.replicate n 0) := fun x hx => by
  have := List.eq_of_mem_replicate hx
  omega
theorem Bytes.append {a b : List Int} (ha : Bytes a) (hb : Bytes b) : Bytes (a ++ b) := fun x hx => by
  rcases List.mem_append.1 hx with h | h
  · exact ha x h
  · exact hb x h
/-- An extent's bytes without the sum. -/
def extH (name : ByteArray) (index gen : Nat) (p : List Int) : List Int :=
  [229] ++ putI (crcSum (strB name)) 4 ++ putI index 4 ++ putI gen 8 ++ [(p.length : Int)] ++ p ++ List.replicate (106 - p.length) 0
def extI (name : ByteArray) (index gen : Nat) (p : List Int) : List Int := extH name index gen p ++ putI (crcSum (extH name index gen p)) 4
theorem extH_length {name : ByteArray} {index gen : Nat} {p : List Int} (h : p.length ≤ 106) : (extH name index gen p).length = 124 := by
  simp only [extH, List.length_append, List.length_cons, List.length_nil, putI_length, List.length_replicate]
  omega
theorem extI_length {name : ByteArray} {index gen : Nat} {p : List Int} (h : p.length ≤ 106) : (extI name index gen p).length = 128 := by
  rw [extI, List.length_append, extH_length h, putI_length]
theorem extH_bytes {name : ByteArray} {index gen : Nat} {p : List Int} (h : p.length ≤ 106) (hp : Bytes p) : Bytes (extH name index gen p) := by
  unfold extH
  refine ((((((Bytes.append ?_ (putI_bytes _ _)).append (putI_bytes _ _)).append (putI_bytes _ _)).append ?_).append hp).append (z_bytes _))
  · intro x hx; simp at hx; omega
  · intro x hx; simp at hx; omega
theorem extI_bytes {name : ByteArray} {index gen : Nat} {p : List Int} (h : p.length ≤ 106) (hp : Bytes p) : Bytes (extI name index gen p) := (extH_bytes h hp).append (putI_bytes _ _)

theorem zero_at {a : List Int} {n off : Nat} (ho : off = a.length) : (b8s (a ++ List.replicate (n + 1) 0)).toArray[off]? = some (.int .u8 0) := by
  subst ho
  simp [b8s]
theorem set_zero {a : List Int} {n off : Nat} {x : Int} (ho : off = a.length) : (b8s (a ++ List.replicate (n + 1) 0)).toArray.setIfInBounds off (.int .u8 x) = (b8s (a ++ [x] ++ List.replicate n 0)).toArray := by
  subst ho
  rw [List.setIfInBounds_toArray]
  congr 1
  unfold b8s
  rw [← List.map_set, List.replicate_succ, List.set_append_right _ _ (Nat.le_refl _), Nat.sub_self, List.set_cons_zero, List.append_assoc]
  rfl
theorem crc_sum_n (A : Option Addr) (l : List Int) (n c : Nat) (w : World) (hln : l.length = n) (hq : Quarter w) (hl : n ≤ maxLen) (hb : Bytes l) (hc : Cells w A (b8s l)) :
    Calls Tryd.prog 44 #[.slice A n c] w fun e w' => e = .returned (.int .u32 (crcSum l)) ∧ w' = w := by
  subst hln
  exact crc_sum A l c w hq hl hb hc
theorem b8s_append (a b : List Int) : b8s (a ++ b) = b8s a ++ b8s b := by unfold b8s; rw [List.map_append]
/-- What is copied to the front of the zeros. -/
theorem splice_zero {a c : List Int} {n off : Nat} (ho : off = a.length) (hc : c.length ≤ n) : splice (b8s (a ++ List.replicate n 0)) off (b8s c) = b8s (a ++ c ++ List.replicate (n - c.length) 0) := by
  have e : List.replicate n (0 : Int) = List.replicate c.length 0 ++ List.replicate (n - c.length) 0 := by rw [List.replicate_append_replicate, Nat.add_sub_cancel' hc]
  rw [e, b8s_append, b8s_append, splice_mid _ _ _ _ (by rw [b8s_length, ho]) (by rw [b8s_length, b8s_length, List.length_replicate]), b8s_append, b8s_append, List.append_assoc]

section
variable {P : Program} {E : Env} {q : HP} {w : World}
theorem Sat.ptCells {g : Nat} {t : TypeId} {L : List Value} {fr : Nat × Nat} (h : Sat E w (HP.pt g (.cells L.toArray t fr) * q)) {off : Nat} {l : List Value} (hs : (L.drop off).take l.length = l) : Cells w (some ⟨g, off, none⟩) l := fun j u hj => by
  refine ⟨_, rfl, ?_⟩
  rw [addr_add, h.cell]
  have hjl : j < l.length := (List.getElem?_eq_some_iff.1 hj).1
  rw [← hs, List.getElem?_take_of_lt hjl, List.getElem?_drop] at hj
  simpa using hj
/-- 'copy(x[off:], src)', x an array of one's own. -/
theorem run_copy_pt {dT sT ty e t : TypeId} {g off n c m k : Nat} {A : Option Addr} {L src : List Int} (hu : P.underlying dT = some (.slice e)) (hs : (P.info? e).map (·.size) = some 1) (h : Sat E w (HP.pt g (.cells (b8s L).toArray t) * q))
    (hm : src.length = m) (hmn : m ≤ n) (hfit : off + m ≤ L.length) (hsrc : Cells w A (b8s src)) :
    ∃ w', (Builtin.copy_ #[dT, sT] ty #[.slice (some ⟨g, off, none⟩) n c, .slice A m k]).run P w = .ok (goInt m) w' ∧ Sat E w' (HP.pt g (.cells (splice (b8s L) off (b8s src)).toArray t) * q) := by
  obtain ⟨i, hi⟩ : ∃ i, P.info? e = some i := by
    cases hq : P.info? e with
    | none => simp [hq] at hs
    | some i => exact ⟨i, rfl⟩
  have hi1 : i.size = 1 := by simpa [hi] using hs
  cases A with
  | none =>
    have hs0 : src = [] := by
      cases src with
      | nil => rfl
      | cons x l => obtain ⟨a, ha, _⟩ := hsrc.at_ 0 (by simp [b8s]); cases ha
    subst hs0
    obtain rfl : m = 0 := by simpa using hm.symm
    refine ⟨w, ?_, ?_⟩
    · have hmin : Nat.min 0 n = 0 := Nat.zero_min n
      simp [Builtin.copy_, run_underlying hu, Builtin.lenOf, Builtin.firstCells, sizeOf, typeInfo, hi, hi1, hmin, storeCells, loadCells, loadCellsFrom]
    · have e0 : splice (b8s L) off (b8s []) = b8s L := by simp [splice, b8s]
      rw [e0]; exact h
  | some a =>
    have hr := run_copy_row (P := P) w dT sT ty e g off n c a m k _ t (b8s src) hu hs h.get (by rw [b8s_length, hm]; exact (Nat.min_eq_left hmn).symm) (fun j u hj => hsrc.some_ j u hj) (by rw [b8s_length, hm, List.size_toArray, b8s_length]; exact hfit) (fun v hv => List.all_eq_true.1 (b8s_one src) v hv)
    rw [b8s_length, hm] at hr
    refine ⟨_, hr, ?_⟩
    have h2 := h.splice (splice (b8s L) off (b8s src))
    unfold splice at h2
    rw [b8s_length, hm] at h2
    unfold splice
    rw [b8s_length, hm]
    exact h2
theorem wpList_copy_pt {ops : Array Oper} {rest : List Oper} {o : Oper} {a : Act} {Q : Exit → Act → World → Prop} {x y : Operand} {dT sT e t : TypeId} {g off n c m k : Nat} {A : Option Addr} {L src : List Int} (hu : P.underlying dT = some (.slice e)) (hs : (P.info? e).map (·.size) = some 1)
    (hg : o.guard = none) (ho : o.op = .call { callee := .builtin .copy, args := #[x, y], argTypes := #[dT, sT] }) (hx : a.eval x = .slice (some ⟨g, off, none⟩) n c) (hy : a.eval y = .slice A m k) (h : Sat E w (HP.pt g (.cells (b8s L).toArray t) * q))
    (hm : src.length = m) (hmn : m ≤ n) (hfit : off + m ≤ L.length) (hsrc : Cells w A (b8s src))
    (hk : ∀ w', Sat E w' (HP.pt g (.cells (splice (b8s L) off (b8s src)).toArray t) * q) → wpList P ops Q rest (a.put o.dst (goInt m)) w') : wpList P ops Q (o :: rest) a w := by
  obtain ⟨w', hr, h2⟩ := run_copy_pt (sT := sT) (ty := o.type) (k := k) (c := c) hu hs h hm hmn hfit hsrc
  refine wpList_plain hg fun K hK => ?_
  exact wp_copy_run ho hx hy hr (hK _ _ (hk w' h2))
theorem wp_copy_pt (dn : Option Nat) {o : Oper} {a : Act} {K : Act → World → Prop} {Q : Exit → Act → World → Prop} {x y : Operand} {dT sT e t : TypeId} {g off n c m k : Nat} {A : Option Addr} {L src : List Int} (hd : o.dst = dn) (hu : P.underlying dT = some (.slice e)) (hs : (P.info? e).map (·.size) = some 1)
    (ho : o.op = .call { callee := .builtin .copy, args := #[x, y], argTypes := #[dT, sT] }) (hx : a.eval x = .slice (some ⟨g, off, none⟩) n c) (hy : a.eval y = .slice A m k) (h : Sat E w (HP.pt g (.cells (b8s L).toArray t) * q))
    (hm : src.length = m) (hmn : m ≤ n) (hfit : off + m ≤ L.length) (hsrc : Cells w A (b8s src))
    (hk : ∀ w', Sat E w' (HP.pt g (.cells (splice (b8s L) off (b8s src)).toArray t) * q) → K (a.put dn (goInt m)) w') : o.wp P a w K Q := by
  subst hd
  obtain ⟨w', hr, h2⟩ := run_copy_pt (sT := sT) (ty := o.type) (k := k) (c := c) hu hs h hm hmn hfit hsrc
  exact wp_copy_run ho hx hy hr (hk w' h2)
/-- '[]byte(s)'. -/
theorem run_str_bytes {src dst e : TypeId} (hs : P.underlying src = some .string) (hd : P.underlying dst = some (.slice e)) (he : P.underlying e = some (.int .u8)) (s : ByteArray) (h : Sat E w q) :
    ∃ g cap w', (convert src dst (.string s)).run P w = .ok (.slice (some ⟨g, 0, none⟩) s.size cap) w' ∧ Sat E w' q ∧ Cells w' (some ⟨g, 0, none⟩) (b8s (strB s)) := by
  refine ⟨_, _, _, run_bytes_of_string w src dst e s hs hd he, ?_, ?_⟩
  · exact (h.drew.alloc _).right
  · have h1 := h.drew.alloc (.cells (bytesRow s (grownCap w s.size 0 e)) e ((bytesRow s (grownCap w s.size 0 e)).size, (bytesRow s (grownCap w s.size 0 e)).size + 1))
    have e1 : bytesRow s (grownCap w s.size 0 e) = (b8s (strB s) ++ List.replicate (grownCap w s.size 0 e - s.size) (Value.int .u8 0)).toArray := by
      apply Array.toList_inj.1
      simp [bytesRow, b8s, strB]
    have h2 := h1
    rw [e1] at h2
    have h3 := Sat.ptCells (off := 0) (l := b8s (strB s)) h2 (by simp)
    rw [← e1] at h3
    exact h3
theorem wp_value_run {o : Oper} {a : Act} {w' : World} {K : Act → World → Prop} {Q : Exit → Act → World → Prop} {v : Value} (hr : (execOp a.eval o).run P w = .ok (.value v) w') (hk : K (a.put o.dst v) w') : o.wp P a w K Q := by
  unfold Oper.wp
  rw [hr]
  exact hk
theorem exec_convert {o : Oper} {a : Act} {w' : World} {s d : TypeId} {x : Operand} {v V : Value} (ho : o.op = .convert s d x) (hx : a.eval x = v) (hr : (convert s d v).run P w = .ok V w') : (execOp a.eval o).run P w = .ok (.value V) w' := by
  unfold execOp
  rw [ho]
  simp only [hx, Sem.run_bind, hr, Result.andThen_ok]
  rfl
end
end Go.Proofs.YthifabopnabjoaaDoor
/- extent.build. -/
namespace Go.Proofs.YthifabopnabjoaaDoor
open Go.RowKit HP
set_option linter.unusedSimpArgs false
set_option linter.unusedVariables false

theorem results_cell {P : Program} {fn : Func} {t : Tmp} {ty : TypeId} (h : fn.results = #[.cell t ty]) {tmps : Array Value} {w : World} {a : Addr} {V : Value} (ha : tmps.getD t undef = .pointer (some a)) (hr : (loadVar ty a).run P w = .ok V w) : (results fn tmps).run P w = .ok V w := by
  have ha' : tmps[t]?.getD undef = .pointer (some a) := by simpa using ha
  unfold results
  rw [h]
  simp [ha', asAddr, hr]
theorem agExt : AgTy Tryd.prog 83 128 := ⟨⟨_, Tryd.underlying83, rfl⟩, by kernel_rfl⟩
theorem zero_ext : (b8s (List.replicate 128 0)).toArray = Tryd.zeroCells83 := by kernel_rfl
theorem zero_ext1 : Tryd.zeroCells83.setIfInBounds 0 (.int .u8 229) = (b8s ([229] ++ List.replicate 127 0)).toArray := by kernel_rfl
set_option maxHeartbeats 2000000 in
set_option maxRecDepth 100000 in
theorem ext_build (E : Env) (q : HP) (name : ByteArray) (index gen : Nat) (A : Option Addr) (p : List Int) (n c : Nat) (w : World) (hname : name.size ≤ maxLen) (hi : index < 4294967296) (hg : gen < 18446744073709551616) (hpn : p.length = n) (hn : n ≤ 106) (hp : Bytes p)
    (hq : ∀ w, Sat E w q → Quarter w ∧ Cells w A (b8s p)) (hw : Sat E w q) :
    Calls Tryd.prog 35 #[.string name, .int .i64 index, .int .i64 gen, .slice A n c] w fun e w' => e = .returned (.agg (b8s (extI name index gen p)).toArray) ∧ Sat E w' q := by
  have h0 := (hw.alloc (.cells Tryd.zeroCells83 83)).alloc (.cells (Tryd.zeroCells83.setIfInBounds 0 (.int .u8 229)) 83)
  rw [show (w.alloc (.cells Tryd.zeroCells83 83)).heap.size = w.heap.size + 1 by simp, zero_ext1] at h0
  have HQ := Aside.mk (And.intro hq (And.intro hp hpn))
  clear hq hw hp hpn
  go_enter Tryd.func35, Tryd.ntmps35
  go_wp2
  rw [zero_ext1]
  generalize World.alloc (World.alloc w _) _ = w1 at *
  generalize w.heap.size + 1 = g at *
  generalize w.heap.size = g0 at *
  refine region_R [2, 3, 5, 6] [] (fun _ => True) #[false, false, false, false, false, false, false] (by kernel_rfl) rfl rfl ?_
  refine wpR_pu 0 #[true, false, false, false, false, false, false] rfl onlyN_noPanic (by kernel_rfl) (fun K hK => ?_); (go_simp; try go_bits); refine hK _ ?_; clear hK K
  refine wpR_rd 1 #[true, true, false, false, false, false, false] rfl onlyN_noPanic (by kernel_rfl) (fun K hK => ?_); (go_simp; try go_bits); refine hK _ ?_; clear hK K
  refine wpR_eff #[true, true, true, false, false, false, false] (i := 2) rfl (by kernel_rfl) (fun K hK => ?_)
  obtain ⟨gs, cs, w2, hr2, h2, c2⟩ := run_str_bytes (dst := 22) Tryd.underlying9 Tryd.underlying22 Tryd.underlying5 name h0.drew
  refine Eq.mpr (if_pos (by rfl)) ?_
  refine wp_value_run (exec_convert rfl rfl hr2) ?_
  simp only [Act.put, List.setIfInBounds_toArray, List.set_cons_zero, List.set_cons_succ]
  refine hK _ _ ?_; clear hK K hr2
  refine wpR_eff #[true, true, true, true, false, false, false] (i := 3) rfl (by kernel_rfl) (fun K hK => ?_)
  go_simp
  refine (crc_sum_n _ (strB name) name.size cs w2 (strB_length _) (HQ.out.1 _ h2.right.right).1 hname (strB_bytes _) c2).mono ?_
  rintro e w3 ⟨rfl, rfl⟩
  obtain ⟨S, hS⟩ : ∃ S, S = crcSum (strB name) := ⟨_, rfl⟩
  have hS4 : S < 4294967296 := by rw [hS]; exact crcSum_lt (strB_bytes _)
  rw [← hS]
  have HS := Aside.mk hS
  clear hS
  refine hK _ _ ?_; clear hK K c2
  refine wpR_rd 4 #[true, true, true, true, true, false, false] rfl onlyN_noPanic (by kernel_rfl) (fun K hK => ?_); (go_simp; try go_bits); refine hK _ ?_; clear hK K
  refine wpR_eff #[true, true, true, true, true, true, false] (i := 5) rfl (by kernel_rfl) (fun K hK => ?_)
  go_simp
  refine (crc_put E _ S 4 w3 (by omega) (by omega) h2).mono ?_
  rintro e w4 ⟨gp, rfl, h4⟩
  refine hK _ _ ?_; clear hK K h2
  refine wpR_eff #[true, true, true, true, true, true, true] (i := 6) rfl (by kernel_rfl) (fun K hK => ?_)
  refine Eq.mpr (if_pos (by rfl)) ?_
  refine wp_copy_pt (some 17) (L := [229] ++ List.replicate 127 0) (src := putI S 4) rfl slB8.under (by kernel_rfl) rfl rfl rfl h4.s2 (putI_length _ _) (by omega) (by decide) h4.row_cells (fun w5 h5 => ?_)
  rw [splice_zero (a := [229]) (off := 1) (c := putI S 4) (n := 127) rfl (by rw [putI_length]; omega), putI_length] at h5
  have h5 := h5.drop2
  simp only [Act.put, List.setIfInBounds_toArray, List.set_cons_zero, List.set_cons_succ]
  refine hK _ _ ?_; clear hK K h4
  refine wpR_done (by kernel_rfl) ?_ _
  simp only [OnlyN]
  go_wp2
  refine region_R [3, 4] [] (fun _ => True) #[false, false, false, false, false] (by kernel_rfl) rfl rfl ?_
  refine wpR_pu 0 #[true, false, false, false, false] rfl onlyN_noPanic (by kernel_rfl) (fun K hK => ?_); (go_simp; try go_bits); refine hK _ ?_; clear hK K
  refine wpR_rd 1 #[true, true, false, false, false] rfl onlyN_noPanic (by kernel_rfl) (fun K hK => ?_); (go_simp; try go_bits); refine hK _ ?_; clear hK K
  refine wpR_rd 2 #[true, true, true, false, false] rfl onlyN_noPanic (by kernel_rfl) (fun K hK => ?_); (go_simp; try go_bits); refine hK _ ?_; clear hK K
  refine wpR_eff #[true, true, true, true, false] (i := 3) rfl (by kernel_rfl) (fun K hK => ?_)
  go_simp
  refine (crc_put E _ index 4 _ (by omega) (by omega) (h5.drew)).mono ?_
  rintro e w6 ⟨gp5, rfl, h6⟩
  refine hK _ _ ?_; clear hK K h5
  refine wpR_eff #[true, true, true, true, true] (i := 4) rfl (by kernel_rfl) (fun K hK => ?_)
  refine Eq.mpr (if_pos (by rfl)) ?_
  refine wp_copy_pt (some 22) (L := [229] ++ putI S 4 ++ List.replicate 123 0) (src := putI index 4) rfl slB8.under (by kernel_rfl) rfl rfl rfl h6.s2 (putI_length _ _) (by omega) (by simp [putI_length]) h6.row_cells (fun w7 h7 => ?_)
  rw [splice_zero (a := [229] ++ putI S 4) (off := 5) (c := putI index 4) (n := 123) (by simp [putI_length]) (by rw [putI_length]; omega), putI_length] at h7
  have h7 := h7.drop2
  simp only [Act.put, List.setIfInBounds_toArray, List.set_cons_zero, List.set_cons_succ]
  refine hK _ _ ?_; clear hK K h6
  refine wpR_done (by kernel_rfl) ?_ _
  simp only [OnlyN]
  go_wp2
  refine region_R [3, 4] [] (fun _ => True) #[false, false, false, false, false] (by kernel_rfl) rfl rfl ?_
  refine wpR_pu 0 #[true, false, false, false, false] rfl onlyN_noPanic (by kernel_rfl) (fun K hK => ?_); (go_simp; try go_bits); refine hK _ ?_; clear hK K
  refine wpR_rd 1 #[true, true, false, false, false] rfl onlyN_noPanic (by kernel_rfl) (fun K hK => ?_); (go_simp; try go_bits); refine hK _ ?_; clear hK K
  refine wpR_rd 2 #[true, true, true, false, false] rfl onlyN_noPanic (by kernel_rfl) (fun K hK => ?_); (go_simp; try go_bits); refine hK _ ?_; clear hK K
  refine wpR_eff #[true, true, true, true, false] (i := 3) rfl (by kernel_rfl) (fun K hK => ?_)
  go_simp
  refine (crc_put E _ gen 8 _ (by omega) (by omega) (h7.drew)).mono ?_
  rintro e w8 ⟨gp7, rfl, h8⟩
  refine hK _ _ ?_; clear hK K h7
  refine wpR_eff #[true, true, true, true, true] (i := 4) rfl (by kernel_rfl) (fun K hK => ?_)
  refine Eq.mpr (if_pos (by rfl)) ?_
  refine wp_copy_pt (some 27) (L := [229] ++ putI S 4 ++ putI index 4 ++ List.replicate 119 0) (src := putI gen 8) rfl slB8.under (by kernel_rfl) rfl rfl rfl h8.s2 (putI_length _ _) (by omega) (by simp [putI_length]) h8.row_cells (fun w9 h9 => ?_)
  rw [splice_zero (a := [229] ++ putI S 4 ++ putI index 4) (off := 9) (c := putI gen 8) (n := 119) (by simp [putI_length]) (by rw [putI_length]; omega), putI_length] at h9
  have h9 := h9.drop2
  simp only [Act.put, List.setIfInBounds_toArray, List.set_cons_zero, List.set_cons_succ]
  refine hK _ _ ?_; clear hK K h8
  refine wpR_done (by kernel_rfl) ?_ _
  simp only [OnlyN]
  have hP3 : 17 = ([229] ++ putI S 4 ++ putI index 4 ++ putI gen 8).length := by simp [putI_length]
  have c17 := h9.cell 17
  rw [show 119 - 8 = 110 + 1 from rfl, zero_at hP3] at c17
  have f17 := h9.thaw 17
  have h10 := h9.set (i := 17) (.int .u8 (n : Int))
  rw [show 119 - 8 = 110 + 1 from rfl, set_zero hP3] at h10
  clear h9
  clear h9 hP3 h7 h5 h0
  go_wp2_with (first | (at_builtin; fail) | (refine wpList_copy_pt (L := [229] ++ putI S 4 ++ putI index 4 ++ putI gen 8 ++ [(n : Int)] ++ List.replicate 110 0) (src := p) slB8.under (by kernel_rfl) rfl rfl rfl rfl h10 HQ.out.2.2 (by omega) (by simp [putI_length]; omega) (HQ.out.1 _ h10.right.right).2 (fun w11 h11 => ?_); have H11 := Aside.mk h11; clear h11))
  have h11 := H11.out
  clear H11
  rw [splice_zero (a := [229] ++ putI S 4 ++ putI index 4 ++ putI gen 8 ++ [(n : Int)]) (off := 18) (c := p) (n := 110) (by simp [putI_length]) (by rw [HQ.out.2.2]; omega), HQ.out.2.2] at h11
  clear c17 f17 h10
  have hH : b8s ([229] ++ putI S 4 ++ putI index 4 ++ putI gen 8 ++ [(n : Int)] ++ p ++ List.replicate (110 - n) 0) = b8s (extH name index gen p ++ List.replicate 4 0) := by
    have e : List.replicate (110 - n) (0 : Int) = List.replicate (106 - n) 0 ++ List.replicate 4 0 := by
      rw [List.replicate_append_replicate]
      congr 1
      omega
    rw [e]
    unfold extH
    rw [HS.out, HQ.out.2.2]
    simp only [List.append_assoc]
  rw [hH] at h11
  have hpl : p.length ≤ 106 := by rw [HQ.out.2.2]; exact hn
  have hHl := extH_length (name := name) (index := index) (gen := gen) hpl
  have hHb := extH_bytes (name := name) (index := index) (gen := gen) hpl HQ.out.2.1
  have HI : Aside (extI name index gen p = extH name index gen p ++ putI (crcSum (extH name index gen p)) 4) := ⟨rfl⟩
  obtain ⟨H, hHe⟩ : ∃ H, H = extH name index gen p := ⟨_, rfl⟩
  rw [← hHe] at h11 hHl hHb HI
  clear hH hpl hHe
  have HB := Aside.mk (And.intro hHl hHb)
  clear hHl hHb
  simp only [Act.put, List.setIfInBounds_toArray, List.set_cons_zero, List.set_cons_succ]
  refine region_R [2, 4, 5] [] (fun _ => True) #[false, false, false, false, false, false] (by kernel_rfl) rfl rfl ?_
  refine wpR_pu 0 #[true, false, false, false, false, false] rfl onlyN_noPanic (by kernel_rfl) (fun K hK => ?_); (go_simp; try go_bits); refine hK _ ?_; clear hK K
  refine wpR_rd 1 #[true, true, false, false, false, false] rfl onlyN_noPanic (by kernel_rfl) (fun K hK => ?_); (go_simp; try go_bits); refine hK _ ?_; clear hK K
  refine wpR_eff #[true, true, true, false, false, false] (i := 2) rfl (by kernel_rfl) (fun K hK => ?_)
  go_simp
  have h12 := h11.drew
  have c12 := Sat.ptCells (off := 0) (l := b8s H) h12 (by rw [List.drop_zero, b8s_append, List.take_left])
  refine (crc_sum_n _ H 124 128 _ HB.out.1 (HQ.out.1 _ h12.right.right).1 (by unfold maxLen; omega) HB.out.2 c12).mono ?_
  rintro e w12 ⟨rfl, rfl⟩
  obtain ⟨T, hT⟩ : ∃ T, T = crcSum H := ⟨_, rfl⟩
  have hT4 : T < 4294967296 := by rw [hT]; exact crcSum_lt HB.out.2
  rw [← hT] at HI ⊢
  clear hT c12
  refine hK _ _ ?_; clear hK K
  refine wpR_rd 3 #[true, true, true, true, false, false] rfl onlyN_noPanic (by kernel_rfl) (fun K hK => ?_); (go_simp; try go_bits); refine hK _ ?_; clear hK K
  refine wpR_eff #[true, true, true, true, true, false] (i := 4) rfl (by kernel_rfl) (fun K hK => ?_)
  go_simp
  refine (crc_put E _ T 4 _ (by omega) (by omega) h12).mono ?_
  rintro e w13 ⟨gp12, rfl, h13⟩
  refine hK _ _ ?_; clear hK K h12 h11
  refine wpR_eff #[true, true, true, true, true, true] (i := 5) rfl (by kernel_rfl) (fun K hK => ?_)
  refine Eq.mpr (if_pos (by rfl)) ?_
  refine wp_copy_pt (some 40) (L := H ++ List.replicate 4 0) (src := putI T 4) rfl slB8.under (by kernel_rfl) rfl rfl rfl h13.s2 (putI_length _ _) (by omega) (by rw [List.length_append, HB.out.1]; exact Nat.le_refl _) h13.row_cells (fun w14 h14 => ?_)
  rw [splice_zero (a := H) (off := 124) (c := putI T 4) (n := 4) HB.out.1.symm (by rw [putI_length]; omega), putI_length, Nat.sub_self, List.replicate_zero, List.append_nil, ← HI.out] at h14
  have h15 := h14.drop2
  clear h14
  simp only [Act.put, List.setIfInBounds_toArray, List.set_cons_zero, List.set_cons_succ]
  refine hK _ _ ?_; clear hK K h13
  refine wpR_done (by kernel_rfl) ?_ _
  simp only [OnlyN]
  have hIl : (extI name index gen p).length = 128 := extI_length (by rw [HQ.out.2.2]; exact hn)
  obtain ⟨I, hIe⟩ : ∃ I, I = extI name index gen p := ⟨_, rfl⟩
  rw [← hIe] at hIl h15
  have HI2 := Aside.mk hIl
  have HIe := Aside.mk hIe
  clear hIl HI hIe
  have r1 := run_loadAgg agExt (by rw [b8s_length]; exact HI2.out) (Sat.ptCells (off := 0) (l := b8s I) h15 (by rw [List.drop_zero, List.take_length]))
  have r2 := run_storeAgg agExt (g := g0) (off := 0) (cs := b8s I) h15.s2.get (by rw [b8s_length]; exact HI2.out) (by rw [← zero_ext]; simp [b8s_length]) (b8s_one I)
  have h16 := h15.s2.splice (splice Tryd.zeroCells83.toList 0 (b8s I))
  have e16 : splice Tryd.zeroCells83.toList 0 (b8s I) = b8s I := by
    rw [← zero_ext]
    unfold splice
    rw [List.take_zero, List.nil_append, Nat.zero_add, List.drop_of_length_le (by simp [b8s_length, HI2.out]), List.append_nil]
  rw [e16] at h16 r2
  have r3 := run_loadAgg agExt (by rw [b8s_length]; exact HI2.out) (Sat.ptCells (off := 0) (l := b8s I) h16 (by rw [List.drop_zero, List.take_length]))
  have H16 := Aside.mk h16
  clear h15 h16 e16
  generalize World.setRow w14 g0 (b8s I).toArray = w16 at *
  go_wp2_with (first | (refine wpList_load_run rfl rfl rfl r1 ?_) | (refine wpList_store_run rfl rfl rfl rfl rfl r2 ?_))
  simp only [Act.put, List.setIfInBounds_toArray, List.set_cons_zero, List.set_cons_succ]
  have r4 : (loadVar 83 ⟨g0, 0, none⟩).run Tryd.prog w16 = .ok (.agg (b8s (extI name index gen p)).toArray) w16 := by rw [← HIe.out]; exact r3
  exact ⟨rfl, _, results_cell (t := 8) (by kernel_rfl) rfl r4, rfl, H16.out.right.right⟩
end Go.Proofs.YthifabopnabjoaaDoor
/- extent.Frame. -/
namespace Go.Proofs.YthifabopnabjoaaDoor
open Go.RowKit HP
set_option linter.unusedSimpArgs false
set_option linter.unusedVariables false

def FrameOk (index gen : Int) (n : Nat) : Prop := 0 ≤ index ∧ index ≤ 2147483647 ∧ 0 ≤ gen ∧ gen ≤ 4611686018427387904 ∧ n ≤ 106
instance (index gen : Int) (n : Nat) : Decidable (FrameOk index gen n) := by unfold FrameOk; infer_instance
set_option maxHeartbeats 2000000 in
set_option maxRecDepth 100000 in
theorem ext_frame (E : Env) (q : HP) (name : ByteArray) (index gen : Nat) (A : Option Addr) (p : List Int) (n c : Nat) (w : World) (hname : name.size ≤ maxLen) (hi : (index : Int) ≤ 2147483647) (hg : (gen : Int) ≤ 4611686018427387904) (hpn : p.length = n) (hn : n ≤ 106) (hp : Bytes p)
    (hq : ∀ w, Sat E w q → Quarter w ∧ Cells w A (b8s p)) (hw : Sat E w q) :
    Calls Tryd.prog 24 #[.string name, .int .i64 index, .int .i64 gen, .slice A n c] w fun e w' => ∃ g, e = .returned (.tuple #[.slice (some ⟨g, 0, none⟩) 128 128, .int .i64 0]) ∧ Sat E w' (HP.pt g (.cells (b8s (extI name index gen p)).toArray 83) * q) := by
  have HQ := Aside.mk (And.intro hq (And.intro hp (And.intro hpn hw)))
  clear hq hw hp hpn
  have hn' : (n : Int) ≤ 106 := by omega
  go_enter Tryd.func24, Tryd.ntmps24
  go_wp2_with fail
  refine (ext_build E q name index gen A p n c w hname (by omega) (by omega) HQ.out.2.2.1 hn HQ.out.2.1 HQ.out.1 HQ.out.2.2.2).mono ?_
  rintro e w2 ⟨rfl, h2⟩
  have hIl : (extI name index gen p).length = 128 := extI_length (by rw [HQ.out.2.2.1]; exact hn)
  obtain ⟨I, hIe⟩ : ∃ I, I = extI name index gen p := ⟨_, rfl⟩
  rw [← hIe] at hIl ⊢
  have HI2 := Aside.mk hIl
  have HIe := Aside.mk hIe
  clear hIl hIe
  have h3 := h2.alloc (.cells Tryd.zeroCells83 83)
  have r2 := run_storeAgg agExt (g := w2.heap.size) (off := 0) (cs := b8s I) h3.get (by rw [b8s_length]; exact HI2.out) (by rw [← zero_ext]; simp [b8s_length]) (b8s_one I)
  have h4 := h3.splice (splice Tryd.zeroCells83.toList 0 (b8s I))
  have e4 : splice Tryd.zeroCells83.toList 0 (b8s I) = b8s I := by
    rw [← zero_ext]
    unfold splice
    rw [List.take_zero, List.nil_append, Nat.zero_add, List.drop_of_length_le (by simp [b8s_length, HI2.out]), List.append_nil]
  rw [e4] at h4 r2
  have H4 := Aside.mk h4
  clear h3 h4 e4 h2
  go_wp2_with (first | (refine wpList_store_run rfl rfl rfl rfl rfl r2 ?_))
  go_ret2
  rw [← HIe.out]
  exact ⟨_, rfl, H4.out⟩
set_option maxHeartbeats 2000000 in
set_option maxRecDepth 100000 in
theorem ext_frame_bad (name : ByteArray) (index gen : Int) (A : Option Addr) (n c : Nat) (w : World) (h : ¬ FrameOk index gen n) :
    Calls Tryd.prog 24 #[.string name, .int .i64 index, .int .i64 gen, .slice A n c] w fun e w' => e = .returned (.tuple #[.slice none 0 0, .int .i64 1]) ∧ w' = w := by
  have hb : index < 0 ∨ 2147483647 < index ∨ gen < 0 ∨ 4611686018427387904 < gen ∨ 106 < (n : Int) := by unfold FrameOk at h; omega
  clear h
  have key : ((((index < 0 ∨ 2147483647 < index) ∨ gen < 0) ∨ 4611686018427387904 < gen) ∨ 106 < (n : Int)) := by omega
  go_enter Tryd.func24, Tryd.ntmps24
  go_wp2
  all_goals (go_ret2; exact ⟨rfl, rfl⟩)
end Go.Proofs.YthifabopnabjoaaDoor
/- Arrays of bytes compared. -/
namespace Go.Proofs.YthifabopnabjoaaDoor
open Go.RowKit HP
set_option linter.unusedSimpArgs false
set_option linter.unusedVariables false

theorem run_forIn_all {P : Program} {w : World} {f : Nat → Sem Bool} {g : Nat → Bool} : ∀ (l : List Nat), (∀ i ∈ l, (f i).run P w = .ok (g i) w) →
    ((do for i in l do
           if !(← f i) then return false
         pure true) : Sem Bool).run P w = .ok (l.all g) w
  | [], _ => by simp
  | i :: l, h => by
    have h0 := h i (List.mem_cons_self ..)
    have ih := run_forIn_all l (fun j hj => h j (List.mem_cons_of_mem _ hj))
    simp only [List.forIn_cons, Sem.run_bind, h0, Result.andThen_ok] at ih ⊢
    cases hg : g i
    · simp [hg]
    · simp [hg] at ih ⊢
      exact ih
theorem run_equalIn_arr {P : Program} {w : World} {d n : Nat} {t e : TypeId} {k : IntKind} (ht : P.underlying t = some (.array n e)) (he : P.underlying e = some (.int k)) (hs : (P.info? e).map (·.size) = some 1) (hp : ∀ (xs : Array Value) (off : Nat) (v : Value), xs[off]? = some v → (part e xs off).run P w = .ok v w)
    (a b : List Int) (ha : a.length = n) (hb : b.length = n) :
    (Op.equalIn (d + 2) t (.agg (b8s a).toArray) (.agg (b8s b).toArray)).run P w = .ok (decide (a = b)) w := by
  have hsz : (Go.sizeOf e).run P w = .ok 1 w := by
    cases hq : P.info? e with
    | none => simp [hq] at hs
    | some i =>
      have hs : i.size = 1 := by simpa [hq] using hs
      simp [Go.sizeOf, typeInfo, hq, hs]
  have hall : ((List.range' 0 n).all fun i => a.getD i 0 == b.getD i 0) = decide (a = b) := by
    rw [Bool.eq_iff_iff]
    simp only [List.all_eq_true, List.mem_range'_1, beq_iff_eq, decide_eq_true_eq]
    constructor
    · intro h
      apply List.ext_getElem (by omega)
      intro i h1 h2
      have := h i (by omega)
      simpa [List.getD, h1, h2] using this
    · rintro rfl i _
      rfl
  rw [← hall]
  have key := run_forIn_all (P := P) (w := w) (f := fun i => do Op.equalIn (d + 1) e (← part e (b8s a).toArray (i * 1)) (← part e (b8s b).toArray (i * 1))) (g := fun i => a.getD i 0 == b.getD i 0) (List.range' 0 n) (by
    intro i hi
    simp only [List.mem_range'_1] at hi
    have h1 : i < a.length := by omega
    have h2 : i < b.length := by omega
    have p1 := hp (b8s a).toArray (i * 1) (.int .u8 (a.getD i 0)) (by simp [b8s, h1, List.getD])
    have p2 := hp (b8s b).toArray (i * 1) (.int .u8 (b.getD i 0)) (by simp [b8s, h2, List.getD])
    simp only [Sem.run_bind, p1, p2, Result.andThen_ok]
    exact run_equalIn_int w d e .u8 k _ _ he)
  unfold Op.equalIn
  simp only [Sem.run_bind, run_underlying ht, Result.andThen_ok, hsz]
  rw [Std.Legacy.Range.forIn_eq_forIn_range'] 
  simp only [Sem.run_bind, bind_assoc] at key ⊢
  have e0 : List.range' [:n].start [:n].size [:n].step = List.range' 0 n := by simp [Std.Legacy.Range.size]
  rw [e0]
  exact key

theorem run_neq_u8s {P : Program} {w : World} {n : Nat} {t e : TypeId} {k : IntKind} (ht : P.underlying t = some (.array n e)) (he : P.underlying e = some (.int k)) (hs : (P.info? e).map (·.size) = some 1) (hp : P.plainKey e = true)
    (a b : List Int) (ha : a.length = n) (hb : b.length = n) : (binOp .neq t (.agg (b8s a).toArray) (.agg (b8s b).toArray)).run P w = .ok (.bool (!(decide (a = b)))) w := by
  rw [run_neq_struct, run_equalIn_arr (d := 9998) ht he hs (fun xs off v h => run_part_plain w hp h) a b ha hb]
  rfl
theorem exec_binop {P : Program} {o : Oper} {a : Act} {w : World} {op : BinOp} {t ty : TypeId} {x y : Operand} {X Y V : Value} (ho : o.op = .binOp op t x y ty) (hx : a.eval x = X) (hy : a.eval y = Y) (hg : (eqGuard op t x y X Y).run P w = .ok () w) (hr : (binOp op t X Y).run P w = .ok V w) :
    (execOp a.eval o).run P w = .ok (.value V) w := by
  unfold execOp
  rw [ho]
  simp only [hx, hy, Sem.run_bind, hg, hr, Result.andThen_ok]
  rfl
end Go.Proofs.YthifabopnabjoaaDoor
/- extent.Open: what an extent holds. -/
namespace Go.Proofs.YthifabopnabjoaaDoor
open Go.RowKit HP
set_option linter.unusedSimpArgs false
set_option linter.unusedVariables false

/-- What bytes say as an extent of a file at an index; none: they are bad. -/
def openI (b : List Int) (name : ByteArray) (index : Int) : Option (List Int × Nat) :=
  if b.length ≠ 128 ∨ 106 < b.getD 17 0 ∨ index < 0 ∨ 2147483647 < index then none else
  if 4611686018427387904 < getN ((b.drop 9).take 8) then none else
  if extI name index.toNat (getN ((b.drop 9).take 8)) ((b.drop 18).take (b.getD 17 0).toNat) ≠ b then none else
  some ((b.drop 18).take (b.getD 17 0).toNat, getN ((b.drop 9).take 8))
theorem run_arrayExt (a : Option Addr) (n c : Nat) (h : 128 ≤ n) (w : World) : (Instr.arrayAt 83 (.slice a n c)).run Tryd.prog w = .ok (.pointer a) w := by
  have : ¬ n < 128 := by omega
  simp [Instr.arrayAt, run_underlying Tryd.underlying83, this]
set_option maxHeartbeats 2000000 in
set_option maxRecDepth 100000 in
theorem ext_open (E : Env) (q : HP) (name : ByteArray) (index : Int) (A : Option Addr) (b : List Int) (n c : Nat) (w : World) (hname : name.size ≤ maxLen) (hbn : b.length = n) (hnc : n ≤ c) (hb : Bytes b)
    (hq : ∀ w, Sat E w q → Quarter w ∧ Cells w A (b8s b)) (hw : Sat E w q) :
    Calls Tryd.prog 58 #[.slice A n c, .string name, .int .i64 index] w fun e w' =>
      (openI b name index = none ∧ e = .returned (.tuple #[.slice none 0 0, .int .i64 0, .int .i64 40]) ∧ Sat E w' q) ∨
      (∃ p gen v, openI b name index = some (p, gen) ∧ e = .returned (.tuple #[v, .int .i64 gen, .int .i64 0]) ∧ Sat E w' (HP.row 5 1 v p.length (b8s p) * q)) := by
  by_cases hlen : n = 128
  · subst hlen
    have hcw := (hq w hw).2
    obtain ⟨a, rfl, -⟩ := hcw.at_ 0 (by rw [b8s_length, hbn]; decide)
    obtain ⟨g, o, rfl⟩ := slice_addr hcw rfl (k := 0) (by rw [b8s_length, hbn]; decide)
    have g17 : b[17]? = some (b.getD 17 0) := by
      have : 17 < b.length := by omega
      simp [List.getD, this]
    have c17 : w.cell? ⟨g, o + 17, none⟩ = some (.int .u8 (b.getD 17 0)) := by
      have := hcw.some_ 17 (.int .u8 (b.getD 17 0)) (by unfold b8s; rw [List.getElem?_map, g17]; rfl)
      rw [addr_add] at this
      exact this
    have hx := hb _ (List.mem_of_getElem? g17)
    have HO : Aside (openI b name index = if b.length ≠ 128 ∨ 106 < b.getD 17 0 ∨ index < 0 ∨ 2147483647 < index then none else
        if 4611686018427387904 < getN ((b.drop 9).take 8) then none else
        if extI name index.toNat (getN ((b.drop 9).take 8)) ((b.drop 18).take (b.getD 17 0).toNat) ≠ b then none else
        some ((b.drop 18).take (b.getD 17 0).toNat, getN ((b.drop 9).take 8))) := ⟨rfl⟩
    obtain ⟨x, hxe⟩ : ∃ x : Nat, b.getD 17 0 = (x : Int) := ⟨(b.getD 17 0).toNat, by omega⟩
    rw [hxe] at c17 hx HO
    clear g17 hxe
    by_cases hbad : 106 < (x : Int) ∨ index < 0 ∨ 2147483647 < index
    · have HN : Aside (openI b name index = none ∧ Sat E w q) := ⟨by rw [HO.out, if_pos (.inr hbad)], hw⟩
      clear HO hw hq hcw hbn
      go_enter Tryd.func58, Tryd.ntmps58
      go_wp2
      all_goals (go_ret3; exact .inl ⟨HN.out.1, rfl, HN.out.2⟩)
    · have hx1 : ¬ 106 < (x : Int) := fun h => hbad (.inl h)
      have hi0 : ¬ index < 0 := fun h => hbad (.inr (.inl h))
      have hi2 : ¬ 2147483647 < index := fun h => hbad (.inr (.inr h))
      rw [if_neg (by rw [hbn]; intro h; rcases h with h | h; exact h rfl; exact hbad h), Int.toNat_natCast] at HO
      obtain ⟨ix, rfl⟩ := Int.eq_ofNat_of_zero_le (Int.not_lt.1 hi0)
      rw [Int.toNat_natCast] at HO
      have HQ := Aside.mk (And.intro hq (And.intro hw (And.intro hb hbn)))
      have cg : Cells w (some ⟨g, o + 9, none⟩) (b8s ((b.drop 9).take 8)) := by
        have := (hcw.drop 9).take 8
        rw [addr_add] at this
        unfold b8s at this ⊢
        rw [List.map_take, List.map_drop]
        exact this
      have CG := Aside.mk cg
      clear hbad hq hw hcw hbn cg hb
      go_enter Tryd.func58, Tryd.ntmps58
      go_wp2_with fail
      refine (crc_get (some ⟨g, o + 9, none⟩) ((b.drop 9).take 8) 8 (c - 9) w (by rw [List.length_take, List.length_drop, HQ.out.2.2.2]; rfl) (by decide) (by decide) (fun y hy => HQ.out.2.2.1 y (List.mem_of_mem_drop (List.mem_of_mem_take hy))) CG.out).mono ?_
      rintro e w1 ⟨rfl, rfl⟩
      clear CG
      generalize getN ((b.drop 9).take 8) = G at *
      by_cases hG : 4611686018427387904 < (G : Int)
      · have HN : Aside (openI b name ix = none ∧ Sat E w1 q) := ⟨by rw [HO.out, if_pos (by omega)], HQ.out.2.1⟩
        clear HO
        go_wp2
        go_ret3
        exact .inl ⟨HN.out.1, rfl, HN.out.2⟩
      · rw [if_neg (by omega)] at HO
        have c17a : (w1.alloc (.cells #[] 5)).cell? ⟨g, o + 17, none⟩ = some (.int .u8 (x : Int)) := by
          rw [World.cell?_of_block (w := w1) (heap_alloc_old w1 _ (World.block_lt_of_cell? w1 _ c17))]; exact c17
        have hpl : ((b.drop 18).take x).length = x := by rw [List.length_take, List.length_drop, HQ.out.2.2.2]; omega
        have cp : Cells w1 (some ⟨g, o + 18, none⟩) (b8s ((b.drop 18).take x)) := by
          have := (((HQ.out.1 _ HQ.out.2.1).2).drop 18).take x
          rw [addr_add] at this
          unfold b8s at this ⊢
          rw [List.map_take, List.map_drop]
          exact this
        have hpb : Bytes ((b.drop 18).take x) := fun y hy => HQ.out.2.2.1 y (List.mem_of_mem_drop (List.mem_of_mem_take hy))
        obtain ⟨p, hp⟩ : ∃ p, p = (b.drop 18).take x := ⟨_, rfl⟩
        rw [← hp] at HO hpl cp hpb
        have HP1 := Aside.mk (And.intro hpl (And.intro cp (And.intro hpb (show (b8s p).length = (18 + x - 18) * 1 by rw [b8s_length, hpl, Nat.mul_one]; omega))))
        clear hpl cp hpb hp
        go_wp2_with (at_builtin; go_loud (refine wpList_append_row slB8 rfl rfl (by rfl) (by rfl) (((HQ.out.2.1.alloc _).right).row_nil _ _ _) (HP1.out.2.1.alloc _) HP1.out.2.2.2 (b8s_one _) (by unfold maxLen; omega) (by omega) (fun v4 w4 hw4 => ?_); have HW4 := Aside.mk hw4; clear hw4))
        have hw4 : Sat E w4 (HP.row 5 1 v4 x (b8s p) * q) := by
          have := HW4.out
          rw [Nat.zero_add, List.nil_append, Nat.add_sub_cancel_left] at this
          exact this
        obtain ⟨A4, c4, rfl, -, -⟩ := hw4.row_slice
        have hT0 : (loadVar 83 ⟨g, o, none⟩).run Tryd.prog w4 = .ok (.agg (b8s b).toArray) w4 := run_loadAgg agExt (by rw [b8s_length]; exact HQ.out.2.2.2) (HQ.out.1 _ hw4.right).2
        have HW := Aside.mk hw4
        have ra : ∀ w, (Instr.arrayAt 83 (.slice (some ⟨g, o, none⟩) 128 c)).run Tryd.prog w = .ok (.pointer (some ⟨g, o, none⟩)) w := fun w => run_arrayExt _ 128 c (Nat.le_refl _) w
        clear HW4 hw4 c17 c17a
        refine region_R [5] [5] (fun w' => (loadVar 83 ⟨g, o, none⟩).run Tryd.prog w' = .ok (.agg (b8s b).toArray) w') #[false, false, false, false, false, false, false, false, false, false] (by kernel_rfl) rfl rfl ?_
        have hT1 : (loadVar 83 ⟨g, o, none⟩).run Tryd.prog w4.drew = .ok (.agg (b8s b).toArray) w4.drew := run_loadAgg agExt (by rw [b8s_length]; exact HQ.out.2.2.2) (HQ.out.1 _ HW.out.drew.right).2
        refine wpR_rd 0 #[true, false, false, false, false, false, false, false, false, false] rfl onlyN_noPanic (by kernel_rfl) (fun K hK => ?_); (go_simp; try go_bits); refine hK _ ?_; clear hK K
        refine wpR_rd 1 #[true, true, false, false, false, false, false, false, false, false] rfl onlyN_noPanic (by kernel_rfl) (fun K hK => ?_); (go_simp; try go_bits); refine hK _ ?_; clear hK K
        refine wpR_rd 2 #[true, true, true, false, false, false, false, false, false, false] rfl onlyN_noPanic (by kernel_rfl) (fun K hK => ?_); (go_simp; try go_bits); refine hK _ ?_; clear hK K
        refine wpR_rd 3 #[true, true, true, true, false, false, false, false, false, false] rfl onlyN_noPanic (by kernel_rfl) (fun K hK => ?_); (go_simp; try go_bits); refine hK _ ?_; clear hK K
        refine wpR_rd 4 #[true, true, true, true, true, false, false, false, false, false] rfl onlyN_noPanic (by kernel_rfl) (fun K hK => ?_); (go_simp; try go_bits); refine hK _ ?_; clear hK K
        refine wpR_pu 6 #[true, true, true, true, true, false, true, false, false, false] rfl onlyN_noPanic (by kernel_rfl) (fun K hK => ?_); (go_simp; try go_bits); refine hK _ ?_; clear hK K
        refine wpR_pu 7 #[true, true, true, true, true, false, true, true, false, false] rfl onlyN_noPanic (by kernel_rfl) (fun K hK => ?_); (go_simp; try go_bits); refine hK _ ?_; clear hK K
        refine wpR_held (i := 8) (v := .agg (b8s b).toArray) #[true, true, true, true, true, false, true, true, true, false] rfl onlyN_noPanic (by kernel_rfl) hT1 (.inl ⟨rfl, fun w' hT => exec_load rfl rfl hT⟩) ?_
        simp only [Act.put, List.setIfInBounds_toArray, List.set_cons_zero, List.set_cons_succ]
        refine wpR_keep #[true, true, true, true, true, true, true, true, true, false] (i := 5) rfl (by kernel_rfl) (fun K hK => ?_)
        go_simp
        refine (ext_build E _ name ix G A4 p x c4 _ hname (by omega) (by omega) HP1.out.1 (by omega) HP1.out.2.2.1 (fun w h => ⟨(HQ.out.1 _ h.right).1, h.row_cells⟩) HW.out.drew).mono ?_
        rintro e w5 ⟨rfl, h5⟩
        refine hK _ _ (run_loadAgg agExt (by rw [b8s_length]; exact HQ.out.2.2.2) (HQ.out.1 _ h5.right).2) ?_
        clear hK K
        have hIl : (extI name ix G p).length = 128 := extI_length (by rw [HP1.out.1]; omega)
        obtain ⟨I, hIe⟩ : ∃ I, I = extI name ix G p := ⟨_, rfl⟩
        rw [← hIe] at HO hIl ⊢
        have hne := run_neq_u8s (P := Tryd.prog) (w := w5) Tryd.underlying83 Tryd.underlying5 (by kernel_rfl) (by kernel_rfl) I b hIl HQ.out.2.2.2
        refine wpR_read (i := 9) #[true, true, true, true, true, true, true, true, true, true] rfl onlyN_noPanic (by kernel_rfl) (.inl ⟨rfl, exec_binop rfl rfl rfl (run_eqGuard_agg w5 .neq 83 _ _ _ _ (by kernel_rfl)) hne⟩) ?_
        simp only [Act.put, List.setIfInBounds_toArray, List.set_cons_zero, List.set_cons_succ]
        refine wpR_done (by kernel_rfl) ?_ _
        simp only [OnlyN]
        clear hne hT0 hT1 ra
        by_cases hIb : I = b
        · rw [decide_eq_true hIb]
          have HE : Aside (openI b name ix = some (p, G) ∧ Sat E w5 (HP.row 5 1 (.slice A4 x c4) p.length (b8s p) * q)) := ⟨by rw [HO.out, if_neg (by simpa using hIb)], by rw [HP1.out.1]; exact h5⟩
          clear HO hIe hIl hIb h5 HW
          generalize (b8s b).toArray = Lb at *
          generalize (b8s I).toArray = LI at *
          go_wp2
          go_ret3
          exact .inr ⟨p, G, _, HE.out.1, rfl, HE.out.2⟩
        · rw [decide_eq_false hIb]
          have HE : Aside (openI b name ix = none ∧ Sat E w5 q) := ⟨by rw [HO.out, if_pos hIb], h5.right⟩
          clear HO hIe hIl hIb h5 HW
          generalize (b8s b).toArray = Lb at *
          generalize (b8s I).toArray = LI at *
          go_wp2
          go_ret3
          exact .inl ⟨HE.out.1, rfl, HE.out.2⟩
  · have HO : Aside (openI b name index = none) := ⟨by unfold openI; rw [if_pos (.inl (by rw [hbn]; exact hlen))]⟩
    have hne : ¬ (n : Int) = 128 := by omega
    have HW := Aside.mk hw
    clear hw hq hbn
    go_enter Tryd.func58, Tryd.ntmps58
    go_wp2
    go_ret3
    exact .inl ⟨HO.out, rfl, HW.out⟩
end Go.Proofs.YthifabopnabjoaaDoor
/- What calls make of a disk: plain lemmas. -/
namespace Go.Proofs.YthifabopnabjoaaDoor
open Go.RowKit HP
set_option linter.unusedSimpArgs false
set_option linter.unusedVariables false

def Dk.new (room : Int) : Dk := ⟨room, -1, []⟩
theorem Dk.new_fine {room : Int} (h : 0 ≤ room ∧ room ≤ 100000) : (Dk.new room).Fine :=
  ⟨List.Pairwise.nil, (fun x hx => by cases hx), (fun x hx => by cases hx), h, ⟨by show (-1 : Int) ≤ -1; omega, by show (-1 : Int) ≤ _; omega⟩, h.1⟩
theorem View.new {room : Int} (h : 0 ≤ room ∧ room ≤ 100000) : View (Dk.new room) #[] 0 [] :=
  ⟨⟨(fun x hx => by simp at hx), rfl, by simp, (fun x hx => by simp at hx), by simp⟩, fun s => rfl, Dk.new_fine h⟩
theorem disk_new_ok (E : Env) (q : HP) (room : Int) (w : World) (h : 0 ≤ room ∧ room ≤ 100000) (hw : Sat E w q) :
    Calls Tryd.prog 7 #[.int .i64 room] w fun e w' => ∃ d, e = .returned (.tuple #[.pointer (some ⟨d, 0, none⟩), .int .i64 0]) ∧ Sat E w' (HP.disk d (Dk.new room) * q) :=
  (disk_new E q room w h.1 h.2 hw).mono fun e w' ⟨d, m, he, hs⟩ => ⟨d, he, Sat.disk_close (m := m) (View.new h) (hs.perm (by
    unfold HP.dk
    simp only [List.map_nil, HP.all, HP.mul_emp]
    show _ = HP.dsk d room (-1) m * HP.pt m (.map #[] 0) * q
    rw [HP.mul_assoc]))⟩

section
variable {A : Dk} {s t : ByteArray} {i : Int} {b : List Int} {l : List Cel}
theorem at_set (hs : Sorted A.files) (l : List Cel) : (A.set s l).at t = if s = t then l else A.at t := by
  unfold Dk.at Dk.set
  rw [lk_put _ _ _ hs]
  split <;> rfl
theorem lk_set (hs : Sorted A.files) (l : List Cel) : lk (A.set s l).files t = if s = t then some l else lk A.files t := lk_put _ _ _ hs
theorem burnt_forever (h : A.fuse = -1) : A.burnt = A := by
  unfold Dk.burnt burnI
  rw [h]
  simp only [gt_iff_lt, Int.reduceNeg, Int.reduceLT, if_false]
  cases A
  simp only at h
  rw [h]
theorem goes_forever (h : A.fuse = -1) : A.goes = true := by
  unfold Dk.goes burnI
  rw [h]; rfl
theorem write_first (hn : namedB s = true) (hb : b.length = 128) (hat : A.at s = []) (hf : 0 < A.free) (hg : A.goes = true) : A.write s 0 b = (0, A.burnt.set s [Cel.zero.wrote b]) := by
  unfold Dk.write
  rw [if_neg (by simp [hn, hb, hat]), if_neg (by simp [hg]), if_neg (by omega), if_pos (by simp [hat]), hat]
  rfl
theorem write_other (hs : Sorted A.files) (hne : s ≠ t) : lk (A.write s i b).2.files t = lk A.files t := by
  unfold Dk.write
  split
  · rfl
  · split
    · rfl
    · split
      · rfl
      · split
        · show lk (A.burnt.set s _).files t = _
          rw [lk_set (A := A.burnt) hs, if_neg hne]; rfl
        · show lk (A.burnt.set s _).files t = _
          rw [lk_set (A := A.burnt) hs, if_neg hne]; rfl
theorem write_forever (h : A.fuse = -1) : (A.write s i b).2.fuse = -1 := by
  have e := burnt_forever h
  unfold Dk.write
  rw [e]
  split
  · exact h
  · split
    · exact h
    · split
      · exact h
      · split <;> exact h
theorem sync_some (hl : lk A.files s = some l) (hg : A.goes = true) : A.sync s = (0, A.burnt.set s (l.map Cel.syncd)) := by
  unfold Dk.sync
  rw [hl]
  simp [hg]
theorem cel_at (hl : lk A.files s = some l) (k : Nat) : A.cel s k = l[k]? := by
  unfold Dk.cel Dk.at
  rw [if_pos (by omega), hl]; rfl
end
theorem celAt_view {A : Dk} {es : Array MapEntry} {clock : Nat} {fs : List Fil} (hv : View A es clock fs) (s : ByteArray) (i : Int) : (celAt fs s i).map (·.2) = A.cel s i := by
  have h := hv.same s
  unfold celAt Dk.cel Dk.at
  unfold lkF at h
  cases hf : fs.find? (fun f => decide (f.name = s)) with
  | none =>
    rw [hf] at h
    rw [← h]
    simp
  | some f =>
    rw [hf] at h
    simp only [Option.map_some] at h
    rw [← h]
    simp only [Option.getD_some]
    by_cases h0 : 0 ≤ i
    · rw [if_pos h0]
      by_cases h1 : i < f.cels.length
      · rw [if_pos ⟨h0, h1⟩, Fil.cs, List.getElem?_map]
      · rw [if_neg (fun h => h1 h.2), Fil.cs, List.getElem?_map, List.getElem?_eq_none (by omega)]
    · rw [if_neg h0, if_neg (fun h => h0 h.1)]; rfl
def readEnd (E : Env) (q : HP) (r : Option Cel) (e : Ending) (w' : World) : Prop :=
  match r with
  | none => e = .returned (.tuple #[.slice none 0 0, .int .i64 30]) ∧ Sat E w' q
  | some c => ∃ v, e = .returned (.tuple #[v, .int .i64 0]) ∧ Sat E w' (HP.row 5 1 v 128 (b8s c.read) * q)
theorem disk_read_ok (E : Env) (q : HP) (d : Nat) (A : Dk) (name : ByteArray) (i : Int) (w : World) (hn : name.size ≤ maxLen) (hw : Sat E w (HP.disk d A * q)) :
    Calls Tryd.prog 57 #[.pointer (some ⟨d, 0, none⟩), .string name, .int .i64 i] w (readEnd E (HP.disk d A * q) (A.cel name i)) := by
  obtain ⟨m, es, clock, fs, hv, hd⟩ := hw.disk_open
  refine (disk_read E q d A.room A.fuse m es clock fs name i w hn hv.map hv.good hd).mono fun e w' h => ?_
  rw [← celAt_view hv]
  unfold readPost at h
  unfold readEnd
  cases hc : celAt fs name i with
  | none => rw [hc] at h; exact ⟨h.1, Sat.disk_close hv h.2⟩
  | some x =>
    rw [hc] at h
    obtain ⟨v, he, hs⟩ := h
    exact ⟨v, he, (Sat.disk_close (q := HP.row 5 1 v 128 (b8s x.2.read) * q) hv (hs.perm (HP.left_comm _ _ _))).perm (HP.left_comm _ _ _)⟩
/-- Elements of several cells. -/
theorem flat_get {α : Type} (f : α → List Value) (n : Nat) (l : List α) (hn : ∀ x, (f x).length = n) (i k : Nat) (x : α) (h : l[i]? = some x) (hk : k < n) : (l.flatMap f)[i * n + k]? = (f x)[k]? := by
  induction l generalizing i with
  | nil => simp at h
  | cons y l ih =>
    rw [List.flatMap_cons]
    cases i with
    | zero =>
      simp only [List.getElem?_cons_zero, Option.some.injEq] at h
      subst h
      rw [Nat.zero_mul, Nat.zero_add, List.getElem?_append_left (by rw [hn]; exact hk)]
    | succ i =>
      simp only [List.getElem?_cons_succ] at h
      rw [List.getElem?_append_right (by rw [hn, Nat.add_mul]; omega), hn, ← ih i h]
      congr 1
      rw [Nat.add_mul, Nat.one_mul]
      omega
theorem StepV.vals_length (s : StepV) : s.vals.length = 8 := rfl
end Go.Proofs.YthifabopnabjoaaDoor
/- (*Disk).Remove, Extents, Free, Fuse: over a disk told by its files. -/
namespace Go.Proofs.YthifabopnabjoaaDoor
open Go.RowKit HP
set_option linter.unusedSimpArgs false
set_option linter.unusedVariables false

theorem disk_free_ok (E : Env) (q : HP) (d : Nat) (A : Dk) (w : World) (hw : Sat E w (HP.disk d A * q)) :
    Calls Tryd.prog 10 #[.pointer (some ⟨d, 0, none⟩)] w fun e w' => e = .returned (.int .i64 A.free) ∧ Sat E w' (HP.disk d A * q) := by
  obtain ⟨m, es, clock, fs, hv, hd⟩ := hw.disk_open
  refine (disk_free E q d A.room A.fuse m es clock fs w hv.map hv.fine.room (by rw [hv.total]; have := hv.size_le; omega) hd).mono ?_
  rintro e w' ⟨rfl, h⟩
  exact ⟨by rw [hv.total]; rfl, Sat.disk_close hv h⟩
theorem disk_fuse_ok (E : Env) (q : HP) (d : Nat) (A : Dk) (n : Int) (w : World) (hn : n ≤ 9223372036854775807) (hw : Sat E w (HP.disk d A * q)) :
    Calls Tryd.prog 18 #[.pointer (some ⟨d, 0, none⟩), .int .i64 n] w fun e w' => (n < 0 ∧ e = .returned (.int .i64 1) ∧ Sat E w' (HP.disk d A * q)) ∨ (0 ≤ n ∧ e = .returned (.int .i64 0) ∧ Sat E w' (HP.disk d { A with fuse := n } * q)) := by
  obtain ⟨m, es, clock, fs, hv, hd⟩ := hw.disk_open
  refine (disk_fuse E _ d _ _ m n w (dk_parts hd)).mono ?_
  rintro e w' (⟨h1, rfl, rfl⟩ | ⟨h1, rfl, h⟩)
  · exact .inl ⟨h1, rfl, hw⟩
  · refine .inr ⟨h1, rfl, Sat.disk_close (m := m) (hv.fuel n ⟨by omega, hn⟩) (h.perm ?_)⟩
    unfold HP.dk
    ac_rfl
/-- Whether a disk was made: 'Fuse(-1)' of one that was. -/
theorem disk_asked (E : Env) (q : HP) (d : Nat) (A : Dk) (w : World) (hw : Sat E w (HP.disk d A * q)) :
    Calls Tryd.prog 18 #[.pointer (some ⟨d, 0, none⟩), .int .i64 (-1)] w fun e w' => e = .returned (.int .i64 1) ∧ Sat E w' (HP.disk d A * q) :=
  (disk_fuse_ok E q d A (-1) w (by omega) hw).mono fun e w' h => by
    rcases h with ⟨_, he, hs⟩ | ⟨h0, _, _⟩
    · exact ⟨he, hs⟩
    · omega
end Go.Proofs.YthifabopnabjoaaDoor
/- A disk that no call made: what every call answers. -/
namespace Go.Proofs.YthifabopnabjoaaDoor
open Go.RowKit HP
set_option linter.unusedSimpArgs false
set_option linter.unusedVariables false

set_option maxHeartbeats 1000000 in
set_option maxRecDepth 100000 in
theorem none_write (p : Value) (s : ByteArray) (i : Int) (v : Value) (w : World) (hn : Calls Tryd.prog 27 #[p] w fun e w' => e = .returned (.bool true) ∧ w' = w) : Calls Tryd.prog 25 #[p, .string s, .int .i64 i, v] w fun e w' => e = .returned (.int .i64 2) ∧ w' = w := by
  go_enter Tryd.func25, Tryd.ntmps25
  go_wp2_with fail
  refine hn.mono ?_
  rintro e w1 ⟨rfl, rfl⟩
  clear hn
  go_wp2
  go_ret
  exact ⟨rfl, rfl⟩
set_option maxHeartbeats 1000000 in
set_option maxRecDepth 100000 in
theorem none_sync (p : Value) (s : ByteArray) (w : World) (hn : Calls Tryd.prog 27 #[p] w fun e w' => e = .returned (.bool true) ∧ w' = w) : Calls Tryd.prog 26 #[p, .string s] w fun e w' => e = .returned (.int .i64 2) ∧ w' = w := by
  go_enter Tryd.func26, Tryd.ntmps26
  go_wp2_with fail
  refine hn.mono ?_
  rintro e w1 ⟨rfl, rfl⟩
  clear hn
  go_wp2
  go_ret
  exact ⟨rfl, rfl⟩
set_option maxHeartbeats 1000000 in
set_option maxRecDepth 100000 in
theorem none_fuse (p : Value) (n : Int) (w : World) (hn : Calls Tryd.prog 27 #[p] w fun e w' => e = .returned (.bool true) ∧ w' = w) : Calls Tryd.prog 18 #[p, .int .i64 n] w fun e w' => e = .returned (.int .i64 2) ∧ w' = w := by
  go_enter Tryd.func18, Tryd.ntmps18
  go_wp2_with fail
  refine hn.mono ?_
  rintro e w1 ⟨rfl, rfl⟩
  clear hn
  go_wp2
  go_ret
  exact ⟨rfl, rfl⟩
set_option maxHeartbeats 1000000 in
set_option maxRecDepth 100000 in
theorem none_read (p : Value) (s : ByteArray) (i : Int) (w : World) (hn : Calls Tryd.prog 27 #[p] w fun e w' => e = .returned (.bool true) ∧ w' = w) : Calls Tryd.prog 57 #[p, .string s, .int .i64 i] w fun e w' => e = .returned (.tuple #[.slice none 0 0, .int .i64 2]) ∧ w' = w := by
  go_enter Tryd.func57, Tryd.ntmps57
  go_wp2_with fail
  refine hn.mono ?_
  rintro e w1 ⟨rfl, rfl⟩
  clear hn
  go_wp2
  go_ret2
  exact ⟨rfl, rfl⟩
set_option maxHeartbeats 1000000 in
set_option maxRecDepth 100000 in
theorem none_free (p : Value)  (w : World) (hn : Calls Tryd.prog 27 #[p] w fun e w' => e = .returned (.bool true) ∧ w' = w) : Calls Tryd.prog 10 #[p] w fun e w' => e = .returned (.int .i64 0) ∧ w' = w := by
  go_enter Tryd.func10, Tryd.ntmps10
  go_wp2_with fail
  refine hn.mono ?_
  rintro e w1 ⟨rfl, rfl⟩
  clear hn
  go_wp2
  go_ret
  exact ⟨rfl, rfl⟩
set_option maxHeartbeats 1000000 in
set_option maxRecDepth 100000 in
theorem none_crash (p v : Value) (w : World) (hn : Calls Tryd.prog 27 #[p] w fun e w' => e = .returned (.bool true) ∧ w' = w) : Calls Tryd.prog 19 #[p, v] w fun e w' => e = .returned (.int .i64 2) ∧ w' = w := by
  go_enter Tryd.func19, Tryd.ntmps19
  go_wp2_with fail
  refine hn.mono ?_
  rintro e w1 ⟨rfl, rfl⟩
  clear hn
  go_wp2
  go_ret
  exact ⟨rfl, rfl⟩
end Go.Proofs.YthifabopnabjoaaDoor
/- pair: halves, none. -/
namespace Go.Proofs.YthifabopnabjoaaDoor
open Go.RowKit HP
set_option linter.unusedSimpArgs false
set_option linter.unusedVariables false

def dotA : ByteArray := ⟨#[46, 97]⟩
def dotB : ByteArray := ⟨#[46, 98]⟩
theorem agTwo : AgTy Tryd.prog 55 2 := ⟨⟨_, Tryd.underlying55, rfl⟩, by kernel_rfl⟩
set_option maxHeartbeats 1000000 in
set_option maxRecDepth 100000 in
theorem pair_halves (E : Env) (q : HP) (name : ByteArray) (w : World) (hn : name.size + 2 ≤ maxLen) (hw : Sat E w q) :
    Calls Tryd.prog 56 #[.string name] w fun e w' => e = .returned (.agg #[.string (name ++ dotA), .string (name ++ dotB)]) ∧ Sat E w' q := by
  have HW := Aside.mk hw
  have hn2 : name.size + 2 ≤ 9223372036854775807 := by unfold maxLen at hn; omega
  unfold dotA dotB
  go_enter Tryd.func56, Tryd.ntmps56
  have h1 := hw.alloc (.cells [.string (name ++ ⟨#[46, 97]⟩), .string (name ++ ⟨#[46, 98]⟩)].toArray 55)
  have r1 := run_loadAgg (P := Tryd.prog) (n := 2) agTwo rfl (Sat.ptCells (off := 0) (l := [.string (name ++ ⟨#[46, 97]⟩), .string (name ++ ⟨#[46, 98]⟩)]) h1 rfl)
  go_wp2
  exact ⟨rfl, _, results_cell (t := 2) (by kernel_rfl) rfl r1, rfl, h1.right⟩
set_option maxHeartbeats 1000000 in
set_option maxRecDepth 100000 in
theorem pair_none (E : Env) (q : HP) (d : Nat) (A : Dk) (w : World) (hw : Sat E w (HP.disk d A * q)) :
    Calls Tryd.prog 55 #[.pointer (some ⟨d, 0, none⟩)] w fun e w' => e = .returned (.bool false) ∧ Sat E w' (HP.disk d A * q) := by
  have HW := Aside.mk hw
  clear hw
  go_enter Tryd.func55, Tryd.ntmps55
  go_wp2_with fail
  refine (disk_asked E q d A _ HW.out).mono ?_
  rintro e w1 ⟨rfl, h1⟩
  have H1 := Aside.mk h1
  clear h1
  go_wp2
  go_ret
  exact ⟨rfl, H1.out⟩
end Go.Proofs.YthifabopnabjoaaDoor
/- pair.write. -/
namespace Go.Proofs.YthifabopnabjoaaDoor
open Go.RowKit HP
set_option linter.unusedSimpArgs false
set_option linter.unusedVariables false

/-- Payloads written to a file, one behind the other, and synced. -/
def wrF (A : Dk) (f : ByteArray) (gen : Nat) : Nat → List (List Int) → Int × Dk
  | _, [] => A.sync f
  | i, p :: r =>
    if ¬ FrameOk i gen p.length then (1, A)
    else if (A.write f i (extI f i gen p)).1 = 0 then wrF (A.write f i (extI f i gen p)).2 f gen (i + 1) r
    else A.write f i (extI f i gen p)
def wrL (A : Dk) (i gen : Nat) (ps : List (List Int)) : List ByteArray → Int × Dk
  | [] => (0, A)
  | f :: r => if (wrF A f gen i ps).1 = 0 then wrL (wrF A f gen i ps).2 i gen ps r else wrF A f gen i ps
def halvesL (name : ByteArray) : List ByteArray := [name ++ dotA, name ++ dotB]
def wrP (A : Dk) (name : ByteArray) (i gen : Nat) (ps : List (List Int)) : Int × Dk := wrL A i gen ps (halvesL name)
def Sl.val8 (s : Sl Int) : Value := .slice s.A s.l.length s.cap
structure PayOk (s : Sl Int) : Prop where
  len : s.l.length ≤ s.cap
  bytes : Bytes s.l
theorem dotA_size (name : ByteArray) : (name ++ dotA).size = name.size + 2 := by rw [ByteArray.size_append]; rfl
theorem dotB_size (name : ByteArray) : (name ++ dotB).size = name.size + 2 := by rw [ByteArray.size_append]; rfl
end Go.Proofs.YthifabopnabjoaaDoor
/- pair.Get. -/
namespace Go.Proofs.YthifabopnabjoaaDoor
open Go.RowKit HP
set_option linter.unusedSimpArgs false
set_option linter.unusedVariables false

/-- A half read: what is best so far. -/
def getF (A : Dk) (i : Int) (st : Int × List Int) (f : ByteArray) : Int × List Int :=
  match A.cel f i with
  | none => st
  | some c => match openI c.read f i with
    | none => st
    | some x => if (x.2 : Int) ≤ st.1 then st else ((x.2 : Int), x.1)
def getP (A : Dk) (name : ByteArray) (i : Int) : Int × List Int := (halvesL name).foldl (getF A i) (-1, [])
theorem openI_gen {b : List Int} {f : ByteArray} {i : Int} {p : List Int} {g : Nat} (h : openI b f i = some (p, g)) : (g : Int) ≤ 4611686018427387904 ∧ p.length ≤ 106 := by
  unfold openI at h
  split at h
  · cases h
  · split at h
    · cases h
    · split at h
      · cases h
      · rename_i h1 h2 h3
        simp only [Option.some.injEq, Prod.mk.injEq] at h
        obtain ⟨rfl, rfl⟩ := h
        refine ⟨by omega, ?_⟩
        rw [List.length_take]
        omega
def getEnd (st : Int × List Int) (v : Value) : Ending := if st.1 < 0 then .returned (.tuple #[.slice none 0 0, .int .i64 0, .int .i64 50]) else .returned (.tuple #[v, .int .i64 st.1, .int .i64 0])
set_option maxHeartbeats 2000000 in
set_option maxRecDepth 100000 in
theorem pair_get (E : Env) (q : HP) (d : Nat) (A : Dk) (name : ByteArray) (i : Int) (w : World) (hname : name.size + 2 ≤ maxLen) (hby : ∀ f ∈ halvesL name, ∀ c, A.cel f i = some c → Bytes c.read)
    (hq : ∀ w, Sat E w q → Quarter w) (hw : Sat E w (HP.disk d A * q)) :
    Calls Tryd.prog 48 #[.pointer (some ⟨d, 0, none⟩), .string name, .int .i64 i] w fun e w' => ∃ v, e = getEnd (getP A name i) v ∧ Sat E w' (HP.row 5 1 v (getP A name i).2.length (b8s (getP A name i).2) * (HP.disk d A * q)) := by
  have hfa : (name ++ dotA).size ≤ maxLen := by rw [dotA_size]; exact hname
  have hfb : (name ++ dotB).size ≤ maxLen := by rw [dotB_size]; exact hname
  have HF : Aside (halvesL name = [name ++ dotA, name ++ dotB]) := ⟨rfl⟩
  have HQ := Aside.mk (And.intro hq (And.intro hby hw))
  clear hq hw hby
  go_enter Tryd.func48, Tryd.ntmps48
  go_wp2_with fail
  refine (pair_none E q d A _ HQ.out.2.2).mono ?_
  rintro e w1 ⟨rfl, k1⟩
  have K1 := Aside.mk k1
  clear k1
  go_wp2_with fail
  refine (pair_halves E _ name _ hname K1.out).mono ?_
  rintro e w2 ⟨rfl, k2⟩
  obtain ⟨fa, hfae⟩ : ∃ fa, fa = name ++ dotA := ⟨_, rfl⟩
  obtain ⟨fb, hfbe⟩ : ∃ fb, fb = name ++ dotB := ⟨_, rfl⟩
  rw [← hfae] at hfa HF ⊢
  rw [← hfbe] at hfb HF ⊢
  clear hfae hfbe
  have K2 := Aside.mk (k2.row_nil 5 1 none)
  clear k2 K1
  have i0 : ∀ w, (Instr.index 55 (.agg #[.string fa, .string fb]) (.int .i64 0)).run Tryd.prog w = .ok (.string fa) w := fun w => by kernel_rfl
  have i1 : ∀ w, (Instr.index 55 (.agg #[.string fa, .string fb]) (.int .i64 1)).run Tryd.prog w = .ok (.string fb) w := fun w => by kernel_rfl
  go_wp2
  go_loopw [9, 10, 21] (fun v9 v10 v21 wr => ∃ (h : Nat) (best : Int) (p : List Int), h ≤ 2 ∧ v21 = .int .i64 h ∧ v9 = .int .i64 best ∧ best ≤ 4611686018427387904 ∧ -1 ≤ best ∧ p.length ≤ 106 ∧ Aside ((((halvesL name).drop h).foldl (getF A i) (best, p)) = getP A name i) ∧ Aside (Sat E wr (HP.row 5 1 v10 p.length (b8s p) * (HP.disk d A * q)))) (fun _ _ i _ => 2 - (intOf i).toNat)
  case atStart => exact ⟨0, -1, [], by omega, rfl, rfl, by omega, by omega, by simp, ⟨rfl⟩, K2⟩
  case round =>
    obtain ⟨h, best, p, hh, rfl, rfl, hb1, hb2, hpl, HG, HS⟩ := hrel
    by_cases hlt : h < 2
    · obtain ⟨f, hf, hfm, hff, hix⟩ : ∃ f : ByteArray, f.size ≤ maxLen ∧ f ∈ halvesL name ∧ (halvesL name).drop h = f :: (halvesL name).drop (h + 1) ∧ ∀ w, (Instr.index 55 (.agg #[.string fa, .string fb]) (.int .i64 (h : Int))).run Tryd.prog w = .ok (.string f) w := by
        rw [HF.out]
        rcases Nat.lt_or_ge h 1 with h0 | h0
        · obtain rfl : h = 0 := by omega
          exact ⟨fa, hfa, by simp, rfl, i0⟩
        · obtain rfl : h = 1 := by omega
          exact ⟨fb, hfb, by simp, rfl, i1⟩
      rw [hff, List.foldl_cons] at HG
      clear hff
      have hlt2 : (h : Int) < 2 := by omega
      have hby := HQ.out.2.1 f hfm
      clear hfm
      clear i0 i1
      go_wp2_with fail
      refine (disk_read_ok E _ d A f i _ hf HS.out.s2).mono ?_
      intro e w3 h3
      unfold readEnd at h3
      cases hc : A.cel f i with
      | none =>
        rw [hc] at h3
        obtain ⟨rfl, h3⟩ := h3
        have HG2 : Aside (((halvesL name).drop (h + 1)).foldl (getF A i) (best, p) = getP A name i) := ⟨by rw [← HG.out]; simp only [getF, hc]⟩
        have H3 := Aside.mk h3.s2
        clear h3 hc HG hby HS
        go_wp2
        go_roundw
        case rel => exact ⟨h + 1, best, p, by omega, by push_cast; rfl, rfl, hb1, hb2, hpl, HG2, H3⟩
        case measure => simp [intOf]; omega
      | some cl =>
        rw [hc] at h3
        obtain ⟨vr, rfl, h3⟩ := h3
        have hbr := hby cl hc
        obtain ⟨Ar, cr, rfl, hcr, -⟩ := h3.row_slice
        have hl128 : cl.read.length = 128 := by
          have := h3.row_cases.1
          rw [b8s_length] at this
          exact this
        have HC : Aside (getF A i (best, p) f = match openI cl.read f i with
            | none => (best, p)
            | some x => if (x.2 : Int) ≤ best then (best, p) else ((x.2 : Int), x.1)) := ⟨by simp only [getF, hc]⟩
        have H3 := Aside.mk (And.intro h3 (And.intro hbr hl128))
        clear h3 hbr hl128 hc hby HS
        go_wp2_with fail
        refine (ext_open E _ f i Ar cl.read 128 cr _ hf H3.out.2.2 hcr H3.out.2.1 (fun w h => ⟨HQ.out.1 _ h.right.right.right, h.row_cells⟩) H3.out.1).mono ?_
        rintro e w4 (⟨ho, rfl, h4⟩ | ⟨p2, G, vp, ho, rfl, h4⟩)
        · rw [ho] at HC
          rw [HC.out] at HG
          have H4 := Aside.mk (h4.right.s2)
          clear h4 ho HC H3
          go_wp2
          go_roundw
          case rel => exact ⟨h + 1, best, p, by omega, by push_cast; rfl, rfl, hb1, hb2, hpl, HG, H4⟩
          case measure => simp [intOf]; omega
        · obtain ⟨hG1, hp2⟩ := openI_gen ho
          rw [ho] at HC
          dsimp only at HC
          by_cases hle : (G : Int) ≤ best
          · rw [if_pos hle] at HC
            rw [HC.out] at HG
            have H4 := Aside.mk (h4.right.right.s2)
            clear h4 ho HC H3
            go_wp2
            go_roundw
            case rel => exact ⟨h + 1, best, p, by omega, by push_cast; rfl, rfl, hb1, hb2, hpl, HG, H4⟩
            case measure => simp [intOf]; omega
          · rw [if_neg hle] at HC
            rw [HC.out] at HG
            obtain ⟨A2, c2, rfl, -, -⟩ := h4.row_slice
            have H4 := Aside.mk h4
            clear h4 ho HC H3
            obtain ⟨m, hm⟩ : ∃ m, m = p2.length := ⟨_, rfl⟩
            rw [← hm] at H4 hp2 ⊢
            have HM := Aside.mk hm
            clear hm
            have hle2 : best < (G : Int) := by omega
            clear hle
            go_wp2_with (first
              | (refine wpList_make_row (n := m) slB8 rfl rfl rfl rfl rfl H4.out (by unfold maxLen; omega) (by omega) (fun g w5 hw5 => ?_); have HW5 := Aside.mk hw5; clear hw5)
              | (at_builtin; fail)
              | (refine wpList_copy_sat Tryd.underlying22 (by kernel_rfl) rfl rfl rfl rfl HW5.out (by rw [b8s_length]; exact HM.out.symm) (HW5.out.right.row_cells) (b8s_one _) (fun w6 hw6 => ?_); have HW6 := Aside.mk hw6; clear hw6))
            have HW7 : Aside (Sat E w6 (HP.row 5 1 (.slice (some ⟨g, 0, none⟩) m m) p2.length (b8s p2) * (HP.disk d A * q))) := ⟨by
              have h7 := HW6.out.drop2.drop2
              rw [List.take_of_length_le (by rw [b8s_length, ← HM.out]; exact Nat.le_refl _), List.drop_of_length_le (by simp), List.append_nil] at h7
              have h8 : Sat E w6 (HP.row 5 1 u10 p.length (b8s p) * (HP.row 5 1 (.slice (some ⟨g, 0, none⟩) m m) m (b8s p2) * (HP.disk d A * q))) := h7.perm (by ac_rfl)
              rw [← HM.out]
              exact h8.right⟩
            clear HW5 HW6 H4
            go_wp2
            go_roundw
            case rel => exact ⟨h + 1, (G : Int), p2, by omega, by push_cast; rfl, rfl, hG1, by omega, by rw [← HM.out]; omega, HG, HW7⟩
            case measure => simp [intOf]; omega
    · have hh2 : h = 2 := by omega
      subst hh2
      rw [HF.out] at HG
      have HX : Aside (getP A name i = (best, p)) := ⟨HG.out.symm⟩
      clear HG i0 i1
      by_cases hneg : best < 0
      · go_wp2
        go_ret3
        rw [HX.out]
        exact ⟨_, by unfold getEnd; rw [if_pos hneg]; rfl, HS.out⟩
      · go_wp2
        go_ret3
        rw [HX.out]
        exact ⟨_, by unfold getEnd; rw [if_neg (by show ¬ best < 0; omega)]; rfl, HS.out⟩
end Go.Proofs.YthifabopnabjoaaDoor
/- What is framed is opened; two extents written and read. -/
namespace Go.Proofs.YthifabopnabjoaaDoor
open Go.RowKit HP
set_option linter.unusedSimpArgs false
set_option linter.unusedVariables false

theorem extI_parts {f : ByteArray} {i g : Nat} {p : List Int} (h : p.length ≤ 106) :
    (extI f i g p).getD 17 0 = p.length ∧ ((extI f i g p).drop 9).take 8 = putI g 8 ∧ ((extI f i g p).drop 18).take p.length = p := by
  have e : extI f i g p = ([229] ++ putI (crcSum (strB f)) 4 ++ putI i 4) ++ (putI g 8 ++ ((p.length : Int) :: (p ++ (List.replicate (106 - p.length) 0 ++ putI (crcSum (extH f i g p)) 4)))) := by
    unfold extI
    conv => lhs; arg 1; unfold extH
    simp only [List.append_assoc, List.cons_append, List.nil_append]
  have l1 : ([229] ++ putI (crcSum (strB f)) 4 ++ putI i 4 : List Int).length = 9 := by simp [putI_length]
  have d9 : (extI f i g p).drop 9 = putI g 8 ++ ((p.length : Int) :: (p ++ (List.replicate (106 - p.length) 0 ++ putI (crcSum (extH f i g p)) 4))) := by
    rw [e, ← l1, List.drop_left]
  have d17 : (extI f i g p).drop 17 = (p.length : Int) :: (p ++ (List.replicate (106 - p.length) 0 ++ putI (crcSum (extH f i g p)) 4)) := by
    rw [show 17 = 9 + 8 from rfl, ← List.drop_drop, d9, List.drop_left' (putI_length g 8)]
  refine ⟨?_, ?_, ?_⟩
  · have := congrArg (fun l => l[0]?) d17
    simp only [List.getElem?_drop, Nat.add_zero, List.getElem?_cons_zero] at this
    simp [List.getD, this]
  · rw [d9]
    have := putI_length g 8
    rw [List.take_append_of_le_length (by omega), List.take_of_length_le (by omega)]
  · rw [show 18 = 17 + 1 from rfl, ← List.drop_drop, d17, List.drop_one, List.tail_cons, List.take_left]
theorem openI_extI {f : ByteArray} {i g : Nat} {p : List Int} (hi : i ≤ 2147483647) (hg : g ≤ 4611686018427387904) (h : p.length ≤ 106) : openI (extI f i g p) f i = some (p, g) := by
  obtain ⟨h1, h2, h3⟩ := extI_parts (f := f) (i := i) (g := g) h
  unfold openI
  rw [h1, h2, Int.toNat_natCast, Int.toNat_natCast, h3, getN_putI 8 g (by omega)]
  rw [if_neg (by rw [extI_length h]; omega), if_neg (by omega), if_neg (by simp)]

def stl (I : List Int) : Cel := ⟨I, I, I, I, false⟩
theorem stl_sync (c : Cel) (I : List Int) : (c.wrote I).syncd = stl I := rfl
structure TwoNames (fa fb : ByteArray) : Prop where
  na : namedB fa = true
  nb : namedB fb = true
  ne : fa ≠ fb
  lt : ltN fa fb = true
  gt : ltN fb fa = false
def wr1 (A : Dk) (f : ByteArray) (i : Int) (I : List Int) : Int × Dk := if (A.write f i I).1 = 0 then (A.write f i I).2.sync f else A.write f i I
def put2 (A : Dk) (fa fb : ByteArray) (i : Int) (Ia Ib : List Int) : Int × Dk :=
  if (wr1 A fa i Ia).1 = 0 then (if (wr1 (wr1 A fa i Ia).2 fb i Ib).1 = 0 then (0, (wr1 (wr1 A fa i Ia).2 fb i Ib).2) else wr1 (wr1 A fa i Ia).2 fb i Ib) else wr1 A fa i Ia
theorem wrF_one {A : Dk} {f : ByteArray} {i g : Nat} {p : List Int} (hf : FrameOk i g p.length) : wrF A f g i [p] = wr1 A f i (extI f i g p) := by
  unfold wrF wr1
  rw [if_neg (by simpa using hf)]
  rfl
def two (room fuse : Int) (fa fb : ByteArray) (a b : Cel) : Dk := ⟨room, fuse, [(fa, [a]), (fb, [b])]⟩
section
variable {fa fb : ByteArray} {Ia Ib : List Int} (T : TwoNames fa fb) (la : Ia.length = 128) (lb : Ib.length = 128)
include T la lb
theorem put_first : put2 (Dk.new 4) fa fb 0 Ia Ib = (0, two 4 (-1) fa fb (stl Ia) (stl Ib)) := by
  obtain ⟨na, nb, ne, lt, gt⟩ := T
  have ne' := Ne.symm ne
  simp [put2, wr1, Dk.write, Dk.sync, Dk.new, Dk.at, Dk.free, Dk.goes, Dk.burnt, burnI, Dk.set, lk_nil, lk_cons, putF, sizeF, na, nb, ne, ne', lt, gt, la, lb, stl_sync, two]
theorem put_first2 : put2 (Dk.new 2) fa fb 0 Ia Ib = (0, two 2 (-1) fa fb (stl Ia) (stl Ib)) := by
  obtain ⟨na, nb, ne, lt, gt⟩ := T
  have ne' := Ne.symm ne
  simp [put2, wr1, Dk.write, Dk.sync, Dk.new, Dk.at, Dk.free, Dk.goes, Dk.burnt, burnI, Dk.set, lk_nil, lk_cons, putF, sizeF, na, nb, ne, ne', lt, gt, la, lb, stl_sync, two]
end
theorem cel_a {room fuse : Int} {fa fb : ByteArray} {a b : Cel} : (two room fuse fa fb a b).cel fa 0 = some a := by simp [two, Dk.cel, Dk.at, lk_cons]
theorem cel_b {room fuse : Int} {fa fb : ByteArray} {a b : Cel} (h : fa ≠ fb) : (two room fuse fa fb a b).cel fb 0 = some b := by simp [two, Dk.cel, Dk.at, lk_cons, h]
/-- Of two halves that are right the greater generation counts; of two alike the first. -/
theorem get_two {x : ByteArray} (h : x ++ dotA ≠ x ++ dotB) {room fuse : Int} {ca cb : Cel} {ga gb : Nat} (ha : ga ≤ 4611686018427387904) (hb : gb ≤ 4611686018427387904) {pa pb : List Int} (la : pa.length ≤ 106) (lb : pb.length ≤ 106)
    (ra : ca.read = extI (x ++ dotA) 0 ga pa) (rb : cb.read = extI (x ++ dotB) 0 gb pb) :
    getP (two room fuse (x ++ dotA) (x ++ dotB) ca cb) x 0 = if (gb : Int) ≤ ga then ((ga : Int), pa) else ((gb : Int), pb) := by
  have oa := openI_extI (f := x ++ dotA) (i := 0) (by omega) ha la
  have ob := openI_extI (f := x ++ dotB) (i := 0) (by omega) hb lb
  simp only [Int.ofNat_zero, Int.natCast_zero] at oa ob
  rw [← ra] at oa
  rw [← rb] at ob
  unfold getP halvesL
  simp only [List.foldl_cons, List.foldl_nil]
  rw [show getF _ 0 (-1, []) (x ++ dotA) = ((ga : Int), pa) by simp only [getF, cel_a, oa]; rw [if_neg (by show ¬ (ga : Int) ≤ -1; omega)]]
  simp only [getF, cel_b h, ob]
def exS : ByteArray := ⟨#[120]⟩
theorem twoEx : TwoNames (exS ++ dotA) (exS ++ dotB) := ⟨by kernel_rfl, by kernel_rfl, by decide, by kernel_rfl, by kernel_rfl⟩
end Go.Proofs.YthifabopnabjoaaDoor
/- Payloads written behind a file of a disk that has room. -/
namespace Go.Proofs.YthifabopnabjoaaDoor
open Go.RowKit HP
set_option linter.unusedSimpArgs false
set_option linter.unusedVariables false

theorem goes_ever {A : Dk} (h : A.fuse = -1) : A.goes = true := by simp [Dk.goes, burnI, h]
theorem burnt_ever {A : Dk} (h : A.fuse = -1) : A.burnt = A := by
  obtain ⟨r, f, fs⟩ := A
  simp only at h
  subst h
  rfl
theorem write_end {A : Dk} {f : ByteArray} {I : List Int} (hn : namedB f = true) (hl : I.length = 128) (he : A.fuse = -1) (hf : 0 < A.free) : A.write f ((A.at f).length : Int) I = (0, A.set f (A.at f ++ [Cel.zero.wrote I])) := by
  unfold Dk.write
  rw [if_neg (by rw [hn, hl]; simp), if_neg (by rw [goes_ever he]; simp), if_neg (by omega), if_pos rfl, burnt_ever he]
theorem at_some {A : Dk} {f : ByteArray} (h : 0 < (A.at f).length) : lk A.files f = some (A.at f) := by
  unfold Dk.at at h ⊢
  cases hk : lk A.files f with
  | none => rw [hk] at h; simp at h
  | some l => rfl
structure Fresh (A B : Dk) (f : ByteArray) (m : Nat) : Prop where
  sorted : Sorted B.files
  fuse : B.fuse = -1
  room : B.room = A.room
  size : sizeF B.files = sizeF A.files + m
  others : ∀ t, f ≠ t → B.at t = A.at t
theorem set_fresh {A : Dk} {f : ByteArray} {l : List Cel} {m : Nat} (hs : Sorted A.files) (he : A.fuse = -1) (hl : l.length = (A.at f).length + m) : Fresh A (A.set f l) f m :=
  ⟨sorted_put f l hs, he, rfl, by
    have := sizeF_put hs f l
    have h2 : ((lk A.files f).getD []).length = (A.at f).length := rfl
    show sizeF (putF A.files f l) = _
    omega, fun t ht => by rw [at_set hs l, if_neg ht]⟩
theorem wrF_fresh {f : ByteArray} {gen : Nat} (hn : namedB f = true) (hg : (gen : Int) ≤ 4611686018427387904) : ∀ (ps : List (List Int)) (A : Dk) (i : Nat), Sorted A.files → A.fuse = -1 → (A.at f).length = i → (ps.length : Int) ≤ A.free → (∀ p ∈ ps, p.length ≤ 106) → i + ps.length ≤ 2147483647 → 0 < i + ps.length →
    ∃ B, wrF A f gen i ps = (0, B) ∧ Fresh A B f ps.length ∧ (B.at f).length = i + ps.length
  | [], A, i, hs, he, hi, _, _, _, h0 => by
    have hl := at_some (A := A) (f := f) (by rw [hi]; simpa using h0)
    refine ⟨_, sync_some hl (goes_ever he), ?_, ?_⟩
    · rw [burnt_ever he]
      exact set_fresh hs he (by rw [List.length_map]; rfl)
    · rw [burnt_ever he, at_set hs, if_pos rfl, List.length_map, hi]; rfl
  | p :: ps, A, i, hs, he, hi, hf, hp, hm, _ => by
    have hpl := hp p (List.mem_cons_self ..)
    simp only [List.length_cons] at hf hm
    have hfo : FrameOk (i : Int) gen p.length := ⟨by omega, by omega, by omega, hg, hpl⟩
    have hw : A.write f (i : Int) (extI f i gen p) = (0, A.set f (A.at f ++ [Cel.zero.wrote (extI f i gen p)])) := by
      have := write_end (A := A) (f := f) (I := extI f i gen p) hn (extI_length hpl) he (by omega)
      rw [hi] at this
      exact this
    have h1 := set_fresh (A := A) (f := f) (l := A.at f ++ [Cel.zero.wrote (extI f i gen p)]) (m := 1) hs he (by rw [List.length_append]; rfl)
    have hlen : ((A.set f (A.at f ++ [Cel.zero.wrote (extI f i gen p)])).at f).length = i + 1 := by rw [at_set hs, if_pos rfl, List.length_append, hi]; rfl
    obtain ⟨B, hB, hF, hBl⟩ := wrF_fresh hn hg ps (A.set f (A.at f ++ [Cel.zero.wrote (extI f i gen p)])) (i + 1) h1.sorted h1.fuse hlen (by
      have := h1.size
      show (ps.length : Int) ≤ (A.set f _).room - _
      unfold Dk.free at hf
      have h2 := h1.room
      omega) (fun x hx => hp x (List.mem_cons_of_mem _ hx)) (by omega) (by omega)
    refine ⟨B, ?_, ⟨hF.sorted, hF.fuse, hF.room.trans h1.room, ?_, fun t ht => (hF.others t ht).trans (h1.others t ht)⟩, by rw [hBl, List.length_cons]; omega⟩
    · unfold wrF
      rw [if_neg (by simpa using hfo), hw, if_pos rfl]
      exact hB
    · rw [hF.size, h1.size, List.length_cons]; omega
end Go.Proofs.YthifabopnabjoaaDoor
/- A disk on which both halves hold pieces. -/
namespace Go.Proofs.YthifabopnabjoaaDoor
open Go.RowKit HP
set_option linter.unusedSimpArgs false
set_option linter.unusedVariables false

def newCels (f : ByteArray) (gen : Nat) : Nat → List (List Int) → List Cel
  | _, [] => []
  | i, p :: ps => Cel.zero.wrote (extI f i gen p) :: newCels f gen (i + 1) ps
theorem wrF_cels {f : ByteArray} {gen : Nat} (hn : namedB f = true) (hg : (gen : Int) ≤ 4611686018427387904) : ∀ (ps : List (List Int)) (A : Dk) (i : Nat), Sorted A.files → A.fuse = -1 → (A.at f).length = i → (ps.length : Int) ≤ A.free → (∀ p ∈ ps, p.length ≤ 106) → i + ps.length ≤ 2147483647 → 0 < i + ps.length →
    (wrF A f gen i ps).2.at f = (A.at f ++ newCels f gen i ps).map Cel.syncd
  | [], A, i, hs, he, hi, _, _, _, h0 => by
    have hl := at_some (A := A) (f := f) (by rw [hi]; simpa using h0)
    show (A.sync f).2.at f = _
    rw [sync_some hl (goes_ever he), burnt_ever he, at_set hs, if_pos rfl]
    simp [newCels]
  | p :: ps, A, i, hs, he, hi, hf, hp, hm, _ => by
    have hpl := hp p (List.mem_cons_self ..)
    simp only [List.length_cons] at hf hm
    have hfo : FrameOk (i : Int) gen p.length := ⟨by omega, by omega, by omega, hg, hpl⟩
    have hw : A.write f (i : Int) (extI f i gen p) = (0, A.set f (A.at f ++ [Cel.zero.wrote (extI f i gen p)])) := by
      have := write_end (A := A) (f := f) (I := extI f i gen p) hn (extI_length hpl) he (by omega)
      rw [hi] at this
      exact this
    have h1 := set_fresh (A := A) (f := f) (l := A.at f ++ [Cel.zero.wrote (extI f i gen p)]) (m := 1) hs he (by rw [List.length_append]; rfl)
    have hlen : ((A.set f (A.at f ++ [Cel.zero.wrote (extI f i gen p)])).at f).length = i + 1 := by rw [at_set hs, if_pos rfl, List.length_append, hi]; rfl
    have hB := wrF_cels hn hg ps (A.set f (A.at f ++ [Cel.zero.wrote (extI f i gen p)])) (i + 1) h1.sorted h1.fuse hlen (by
      have := h1.size
      show (ps.length : Int) ≤ (A.set f _).room - _
      unfold Dk.free at hf
      have h2 := h1.room
      omega) (fun x hx => hp x (List.mem_cons_of_mem _ hx)) (by omega) (by omega)
    unfold wrF
    rw [if_neg (by simpa using hfo), hw, if_pos rfl, hB, at_set hs, if_pos rfl]
    simp [newCels]
theorem newCels_get {f : ByteArray} {gen : Nat} : ∀ (ps : List (List Int)) (i k : Nat) (p : List Int), ps[k]? = some p → (newCels f gen i ps)[k]? = some (Cel.zero.wrote (extI f (i + k) gen p))
  | [], i, k, p, h => by simp at h
  | q :: ps, i, 0, p, h => by
    simp only [List.getElem?_cons_zero, Option.some.injEq] at h
    subst h
    rfl
  | q :: ps, i, k + 1, p, h => by
    have := newCels_get (f := f) (gen := gen) ps (i + 1) k p (by simpa using h)
    rw [show i + 1 + k = i + (k + 1) by omega] at this
    simpa [newCels] using this
theorem newCels_length {f : ByteArray} {gen : Nat} : ∀ (ps : List (List Int)) (i : Nat), (newCels f gen i ps).length = ps.length
  | [], _ => rfl
  | _ :: ps, i => by
    show (newCels f gen (i + 1) ps).length + 1 = ps.length + 1
    rw [newCels_length ps]
/-- A disk on which both halves hold these pieces, of one generation. -/
structure Holds (B : Dk) (x : ByteArray) (gen : Nat) (ps : List (List Int)) : Prop where
  a : B.at (x ++ dotA) = (newCels (x ++ dotA) gen 0 ps).map Cel.syncd
  b : B.at (x ++ dotB) = (newCels (x ++ dotB) gen 0 ps).map Cel.syncd
theorem held_cel {B : Dk} {f : ByteArray} {gen k : Nat} {ps : List (List Int)} {p : List Int} (h : B.at f = (newCels f gen 0 ps).map Cel.syncd) (hp : ps[k]? = some p) : B.cel f (k : Int) = some (stl (extI f k gen p)) := by
  unfold Dk.cel
  rw [if_pos (by omega), Int.toNat_natCast, h, List.getElem?_map, newCels_get ps 0 k p hp, Nat.zero_add]
  rfl
theorem held_get {B : Dk} {x : ByteArray} {gen k : Nat} {ps : List (List Int)} {p : List Int} (h : Holds B x gen ps) (hg : gen ≤ 4611686018427387904) (hk : k ≤ 2147483647) (hp : ps[k]? = some p) (hl : p.length ≤ 106) : getP B x (k : Int) = ((gen : Int), p) := by
  have oa := openI_extI (f := x ++ dotA) (i := k) hk hg hl
  have ob := openI_extI (f := x ++ dotB) (i := k) hk hg hl
  unfold getP halvesL
  simp only [List.foldl_cons, List.foldl_nil]
  rw [show getF B k (-1, []) (x ++ dotA) = ((gen : Int), p) by simp only [getF, held_cel h.a hp, stl, oa]; rw [if_neg (by show ¬ (gen : Int) ≤ -1; omega)]]
  simp only [getF, held_cel h.b hp, stl, ob]
  rw [if_pos (Int.le_refl _)]
end Go.Proofs.YthifabopnabjoaaDoor
/- slices.Concat of two slices of bytes. -/
namespace Go.Proofs.YthifabopnabjoaaDoor
open Go.RowKit HP
set_option linter.unusedSimpArgs false
set_option linter.unusedVariables false

theorem Sat.row_cut {E : Env} {w : World} {q : HP} {e : TypeId} {size n m c : Nat} {A : Option Addr} {cs : List Value} (h : Sat E w (HP.row e size (.slice A n c) n cs * q)) (hm : m ≤ n) : Sat E w (HP.row e size (.slice A m c) m (cs.take (m * size)) * q) := by
  rcases h.row_cases with ⟨hl, ⟨A', hv, hn, hq⟩ | ⟨g, off, cap, cur, hv, hnc, hcm, hs, ht, hp⟩⟩
  · simp only [Value.slice.injEq] at hv
    obtain ⟨rfl, -, rfl⟩ := hv
    subst hn
    obtain rfl : m = 0 := by omega
    rw [Nat.zero_mul, List.take_zero]
    exact hq.row_nil e size A
  · simp only [Value.slice.injEq] at hv
    obtain ⟨rfl, -, rfl⟩ := hv
    refine hp.row_mk (by omega) hcm hs ?_
    rw [← ht, List.take_take]
    congr 1
    have := Nat.mul_le_mul_right size hm
    omega
end Go.Proofs.YthifabopnabjoaaDoor
/- SameTexts: two lists of texts compared. -/
namespace Go.Proofs.YthifabopnabjoaaDoor
open Go.RowKit HP
set_option linter.unusedSimpArgs false
set_option linter.unusedVariables false

theorem val8_cell {w : World} {V : Option Addr} {g o : Nat} {ss : List (Sl Int)} (h : Cells w V (ss.map Sl.val8)) (hV : V = some ⟨g, o, none⟩) {k : Nat} (hk : k < ss.length) : w.cell? ⟨g, o + k, none⟩ = some (.slice (ss[k]).A (ss[k]).l.length (ss[k]).cap) := by
  obtain ⟨a, ha, hc⟩ := h.at_ k (by simpa using hk)
  rw [hV] at ha
  cases ha
  rw [addr_add] at hc
  rw [hc]
  simp [Sl.val8]
theorem val8_addr {w : World} {V : Option Addr} {ss : List (Sl Int)} (h : Cells w V (ss.map Sl.val8)) (hk : 0 < ss.length) : ∃ g o, V = some ⟨g, o, none⟩ := by
  obtain ⟨a, rfl, -⟩ := h.at_ 0 (by simpa using hk)
  obtain ⟨g, o, rfl⟩ := slice_addr h rfl (k := 0) (by simpa using hk)
  exact ⟨g, o, rfl⟩
/-- What one is told of a list of texts. -/
structure Texts (w : World) (V : Option Addr) (ss : List (Sl Int)) : Prop where
  top : Cells w V (ss.map Sl.val8)
  each : ∀ s ∈ ss, Cells w s.A (b8s s.l)
  bytes : ∀ s ∈ ss, Bytes s.l
set_option maxHeartbeats 2000000 in
set_option maxRecDepth 100000 in
theorem equalFunc_ok (V1 V2 : Option Addr) (ss1 ss2 : List (Sl Int)) (n1 n2 c1 c2 : Nat) (w : World) (e1 : ss1.length = n1) (e2 : ss2.length = n2) (k1 : n1 ≤ 4611686018427387904) (k2 : n2 ≤ 4611686018427387904) (h1 : Texts w V1 ss1) (h2 : Texts w V2 ss2) :
    Calls Tryd.prog 32 #[.slice V1 n1 c1, .slice V2 n2 c2, .func (Fn.func 33) #[] #[]] w fun e w' => e = .returned (.bool (decide (ss1.map (·.l) = ss2.map (·.l)))) ∧ w' = w := by
  have HH := Aside.mk (And.intro h1 (And.intro h2 (And.intro e1 e2)))
  clear h1 h2 e1 e2
  by_cases hne : n1 = n2
  · subst hne
    have HV : Aside (0 < n1 → (∃ g o, V1 = some ⟨g, o, none⟩) ∧ ∃ g o, V2 = some ⟨g, o, none⟩) := ⟨fun h => ⟨val8_addr HH.out.1.top (by rw [HH.out.2.2.1]; exact h), val8_addr HH.out.2.1.top (by rw [HH.out.2.2.2]; exact h)⟩⟩
    go_enter Tryd.func32, Tryd.ntmps32
    go_wp2
    go_loopw [17] (fun v17 wr => ∃ k : Nat, k ≤ n1 ∧ v17 = .int .i64 k ∧ Aside (∀ j : Nat, j < k → (ss1.map (·.l))[j]? = (ss2.map (·.l))[j]?) ∧ wr = w) (fun i _ => n1 - (intOf i).toNat)
    case atStart => exact ⟨0, by omega, rfl, ⟨fun j hj => by omega⟩, rfl⟩
    case round =>
      obtain ⟨k, hk, rfl, HE, hwr⟩ := hrel
      subst wr
      by_cases hlt : k < n1
      · obtain ⟨⟨g1, o1, rfl⟩, g2, o2, rfl⟩ := HV.out (by omega)
        have hk1 : k < ss1.length := by rw [HH.out.2.2.1]; exact hlt
        have hk2 : k < ss2.length := by rw [HH.out.2.2.2]; exact hlt
        have x1 := val8_cell HH.out.1.top rfl hk1
        have x2 := val8_cell HH.out.2.1.top rfl hk2
        have X1 : Aside ((ss1.map (·.l))[k]? = some (ss1[k]).l) := ⟨by rw [List.getElem?_map, List.getElem?_eq_getElem hk1]; rfl⟩
        have X2 : Aside ((ss2.map (·.l))[k]? = some (ss2[k]).l) := ⟨by rw [List.getElem?_map, List.getElem?_eq_getElem hk2]; rfl⟩
        have HC := Aside.mk (bytesEq_ok (ss1[k]).A (ss2[k]).A (ss1[k]).l (ss2[k]).l _ _ (ss1[k]).cap (ss2[k]).cap w rfl rfl (HH.out.1.each _ (List.getElem_mem hk1)) (HH.out.2.1.each _ (List.getElem_mem hk2)) (HH.out.1.bytes _ (List.getElem_mem hk1)) (HH.out.2.1.bytes _ (List.getElem_mem hk2)))
        generalize ss1[k] = s1 at *
        generalize ss2[k] = s2 at *
        obtain ⟨m1, hm1⟩ : ∃ m1, m1 = s1.l.length := ⟨_, rfl⟩
        obtain ⟨m2, hm2⟩ : ∃ m2, m2 = s2.l.length := ⟨_, rfl⟩
        rw [← hm1] at x1 HC
        rw [← hm2] at x2 HC
        clear hm1 hm2 hk1 hk2
        have hlt2 : (k : Int) < n1 := by omega
        go_wp2_with fail
        refine HC.out.mono ?_
        rintro e w1 ⟨rfl, hw1⟩
        subst w1
        clear HC x1 x2
        by_cases he : s1.l = s2.l
        · have HE2 : Aside (∀ j : Nat, j < k + 1 → (ss1.map (·.l))[j]? = (ss2.map (·.l))[j]?) := ⟨fun j hj => by
            rcases Nat.lt_or_ge j k with h | h
            · exact HE.out j h
            · obtain rfl : j = k := by omega
              rw [X1.out, X2.out, he]⟩
          rw [decide_eq_true he]
          clear he X1 X2 HE
          go_wp2
          go_roundw
          case rel => exact ⟨k + 1, by omega, by push_cast; rfl, HE2, by first | rfl | trivial⟩
          case measure => simp [intOf]; omega
        · have HX : Aside (decide (ss1.map (·.l) = ss2.map (·.l)) = false) := ⟨decide_eq_false fun h => he (by
            have h1 := X1.out
            rw [h, X2.out] at h1
            exact (Option.some.inj h1).symm)⟩
          rw [decide_eq_false he]
          clear he X1 X2 HE
          go_wp2
          go_ret
          rw [HX.out]
          exact ⟨rfl, rfl⟩
      · obtain rfl : k = n1 := by omega
        have HX : Aside (decide (ss1.map (·.l) = ss2.map (·.l)) = true) := ⟨decide_eq_true (List.ext_getElem? fun j => by
          rcases Nat.lt_or_ge j k with h | h
          · exact HE.out j h
          · rw [List.getElem?_eq_none (by rw [List.length_map, HH.out.2.2.1]; exact h), List.getElem?_eq_none (by rw [List.length_map, HH.out.2.2.2]; exact h)])⟩
        clear HE
        go_wp2
        go_ret
        rw [HX.out]
        exact ⟨rfl, rfl⟩
  · have HX : Aside (decide (ss1.map (·.l) = ss2.map (·.l)) = false) := ⟨decide_eq_false fun h => hne (by
      have := congrArg List.length h
      rw [List.length_map, List.length_map, HH.out.2.2.1, HH.out.2.2.2] at this
      exact this)⟩
    have hne2 : ((n1 : Int) == n2) = false := by rw [beq_eq_false_iff_ne]; omega
    go_enter Tryd.func32, Tryd.ntmps32
    go_wp2
    go_ret
    rw [HX.out]
    exact ⟨rfl, rfl⟩
set_option maxHeartbeats 1000000 in
set_option maxRecDepth 100000 in
theorem sameTexts_ok (V1 V2 : Option Addr) (ss1 ss2 : List (Sl Int)) (n1 n2 c1 c2 : Nat) (w : World) (e1 : ss1.length = n1) (e2 : ss2.length = n2) (k1 : n1 ≤ 4611686018427387904) (k2 : n2 ≤ 4611686018427387904) (h1 : Texts w V1 ss1) (h2 : Texts w V2 ss2) :
    Calls Tryd.prog 20 #[.slice V1 n1 c1, .slice V2 n2 c2] w fun e w' => e = .returned (.bool (decide (ss1.map (·.l) = ss2.map (·.l)))) ∧ w' = w := by
  have HC := Aside.mk (equalFunc_ok V1 V2 ss1 ss2 n1 n2 c1 c2 w e1 e2 k1 k2 h1 h2)
  clear e1 e2 k1 k2 h1 h2
  obtain ⟨b, hb⟩ : ∃ b, b = decide (ss1.map (·.l) = ss2.map (·.l)) := ⟨_, rfl⟩
  rw [← hb] at HC ⊢
  clear hb
  go_enter Tryd.func20, Tryd.ntmps20
  go_wp2_with fail
  refine HC.out.mono ?_
  rintro e w1 ⟨rfl, hw1⟩
  subst w1
  go_wp2
  go_ret
  exact ⟨rfl, rfl⟩
end Go.Proofs.YthifabopnabjoaaDoor
/- The listed table: what the condition gives a walk; the door's own heap meets it. -/
namespace Go.Proofs.YthifabopnabjoaaDoor
open Go.ChangeShapes Go.WideShapes Go.ChangeAt Go.WideMaps Go.WideElems Go.RowKit HP
set_option linter.unusedVariables false

def laidAll : List (String × DataW Unit) := [("dryrot/crc.quarter", Rows.laid_dryrot_crc_quarter)]
theorem gQuarter : Tryd.prog.globalNamed "dryrot/crc.quarter" = some 0 := by kernel_rfl
theorem tQuarter : (Tryd.prog.globals[0]?).map (·.type) = some 109 := by kernel_rfl
theorem door_met (os : Os) (args : Array Value) : laidMetH Tryd.prog laidAll ((World.doorLaid Tryd.prog 400 os).forCall (fun _ _ => 0) ⟨#[], args, []⟩).memory :=
  laidMetH_of_parts3 (fuel := 8) (laidMet_of_run' 8 (by kernel_rfl) (by kernel_rfl)) (by kernel_rfl) (by kernel_rfl)
theorem quarter_of_laid {W : World} (h : laidMetH Tryd.prog laidAll W) : Quarter W := by
  rw [MakeChecks.laidMetH_plain _ _ _ (by kernel_rfl)] at h
  obtain ⟨ps, ⟨g0, t0, cs0, f0, p0, q0, hg0, ht0, hv0, hd0, _, _⟩, _, _⟩ := h
  obtain rfl := Option.some.inj (gQuarter.symm.trans hg0)
  obtain rfl := Option.some.inj (tQuarter.symm.trans ht0)
  obtain ⟨xs, m1, rfl, hx1, hlen, hn3, hel⟩ := DataW.trod_array Tryd.underlying109 hd0
  have c3 : Tryd.prog.cellsOf 91 = 1 := by kernel_rfl
  simp only [Prod.mk.injEq, DataW.agg.injEq, Rows.laid_dryrot_crc_quarter] at hx1
  intro i hi
  have hi' := hel i hi
  rw [c3, Nat.mul_one] at hi'
  have hxl : i < xs.length := by omega
  rw [List.getElem?_eq_getElem hxl] at hi'
  obtain ⟨k, e1, e2, _⟩ := DataW.trod_int Tryd.underlying91 hi'
  have e3 : (xs.map (·.1))[i]? = some (DataW.lit (.int .u32 k)) := by
    rw [List.getElem?_map, List.getElem?_eq_getElem hxl]
    simp [e2]
  rw [← hx1.1] at e3
  have hk : k = quarterN i := by
    match i, hi with
    | 0, _ => simpa [quarterN] using e3.symm
    | 1, _ => simpa [quarterN] using e3.symm
    | 2, _ => simpa [quarterN] using e3.symm
    | 3, _ => simpa [quarterN] using e3.symm
  have e4 := World.var?_cell hg0 hv0 i
  have e5 : cs0.toList[i]? = some (.int .u32 k) := by
    have := congrArg (fun l => l[0]?) e1
    simpa [List.getElem?_take] using this
  rw [Array.getElem?_toList, hk] at e5
  rw [← e5, ← e4]
end Go.Proofs.YthifabopnabjoaaDoor
/- What the laws' cards share. -/
namespace Go.Proofs.YthifabopnabjoaaDoor
open Go.ChangeShapes Go.WideShapes Go.ChangeAt Go.RowKit HP
set_option linter.unusedVariables false

theorem old_carry {E : Env} {W w : World} (h : Sat E w (HP.old W)) : ∀ k, k < W.heap.size → w.heap[k]? = W.heap[k]? := fun k hk => Sat.old_block (p := HP.emp) (by rw [HP.mul_emp]; exact h) k hk
theorem quarter_old {E : Env} {W w : World} (hQ : Quarter W) (h : Sat E w (HP.old W)) : Quarter w := fun i hi => by
  rw [World.cell?_of_block (w := W) (old_carry h _ (World.block_lt_of_cell? W _ (hQ i hi)))]
  exact hQ i hi
theorem trodAll_five {H : Type} {enc : TypeId × Value → H} {P : Program} {w : World} {base : Nat} {spare : Nat → Bool} {held : Bool} {t t' t'' t3 t4 : TypeId} {args : Array Value} {ds : List (DataW H)} {ps : List MemPlace} (h : DataW.TrodAll enc P w base spare held [t, t', t'', t3, t4] args.toList ds ps) :
    ∃ v v' v'' v3 v4 d d' d'' d3 d4 p p' p'' p3 p4, args = #[v, v', v'', v3, v4] ∧ ds = [d, d', d'', d3, d4] ∧ ps = p ++ p' ++ p'' ++ p3 ++ p4 ∧ DataW.Trod enc P w base spare held t v d p ∧ DataW.Trod enc P w base spare held t' v' d' p' ∧ DataW.Trod enc P w base spare held t'' v'' d'' p'' ∧ DataW.Trod enc P w base spare held t3 v3 d3 p3 ∧ DataW.Trod enc P w base spare held t4 v4 d4 p4 := by
  obtain ⟨v, vs, d, ds', p, q, hargs, rfl, rfl, hd, hrest⟩ := trodAll_cons h
  obtain ⟨v', vs', d', ds'', p', q', rfl, rfl, rfl, hd', hrest'⟩ := trodAll_cons hrest
  obtain ⟨v'', vs'', d'', ds''', p'', q'', rfl, rfl, rfl, hd'', hrest''⟩ := trodAll_cons hrest'
  obtain ⟨v3, vs3, d3, ds3, p3, q3, rfl, rfl, rfl, hd3, hrest3⟩ := trodAll_cons hrest''
  obtain ⟨v4, vs4, d4, ds4, p4, q4, rfl, rfl, rfl, hd4, hrest4⟩ := trodAll_cons hrest3
  obtain ⟨rfl, rfl, rfl⟩ := trodAll_nil hrest4
  exact ⟨v, v', v'', v3, v4, d, d', d'', d3, d4, p, p', p'', p3, p4, by cases args; simp_all, rfl, by simp, hd, hd', hd'', hd3, hd4⟩
theorem rdB_at : (rdSl (rdInt .u8)).At Tryd.prog 22 := rdSl_at (n := 1) Tryd.underlying22 (by kernel_rfl) (rdInt_at Tryd.underlying5)
end Go.Proofs.YthifabopnabjoaaDoor
