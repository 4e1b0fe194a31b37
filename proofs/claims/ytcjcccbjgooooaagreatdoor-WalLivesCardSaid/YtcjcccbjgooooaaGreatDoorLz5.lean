/- Texts of one claim, one behind the other: PtC, ExtA, ExtB, ExtF, ExtO, DiskM, DiskRm, Nones, PairA, PairW, PairP, RefA3, RefB3, LeftZ, RegM, WpA. -/
import Derived.Test.YtcjcccbjgooooaaGreatDoorLz4
import Derived.Laws.IdiomStrings
import Derived.Laws.RangeAny
import Derived.Laws.RangeString
/- Copying into an array of one's own; a string's bytes. -/
namespace Go.Proofs.YtcjcccbjgooooaaGreatDoor
open Go.RowKit HP
set_option linter.unusedSimpArgs false
set_option linter.unusedVariables false

/-- A text's bytes. -/
def strB (s : ByteArray) : List Int := s.data.toList.map fun b => (b.toNat : Int)
theorem strB_length (s : ByteArray) : (strB s).length = s.size := by
  unfold strB
  rw [List.length_map, Array.length_toList]
  rfl
theorem strB_bytes (s : ByteArray) : Bytes (strB s) := fun x hx => by
  obtain ⟨b, _, rfl⟩ := List.mem_map.1 hx
  have := b.toNat_lt
  omega
theorem z_bytes (n : Nat) : Bytes (List.replicate n 0) := fun x hx => by
  have := List.eq_of_mem_replicate hx
  omega
theorem Bytes.append {a b : List Int} (ha : Bytes a) (hb : Bytes b) : Bytes (a ++ b) := fun x hx => by
  rcases List.mem_append.1 hx with h | h
  · exact ha x h
  · exact hb x h
theorem zero_at {a : List Int} {n off : Nat} (ho : off = a.length) : (b8s (a ++ List.replicate (n + 1) 0)).toArray[off]? = some (.int .u8 0) := by
  subst ho
  simp [b8s]
theorem set_zero {a : List Int} {n off : Nat} {x : Int} (ho : off = a.length) : (b8s (a ++ List.replicate (n + 1) 0)).toArray.setIfInBounds off (.int .u8 x) = (b8s (a ++ [x] ++ List.replicate n 0)).toArray := by
  subst ho
  rw [List.setIfInBounds_toArray]
  congr 1
  unfold b8s
  rw [← List.map_set, List.replicate_succ, List.set_append_right _ _ (Nat.le_refl _), Nat.sub_self, List.set_cons_zero, List.append_assoc]
  rfl
theorem b8s_append (a b : List Int) : b8s (a ++ b) = b8s a ++ b8s b := by unfold b8s; rw [List.map_append]
/-- What is copied to the front of the zeros. -/
theorem splice_zero {a c : List Int} {n off : Nat} (ho : off = a.length) (hc : c.length ≤ n) : splice (b8s (a ++ List.replicate n 0)) off (b8s c) = b8s (a ++ c ++ List.replicate (n - c.length) 0) := by
  have e : List.replicate n (0 : Int) = List.replicate c.length 0 ++ List.replicate (n - c.length) 0 := by rw [List.replicate_append_replicate, Nat.add_sub_cancel' hc]
  rw [e, b8s_append, b8s_append, splice_mid _ _ _ _ (by rw [b8s_length, ho]) (by rw [b8s_length, b8s_length, List.length_replicate]), b8s_append, b8s_append, List.append_assoc]

section
variable {P : Program} {E : Env} {q : HP} {w : World}
theorem Sat.ptCells {g : Nat} {t : TypeId} {L : List Value} {fr : Nat × Nat} (h : Sat E w (HP.pt g (.cells L.toArray t fr) * q)) {off : Nat} {l : List Value} (hs : (L.drop off).take l.length = l) : Cells w (some ⟨g, off, none⟩) l := fun j u hj => by
  refine ⟨_, rfl, ?_⟩
  rw [addr_add, h.cell]
  have hjl : j < l.length := (List.getElem?_eq_some_iff.1 hj).1
  rw [← hs, List.getElem?_take_of_lt hjl, List.getElem?_drop] at hj
  simpa using hj
/-- 'copy(x[off:], src)', x an array of one's own. -/
theorem run_copy_pt {dT sT ty e t : TypeId} {g off n c m k : Nat} {A : Option Addr} {L src : List Int} (hu : P.underlying dT = some (.slice e)) (hs : (P.info? e).map (·.size) = some 1) (h : Sat E w (HP.pt g (.cells (b8s L).toArray t) * q))
    (hm : src.length = m) (hmn : m ≤ n) (hfit : off + m ≤ L.length) (hsrc : Cells w A (b8s src)) :
    ∃ w', (Builtin.copy_ #[dT, sT] ty #[.slice (some ⟨g, off, none⟩) n c, .slice A m k]).run P w = .ok (goInt m) w' ∧ Sat E w' (HP.pt g (.cells (splice (b8s L) off (b8s src)).toArray t) * q) := by
  obtain ⟨i, hi⟩ : ∃ i, P.info? e = some i := by
    cases hq : P.info? e with
    | none => simp [hq] at hs
    | some i => exact ⟨i, rfl⟩
  have hi1 : i.size = 1 := by simpa [hi] using hs
  cases A with
  | none =>
    have hs0 : src = [] := by
      cases src with
      | nil => rfl
      | cons x l => obtain ⟨a, ha, _⟩ := hsrc.at_ 0 (by simp [b8s]); cases ha
    subst hs0
    obtain rfl : m = 0 := by simpa using hm.symm
    refine ⟨w, ?_, ?_⟩
    · have hmin : Nat.min 0 n = 0 := Nat.zero_min n
      simp [Builtin.copy_, run_underlying hu, Builtin.lenOf, Builtin.firstCells, sizeOf, typeInfo, hi, hi1, hmin, storeCells, loadCells, loadCellsFrom]
    · have e0 : splice (b8s L) off (b8s []) = b8s L := by simp [splice, b8s]
      rw [e0]; exact h
  | some a =>
    have hr := run_copy_row (P := P) w dT sT ty e g off n c a m k _ t (b8s src) hu hs h.get (by rw [b8s_length, hm]; exact (Nat.min_eq_left hmn).symm) (fun j u hj => hsrc.some_ j u hj) (by rw [b8s_length, hm, List.size_toArray, b8s_length]; exact hfit) (fun v hv => List.all_eq_true.1 (b8s_one src) v hv)
    rw [b8s_length, hm] at hr
    refine ⟨_, hr, ?_⟩
    have h2 := h.splice (splice (b8s L) off (b8s src))
    unfold splice at h2
    rw [b8s_length, hm] at h2
    unfold splice
    rw [b8s_length, hm]
    exact h2
theorem wpList_copy_pt {ops : Array Oper} {rest : List Oper} {o : Oper} {a : Act} {Q : Exit → Act → World → Prop} {x y : Operand} {dT sT e t : TypeId} {g off n c m k : Nat} {A : Option Addr} {L src : List Int} (hu : P.underlying dT = some (.slice e)) (hs : (P.info? e).map (·.size) = some 1)
    (hg : o.guard = none) (ho : o.op = .call { callee := .builtin .copy, args := #[x, y], argTypes := #[dT, sT] }) (hx : a.eval x = .slice (some ⟨g, off, none⟩) n c) (hy : a.eval y = .slice A m k) (h : Sat E w (HP.pt g (.cells (b8s L).toArray t) * q))
    (hm : src.length = m) (hmn : m ≤ n) (hfit : off + m ≤ L.length) (hsrc : Cells w A (b8s src))
    (hk : ∀ w', Sat E w' (HP.pt g (.cells (splice (b8s L) off (b8s src)).toArray t) * q) → wpList P ops Q rest (a.put o.dst (goInt m)) w') : wpList P ops Q (o :: rest) a w := by
  obtain ⟨w', hr, h2⟩ := run_copy_pt (sT := sT) (ty := o.type) (k := k) (c := c) hu hs h hm hmn hfit hsrc
  refine wpList_plain hg fun K hK => ?_
  exact wp_copy_run ho hx hy hr (hK _ _ (hk w' h2))
theorem wp_copy_pt (dn : Option Nat) {o : Oper} {a : Act} {K : Act → World → Prop} {Q : Exit → Act → World → Prop} {x y : Operand} {dT sT e t : TypeId} {g off n c m k : Nat} {A : Option Addr} {L src : List Int} (hd : o.dst = dn) (hu : P.underlying dT = some (.slice e)) (hs : (P.info? e).map (·.size) = some 1)
    (ho : o.op = .call { callee := .builtin .copy, args := #[x, y], argTypes := #[dT, sT] }) (hx : a.eval x = .slice (some ⟨g, off, none⟩) n c) (hy : a.eval y = .slice A m k) (h : Sat E w (HP.pt g (.cells (b8s L).toArray t) * q))
    (hm : src.length = m) (hmn : m ≤ n) (hfit : off + m ≤ L.length) (hsrc : Cells w A (b8s src))
    (hk : ∀ w', Sat E w' (HP.pt g (.cells (splice (b8s L) off (b8s src)).toArray t) * q) → K (a.put dn (goInt m)) w') : o.wp P a w K Q := by
  subst hd
  obtain ⟨w', hr, h2⟩ := run_copy_pt (sT := sT) (ty := o.type) (k := k) (c := c) hu hs h hm hmn hfit hsrc
  exact wp_copy_run ho hx hy hr (hk w' h2)
/-- '[]byte(s)'. -/
theorem run_str_bytes {src dst e : TypeId} (hs : P.underlying src = some .string) (hd : P.underlying dst = some (.slice e)) (he : P.underlying e = some (.int .u8)) (s : ByteArray) (h : Sat E w q) :
    ∃ g cap w', (convert src dst (.string s)).run P w = .ok (.slice (some ⟨g, 0, none⟩) s.size cap) w' ∧ Sat E w' q ∧ Cells w' (some ⟨g, 0, none⟩) (b8s (strB s)) := by
  refine ⟨_, _, _, run_bytes_of_string w src dst e s hs hd he, ?_, ?_⟩
  · exact (h.drew.alloc _).right
  · have h1 := h.drew.alloc (.cells (bytesRow s (grownCap w s.size 0 e)) e ((bytesRow s (grownCap w s.size 0 e)).size, (bytesRow s (grownCap w s.size 0 e)).size + 1))
    have e1 : bytesRow s (grownCap w s.size 0 e) = (b8s (strB s) ++ List.replicate (grownCap w s.size 0 e - s.size) (Value.int .u8 0)).toArray := by
      apply Array.toList_inj.1
      simp [bytesRow, b8s, strB]
    have h2 := h1
    rw [e1] at h2
    have h3 := Sat.ptCells (off := 0) (l := b8s (strB s)) h2 (by simp)
    rw [← e1] at h3
    exact h3
theorem wp_value_run {o : Oper} {a : Act} {w' : World} {K : Act → World → Prop} {Q : Exit → Act → World → Prop} {v : Value} (hr : (execOp a.eval o).run P w = .ok (.value v) w') (hk : K (a.put o.dst v) w') : o.wp P a w K Q := by
  unfold Oper.wp
  rw [hr]
  exact hk
theorem exec_convert {o : Oper} {a : Act} {w' : World} {s d : TypeId} {x : Operand} {v V : Value} (ho : o.op = .convert s d x) (hx : a.eval x = v) (hr : (convert s d v).run P w = .ok V w') : (execOp a.eval o).run P w = .ok (.value V) w' := by
  unfold execOp
  rw [ho]
  simp only [hx, Sem.run_bind, hr, Result.andThen_ok]
  rfl
end
end Go.Proofs.YtcjcccbjgooooaaGreatDoor
/- Extents: the bytes; copying into an array of one's own; a string's bytes. -/
namespace Go.Proofs.YtcjcccbjgooooaaGreatDoor
open Go.RowKit HP
set_option linter.unusedSimpArgs false
set_option linter.unusedVariables false

/-- An extent's bytes without the sum. -/
def extH (name : ByteArray) (index gen : Nat) (p : List Int) : List Int :=
  [229] ++ putI (crcSum (strB name)) 4 ++ putI index 4 ++ putI gen 8 ++ [(p.length : Int)] ++ p ++ List.replicate (106 - p.length) 0
def extI (name : ByteArray) (index gen : Nat) (p : List Int) : List Int := extH name index gen p ++ putI (crcSum (extH name index gen p)) 4
theorem extH_length {name : ByteArray} {index gen : Nat} {p : List Int} (h : p.length ≤ 106) : (extH name index gen p).length = 124 := by
  simp only [extH, List.length_append, List.length_cons, List.length_nil, putI_length, List.length_replicate]
  omega
theorem extI_length {name : ByteArray} {index gen : Nat} {p : List Int} (h : p.length ≤ 106) : (extI name index gen p).length = 128 := by
  rw [extI, List.length_append, extH_length h, putI_length]
theorem extH_bytes {name : ByteArray} {index gen : Nat} {p : List Int} (h : p.length ≤ 106) (hp : Bytes p) : Bytes (extH name index gen p) := by
  unfold extH
  refine ((((((Bytes.append ?_ (putI_bytes _ _)).append (putI_bytes _ _)).append (putI_bytes _ _)).append ?_).append hp).append (z_bytes _))
  · intro x hx; simp at hx; omega
  · intro x hx; simp at hx; omega
theorem extI_bytes {name : ByteArray} {index gen : Nat} {p : List Int} (h : p.length ≤ 106) (hp : Bytes p) : Bytes (extI name index gen p) := (extH_bytes h hp).append (putI_bytes _ _)

theorem crc_sum_n (A : Option Addr) (l : List Int) (n c : Nat) (w : World) (hln : l.length = n) (hq : Quarter w) (hl : n ≤ maxLen) (hb : Bytes l) (hc : Cells w A (b8s l)) :
    Calls Tryz.prog 117 #[.slice A n c] w fun e w' => e = .returned (.int .u32 (crcSum l)) ∧ w' = w := by
  subst hln
  exact crc_sum A l c w hq hl hb hc
end Go.Proofs.YtcjcccbjgooooaaGreatDoor
/- extent.build. -/
namespace Go.Proofs.YtcjcccbjgooooaaGreatDoor
open Go.RowKit HP
set_option linter.unusedSimpArgs false
set_option linter.unusedVariables false

theorem results_cell {P : Program} {fn : Func} {t : Tmp} {ty : TypeId} (h : fn.results = #[.cell t ty]) {tmps : Array Value} {w : World} {a : Addr} {V : Value} (ha : tmps.getD t undef = .pointer (some a)) (hr : (loadVar ty a).run P w = .ok V w) : (results fn tmps).run P w = .ok V w := by
  have ha' : tmps[t]?.getD undef = .pointer (some a) := by simpa using ha
  unfold results
  rw [h]
  simp [ha', asAddr, hr]
theorem agExt : AgTy Tryz.prog 133 128 := ⟨⟨_, Tryz.underlying133, rfl⟩, by kernel_rfl⟩
theorem zero_ext : (b8s (List.replicate 128 0)).toArray = Tryz.zeroCells133 := by kernel_rfl
theorem zero_ext1 : Tryz.zeroCells133.setIfInBounds 0 (.int .u8 229) = (b8s ([229] ++ List.replicate 127 0)).toArray := by kernel_rfl
set_option maxHeartbeats 2000000 in
set_option maxRecDepth 100000 in
theorem ext_build (E : Env) (q : HP) (name : ByteArray) (index gen : Nat) (A : Option Addr) (p : List Int) (n c : Nat) (w : World) (hname : name.size ≤ maxLen) (hi : index < 4294967296) (hg : gen < 18446744073709551616) (hpn : p.length = n) (hn : n ≤ 106) (hp : Bytes p)
    (hq : ∀ w, Sat E w q → Quarter w ∧ Cells w A (b8s p)) (hw : Sat E w q) :
    Calls Tryz.prog 86 #[.string name, .int .i64 index, .int .i64 gen, .slice A n c] w fun e w' => e = .returned (.agg (b8s (extI name index gen p)).toArray) ∧ Sat E w' q := by
  have h0 := (hw.alloc (.cells Tryz.zeroCells133 133)).alloc (.cells (Tryz.zeroCells133.setIfInBounds 0 (.int .u8 229)) 133)
  rw [show (w.alloc (.cells Tryz.zeroCells133 133)).heap.size = w.heap.size + 1 by simp, zero_ext1] at h0
  have HQ := Aside.mk (And.intro hq (And.intro hp hpn))
  clear hq hw hp hpn
  go_enter Tryz.func86, Tryz.ntmps86
  go_wp2
  rw [zero_ext1]
  generalize World.alloc (World.alloc w _) _ = w1 at *
  generalize w.heap.size + 1 = g at *
  generalize w.heap.size = g0 at *
  refine region_R [2, 3, 5, 6] [] (fun _ => True) #[false, false, false, false, false, false, false] (by kernel_rfl) rfl rfl ?_
  refine wpR_pu 0 #[true, false, false, false, false, false, false] rfl onlyN_noPanic (by kernel_rfl) (fun K hK => ?_); (go_simp; try go_bits); refine hK _ ?_; clear hK K
  refine wpR_rd 1 #[true, true, false, false, false, false, false] rfl onlyN_noPanic (by kernel_rfl) (fun K hK => ?_); (go_simp; try go_bits); refine hK _ ?_; clear hK K
  refine wpR_eff #[true, true, true, false, false, false, false] (i := 2) rfl (by kernel_rfl) (fun K hK => ?_)
  obtain ⟨gs, cs, w2, hr2, h2, c2⟩ := run_str_bytes (dst := 28) Tryz.underlying9 Tryz.underlying28 Tryz.underlying5 name h0.drew
  refine Eq.mpr (if_pos (by rfl)) ?_
  refine wp_value_run (exec_convert rfl rfl hr2) ?_
  simp only [Act.put, List.setIfInBounds_toArray, List.set_cons_zero, List.set_cons_succ]
  refine hK _ _ ?_; clear hK K hr2
  refine wpR_eff #[true, true, true, true, false, false, false] (i := 3) rfl (by kernel_rfl) (fun K hK => ?_)
  go_simp
  refine (crc_sum_n _ (strB name) name.size cs w2 (strB_length _) (HQ.out.1 _ h2.right.right).1 hname (strB_bytes _) c2).mono ?_
  rintro e w3 ⟨rfl, rfl⟩
  obtain ⟨S, hS⟩ : ∃ S, S = crcSum (strB name) := ⟨_, rfl⟩
  have hS4 : S < 4294967296 := by rw [hS]; exact crcSum_lt (strB_bytes _)
  rw [← hS]
  have HS := Aside.mk hS
  clear hS
  refine hK _ _ ?_; clear hK K c2
  refine wpR_rd 4 #[true, true, true, true, true, false, false] rfl onlyN_noPanic (by kernel_rfl) (fun K hK => ?_); (go_simp; try go_bits); refine hK _ ?_; clear hK K
  refine wpR_eff #[true, true, true, true, true, true, false] (i := 5) rfl (by kernel_rfl) (fun K hK => ?_)
  go_simp
  refine (crc_put E _ S 4 w3 (by omega) (by omega) h2).mono ?_
  rintro e w4 ⟨gp, rfl, h4⟩
  refine hK _ _ ?_; clear hK K h2
  refine wpR_eff #[true, true, true, true, true, true, true] (i := 6) rfl (by kernel_rfl) (fun K hK => ?_)
  refine Eq.mpr (if_pos (by rfl)) ?_
  refine wp_copy_pt (some 17) (L := [229] ++ List.replicate 127 0) (src := putI S 4) rfl slB8.under (by kernel_rfl) rfl rfl rfl h4.s2 (putI_length _ _) (by omega) (by decide) h4.row_cells (fun w5 h5 => ?_)
  rw [splice_zero (a := [229]) (off := 1) (c := putI S 4) (n := 127) rfl (by rw [putI_length]; omega), putI_length] at h5
  have h5 := h5.drop2
  simp only [Act.put, List.setIfInBounds_toArray, List.set_cons_zero, List.set_cons_succ]
  refine hK _ _ ?_; clear hK K h4
  refine wpR_done (by kernel_rfl) ?_ _
  simp only [OnlyN]
  go_wp2
  refine region_R [3, 4] [] (fun _ => True) #[false, false, false, false, false] (by kernel_rfl) rfl rfl ?_
  refine wpR_pu 0 #[true, false, false, false, false] rfl onlyN_noPanic (by kernel_rfl) (fun K hK => ?_); (go_simp; try go_bits); refine hK _ ?_; clear hK K
  refine wpR_rd 1 #[true, true, false, false, false] rfl onlyN_noPanic (by kernel_rfl) (fun K hK => ?_); (go_simp; try go_bits); refine hK _ ?_; clear hK K
  refine wpR_rd 2 #[true, true, true, false, false] rfl onlyN_noPanic (by kernel_rfl) (fun K hK => ?_); (go_simp; try go_bits); refine hK _ ?_; clear hK K
  refine wpR_eff #[true, true, true, true, false] (i := 3) rfl (by kernel_rfl) (fun K hK => ?_)
  go_simp
  refine (crc_put E _ index 4 _ (by omega) (by omega) (h5.drew)).mono ?_
  rintro e w6 ⟨gp5, rfl, h6⟩
  refine hK _ _ ?_; clear hK K h5
  refine wpR_eff #[true, true, true, true, true] (i := 4) rfl (by kernel_rfl) (fun K hK => ?_)
  refine Eq.mpr (if_pos (by rfl)) ?_
  refine wp_copy_pt (some 22) (L := [229] ++ putI S 4 ++ List.replicate 123 0) (src := putI index 4) rfl slB8.under (by kernel_rfl) rfl rfl rfl h6.s2 (putI_length _ _) (by omega) (by simp [putI_length]) h6.row_cells (fun w7 h7 => ?_)
  rw [splice_zero (a := [229] ++ putI S 4) (off := 5) (c := putI index 4) (n := 123) (by simp [putI_length]) (by rw [putI_length]; omega), putI_length] at h7
  have h7 := h7.drop2
  simp only [Act.put, List.setIfInBounds_toArray, List.set_cons_zero, List.set_cons_succ]
  refine hK _ _ ?_; clear hK K h6
  refine wpR_done (by kernel_rfl) ?_ _
  simp only [OnlyN]
  go_wp2
  refine region_R [3, 4] [] (fun _ => True) #[false, false, false, false, false] (by kernel_rfl) rfl rfl ?_
  refine wpR_pu 0 #[true, false, false, false, false] rfl onlyN_noPanic (by kernel_rfl) (fun K hK => ?_); (go_simp; try go_bits); refine hK _ ?_; clear hK K
  refine wpR_rd 1 #[true, true, false, false, false] rfl onlyN_noPanic (by kernel_rfl) (fun K hK => ?_); (go_simp; try go_bits); refine hK _ ?_; clear hK K
  refine wpR_rd 2 #[true, true, true, false, false] rfl onlyN_noPanic (by kernel_rfl) (fun K hK => ?_); (go_simp; try go_bits); refine hK _ ?_; clear hK K
  refine wpR_eff #[true, true, true, true, false] (i := 3) rfl (by kernel_rfl) (fun K hK => ?_)
  go_simp
  refine (crc_put E _ gen 8 _ (by omega) (by omega) (h7.drew)).mono ?_
  rintro e w8 ⟨gp7, rfl, h8⟩
  refine hK _ _ ?_; clear hK K h7
  refine wpR_eff #[true, true, true, true, true] (i := 4) rfl (by kernel_rfl) (fun K hK => ?_)
  refine Eq.mpr (if_pos (by rfl)) ?_
  refine wp_copy_pt (some 27) (L := [229] ++ putI S 4 ++ putI index 4 ++ List.replicate 119 0) (src := putI gen 8) rfl slB8.under (by kernel_rfl) rfl rfl rfl h8.s2 (putI_length _ _) (by omega) (by simp [putI_length]) h8.row_cells (fun w9 h9 => ?_)
  rw [splice_zero (a := [229] ++ putI S 4 ++ putI index 4) (off := 9) (c := putI gen 8) (n := 119) (by simp [putI_length]) (by rw [putI_length]; omega), putI_length] at h9
  have h9 := h9.drop2
  simp only [Act.put, List.setIfInBounds_toArray, List.set_cons_zero, List.set_cons_succ]
  refine hK _ _ ?_; clear hK K h8
  refine wpR_done (by kernel_rfl) ?_ _
  simp only [OnlyN]
  have hP3 : 17 = ([229] ++ putI S 4 ++ putI index 4 ++ putI gen 8).length := by simp [putI_length]
  have c17 := h9.cell 17
  rw [show 119 - 8 = 110 + 1 from rfl, zero_at hP3] at c17
  have f17 := h9.thaw 17
  have h10 := h9.set (i := 17) (.int .u8 (n : Int))
  rw [show 119 - 8 = 110 + 1 from rfl, set_zero hP3] at h10
  clear h9
  clear h9 hP3 h7 h5 h0
  go_wp2_with (first | (at_builtin; fail) | (refine wpList_copy_pt (L := [229] ++ putI S 4 ++ putI index 4 ++ putI gen 8 ++ [(n : Int)] ++ List.replicate 110 0) (src := p) slB8.under (by kernel_rfl) rfl rfl rfl rfl h10 HQ.out.2.2 (by omega) (by simp [putI_length]; omega) (HQ.out.1 _ h10.right.right).2 (fun w11 h11 => ?_); have H11 := Aside.mk h11; clear h11))
  have h11 := H11.out
  clear H11
  rw [splice_zero (a := [229] ++ putI S 4 ++ putI index 4 ++ putI gen 8 ++ [(n : Int)]) (off := 18) (c := p) (n := 110) (by simp [putI_length]) (by rw [HQ.out.2.2]; omega), HQ.out.2.2] at h11
  clear c17 f17 h10
  have hH : b8s ([229] ++ putI S 4 ++ putI index 4 ++ putI gen 8 ++ [(n : Int)] ++ p ++ List.replicate (110 - n) 0) = b8s (extH name index gen p ++ List.replicate 4 0) := by
    have e : List.replicate (110 - n) (0 : Int) = List.replicate (106 - n) 0 ++ List.replicate 4 0 := by
      rw [List.replicate_append_replicate]
      congr 1
      omega
    rw [e]
    unfold extH
    rw [HS.out, HQ.out.2.2]
    simp only [List.append_assoc]
  rw [hH] at h11
  have hpl : p.length ≤ 106 := by rw [HQ.out.2.2]; exact hn
  have hHl := extH_length (name := name) (index := index) (gen := gen) hpl
  have hHb := extH_bytes (name := name) (index := index) (gen := gen) hpl HQ.out.2.1
  have HI : Aside (extI name index gen p = extH name index gen p ++ putI (crcSum (extH name index gen p)) 4) := ⟨rfl⟩
  obtain ⟨H, hHe⟩ : ∃ H, H = extH name index gen p := ⟨_, rfl⟩
  rw [← hHe] at h11 hHl hHb HI
  clear hH hpl hHe
  have HB := Aside.mk (And.intro hHl hHb)
  clear hHl hHb
  simp only [Act.put, List.setIfInBounds_toArray, List.set_cons_zero, List.set_cons_succ]
  refine region_R [2, 4, 5] [] (fun _ => True) #[false, false, false, false, false, false] (by kernel_rfl) rfl rfl ?_
  refine wpR_pu 0 #[true, false, false, false, false, false] rfl onlyN_noPanic (by kernel_rfl) (fun K hK => ?_); (go_simp; try go_bits); refine hK _ ?_; clear hK K
  refine wpR_rd 1 #[true, true, false, false, false, false] rfl onlyN_noPanic (by kernel_rfl) (fun K hK => ?_); (go_simp; try go_bits); refine hK _ ?_; clear hK K
  refine wpR_eff #[true, true, true, false, false, false] (i := 2) rfl (by kernel_rfl) (fun K hK => ?_)
  go_simp
  have h12 := h11.drew
  have c12 := Sat.ptCells (off := 0) (l := b8s H) h12 (by rw [List.drop_zero, b8s_append, List.take_left])
  refine (crc_sum_n _ H 124 128 _ HB.out.1 (HQ.out.1 _ h12.right.right).1 (by unfold maxLen; omega) HB.out.2 c12).mono ?_
  rintro e w12 ⟨rfl, rfl⟩
  obtain ⟨T, hT⟩ : ∃ T, T = crcSum H := ⟨_, rfl⟩
  have hT4 : T < 4294967296 := by rw [hT]; exact crcSum_lt HB.out.2
  rw [← hT] at HI ⊢
  clear hT c12
  refine hK _ _ ?_; clear hK K
  refine wpR_rd 3 #[true, true, true, true, false, false] rfl onlyN_noPanic (by kernel_rfl) (fun K hK => ?_); (go_simp; try go_bits); refine hK _ ?_; clear hK K
  refine wpR_eff #[true, true, true, true, true, false] (i := 4) rfl (by kernel_rfl) (fun K hK => ?_)
  go_simp
  refine (crc_put E _ T 4 _ (by omega) (by omega) h12).mono ?_
  rintro e w13 ⟨gp12, rfl, h13⟩
  refine hK _ _ ?_; clear hK K h12 h11
  refine wpR_eff #[true, true, true, true, true, true] (i := 5) rfl (by kernel_rfl) (fun K hK => ?_)
  refine Eq.mpr (if_pos (by rfl)) ?_
  refine wp_copy_pt (some 40) (L := H ++ List.replicate 4 0) (src := putI T 4) rfl slB8.under (by kernel_rfl) rfl rfl rfl h13.s2 (putI_length _ _) (by omega) (by rw [List.length_append, HB.out.1]; exact Nat.le_refl _) h13.row_cells (fun w14 h14 => ?_)
  rw [splice_zero (a := H) (off := 124) (c := putI T 4) (n := 4) HB.out.1.symm (by rw [putI_length]; omega), putI_length, Nat.sub_self, List.replicate_zero, List.append_nil, ← HI.out] at h14
  have h15 := h14.drop2
  clear h14
  simp only [Act.put, List.setIfInBounds_toArray, List.set_cons_zero, List.set_cons_succ]
  refine hK _ _ ?_; clear hK K h13
  refine wpR_done (by kernel_rfl) ?_ _
  simp only [OnlyN]
  have hIl : (extI name index gen p).length = 128 := extI_length (by rw [HQ.out.2.2]; exact hn)
  obtain ⟨I, hIe⟩ : ∃ I, I = extI name index gen p := ⟨_, rfl⟩
  rw [← hIe] at hIl h15
  have HI2 := Aside.mk hIl
  have HIe := Aside.mk hIe
  clear hIl HI hIe
  have r1 := run_loadAgg agExt (by rw [b8s_length]; exact HI2.out) (Sat.ptCells (off := 0) (l := b8s I) h15 (by rw [List.drop_zero, List.take_length]))
  have r2 := run_storeAgg agExt (g := g0) (off := 0) (cs := b8s I) h15.s2.get (by rw [b8s_length]; exact HI2.out) (by rw [← zero_ext]; simp [b8s_length]) (b8s_one I)
  have h16 := h15.s2.splice (splice Tryz.zeroCells133.toList 0 (b8s I))
  have e16 : splice Tryz.zeroCells133.toList 0 (b8s I) = b8s I := by
    rw [← zero_ext]
    unfold splice
    rw [List.take_zero, List.nil_append, Nat.zero_add, List.drop_of_length_le (by simp [b8s_length, HI2.out]), List.append_nil]
  rw [e16] at h16 r2
  have r3 := run_loadAgg agExt (by rw [b8s_length]; exact HI2.out) (Sat.ptCells (off := 0) (l := b8s I) h16 (by rw [List.drop_zero, List.take_length]))
  have H16 := Aside.mk h16
  clear h15 h16 e16
  generalize World.setRow w14 g0 (b8s I).toArray = w16 at *
  go_wp2_with (first | (refine wpList_load_run rfl rfl rfl r1 ?_) | (refine wpList_store_run rfl rfl rfl rfl rfl r2 ?_))
  simp only [Act.put, List.setIfInBounds_toArray, List.set_cons_zero, List.set_cons_succ]
  have r4 : (loadVar 133 ⟨g0, 0, none⟩).run Tryz.prog w16 = .ok (.agg (b8s (extI name index gen p)).toArray) w16 := by rw [← HIe.out]; exact r3
  exact ⟨rfl, _, results_cell (t := 8) (by kernel_rfl) rfl r4, rfl, H16.out.right.right⟩
end Go.Proofs.YtcjcccbjgooooaaGreatDoor
/- extent.Frame. -/
namespace Go.Proofs.YtcjcccbjgooooaaGreatDoor
open Go.RowKit HP
set_option linter.unusedSimpArgs false
set_option linter.unusedVariables false

def FrameOk (index gen : Int) (n : Nat) : Prop := 0 ≤ index ∧ index ≤ 2147483647 ∧ 0 ≤ gen ∧ gen ≤ 4611686018427387904 ∧ n ≤ 106
instance (index gen : Int) (n : Nat) : Decidable (FrameOk index gen n) := by unfold FrameOk; infer_instance
set_option maxHeartbeats 2000000 in
set_option maxRecDepth 100000 in
theorem ext_frame (E : Env) (q : HP) (name : ByteArray) (index gen : Nat) (A : Option Addr) (p : List Int) (n c : Nat) (w : World) (hname : name.size ≤ maxLen) (hi : (index : Int) ≤ 2147483647) (hg : (gen : Int) ≤ 4611686018427387904) (hpn : p.length = n) (hn : n ≤ 106) (hp : Bytes p)
    (hq : ∀ w, Sat E w q → Quarter w ∧ Cells w A (b8s p)) (hw : Sat E w q) :
    Calls Tryz.prog 34 #[.string name, .int .i64 index, .int .i64 gen, .slice A n c] w fun e w' => ∃ g, e = .returned (.tuple #[.slice (some ⟨g, 0, none⟩) 128 128, .int .i64 0]) ∧ Sat E w' (HP.pt g (.cells (b8s (extI name index gen p)).toArray 133) * q) := by
  have HQ := Aside.mk (And.intro hq (And.intro hp (And.intro hpn hw)))
  clear hq hw hp hpn
  have hn' : (n : Int) ≤ 106 := by omega
  go_enter Tryz.func34, Tryz.ntmps34
  go_wp2_with fail
  refine (ext_build E q name index gen A p n c w hname (by omega) (by omega) HQ.out.2.2.1 hn HQ.out.2.1 HQ.out.1 HQ.out.2.2.2).mono ?_
  rintro e w2 ⟨rfl, h2⟩
  have hIl : (extI name index gen p).length = 128 := extI_length (by rw [HQ.out.2.2.1]; exact hn)
  obtain ⟨I, hIe⟩ : ∃ I, I = extI name index gen p := ⟨_, rfl⟩
  rw [← hIe] at hIl ⊢
  have HI2 := Aside.mk hIl
  have HIe := Aside.mk hIe
  clear hIl hIe
  have h3 := h2.alloc (.cells Tryz.zeroCells133 133)
  have r2 := run_storeAgg agExt (g := w2.heap.size) (off := 0) (cs := b8s I) h3.get (by rw [b8s_length]; exact HI2.out) (by rw [← zero_ext]; simp [b8s_length]) (b8s_one I)
  have h4 := h3.splice (splice Tryz.zeroCells133.toList 0 (b8s I))
  have e4 : splice Tryz.zeroCells133.toList 0 (b8s I) = b8s I := by
    rw [← zero_ext]
    unfold splice
    rw [List.take_zero, List.nil_append, Nat.zero_add, List.drop_of_length_le (by simp [b8s_length, HI2.out]), List.append_nil]
  rw [e4] at h4 r2
  have H4 := Aside.mk h4
  clear h3 h4 e4 h2
  go_wp2_with (first | (refine wpList_store_run rfl rfl rfl rfl rfl r2 ?_))
  go_ret2
  rw [← HIe.out]
  exact ⟨_, rfl, H4.out⟩
set_option maxHeartbeats 2000000 in
set_option maxRecDepth 100000 in
theorem ext_frame_bad (name : ByteArray) (index gen : Int) (A : Option Addr) (n c : Nat) (w : World) (h : ¬ FrameOk index gen n) :
    Calls Tryz.prog 34 #[.string name, .int .i64 index, .int .i64 gen, .slice A n c] w fun e w' => e = .returned (.tuple #[.slice none 0 0, .int .i64 1]) ∧ w' = w := by
  have hb : index < 0 ∨ 2147483647 < index ∨ gen < 0 ∨ 4611686018427387904 < gen ∨ 106 < (n : Int) := by unfold FrameOk at h; omega
  clear h
  have key : ((((index < 0 ∨ 2147483647 < index) ∨ gen < 0) ∨ 4611686018427387904 < gen) ∨ 106 < (n : Int)) := by omega
  go_enter Tryz.func34, Tryz.ntmps34
  go_wp2
  all_goals (go_ret2; exact ⟨rfl, rfl⟩)
end Go.Proofs.YtcjcccbjgooooaaGreatDoor
/- extent.Open: what an extent holds. -/
namespace Go.Proofs.YtcjcccbjgooooaaGreatDoor
open Go.RowKit HP
set_option linter.unusedSimpArgs false
set_option linter.unusedVariables false

/-- What bytes say as an extent of a file at an index; none: they are bad. -/
def openI (b : List Int) (name : ByteArray) (index : Int) : Option (List Int × Nat) :=
  if b.length ≠ 128 ∨ 106 < b.getD 17 0 ∨ index < 0 ∨ 2147483647 < index then none else
  if 4611686018427387904 < getN ((b.drop 9).take 8) then none else
  if extI name index.toNat (getN ((b.drop 9).take 8)) ((b.drop 18).take (b.getD 17 0).toNat) ≠ b then none else
  some ((b.drop 18).take (b.getD 17 0).toNat, getN ((b.drop 9).take 8))
theorem run_arrayExt (a : Option Addr) (n c : Nat) (h : 128 ≤ n) (w : World) : (Instr.arrayAt 133 (.slice a n c)).run Tryz.prog w = .ok (.pointer a) w := by
  have : ¬ n < 128 := by omega
  simp [Instr.arrayAt, run_underlying Tryz.underlying133, this]
set_option maxHeartbeats 2000000 in
set_option maxRecDepth 100000 in
theorem ext_open (E : Env) (q : HP) (name : ByteArray) (index : Int) (A : Option Addr) (b : List Int) (n c : Nat) (w : World) (hname : name.size ≤ maxLen) (hbn : b.length = n) (hnc : n ≤ c) (hb : Bytes b)
    (hq : ∀ w, Sat E w q → Quarter w ∧ Cells w A (b8s b)) (hw : Sat E w q) :
    Calls Tryz.prog 129 #[.slice A n c, .string name, .int .i64 index] w fun e w' =>
      (openI b name index = none ∧ e = .returned (.tuple #[.slice none 0 0, .int .i64 0, .int .i64 40]) ∧ Sat E w' q) ∨
      (∃ p gen v, openI b name index = some (p, gen) ∧ e = .returned (.tuple #[v, .int .i64 gen, .int .i64 0]) ∧ Sat E w' (HP.row 5 1 v p.length (b8s p) * q)) := by
  by_cases hlen : n = 128
  · subst hlen
    have hcw := (hq w hw).2
    obtain ⟨a, rfl, -⟩ := hcw.at_ 0 (by rw [b8s_length, hbn]; decide)
    obtain ⟨g, o, rfl⟩ := slice_addr hcw rfl (k := 0) (by rw [b8s_length, hbn]; decide)
    have g17 : b[17]? = some (b.getD 17 0) := by
      have : 17 < b.length := by omega
      simp [List.getD, this]
    have c17 : w.cell? ⟨g, o + 17, none⟩ = some (.int .u8 (b.getD 17 0)) := by
      have := hcw.some_ 17 (.int .u8 (b.getD 17 0)) (by unfold b8s; rw [List.getElem?_map, g17]; rfl)
      rw [addr_add] at this
      exact this
    have hx := hb _ (List.mem_of_getElem? g17)
    have HO : Aside (openI b name index = if b.length ≠ 128 ∨ 106 < b.getD 17 0 ∨ index < 0 ∨ 2147483647 < index then none else
        if 4611686018427387904 < getN ((b.drop 9).take 8) then none else
        if extI name index.toNat (getN ((b.drop 9).take 8)) ((b.drop 18).take (b.getD 17 0).toNat) ≠ b then none else
        some ((b.drop 18).take (b.getD 17 0).toNat, getN ((b.drop 9).take 8))) := ⟨rfl⟩
    obtain ⟨x, hxe⟩ : ∃ x : Nat, b.getD 17 0 = (x : Int) := ⟨(b.getD 17 0).toNat, by omega⟩
    rw [hxe] at c17 hx HO
    clear g17 hxe
    by_cases hbad : 106 < (x : Int) ∨ index < 0 ∨ 2147483647 < index
    · have HN : Aside (openI b name index = none ∧ Sat E w q) := ⟨by rw [HO.out, if_pos (.inr hbad)], hw⟩
      clear HO hw hq hcw hbn
      go_enter Tryz.func129, Tryz.ntmps129
      go_wp2
      all_goals (go_ret3; exact .inl ⟨HN.out.1, rfl, HN.out.2⟩)
    · have hx1 : ¬ 106 < (x : Int) := fun h => hbad (.inl h)
      have hi0 : ¬ index < 0 := fun h => hbad (.inr (.inl h))
      have hi2 : ¬ 2147483647 < index := fun h => hbad (.inr (.inr h))
      rw [if_neg (by rw [hbn]; intro h; rcases h with h | h; exact h rfl; exact hbad h), Int.toNat_natCast] at HO
      obtain ⟨ix, rfl⟩ := Int.eq_ofNat_of_zero_le (Int.not_lt.1 hi0)
      rw [Int.toNat_natCast] at HO
      have HQ := Aside.mk (And.intro hq (And.intro hw (And.intro hb hbn)))
      have cg : Cells w (some ⟨g, o + 9, none⟩) (b8s ((b.drop 9).take 8)) := by
        have := (hcw.drop 9).take 8
        rw [addr_add] at this
        unfold b8s at this ⊢
        rw [List.map_take, List.map_drop]
        exact this
      have CG := Aside.mk cg
      clear hbad hq hw hcw hbn cg hb
      go_enter Tryz.func129, Tryz.ntmps129
      go_wp2_with fail
      refine (crc_get (some ⟨g, o + 9, none⟩) ((b.drop 9).take 8) 8 (c - 9) w (by rw [List.length_take, List.length_drop, HQ.out.2.2.2]; rfl) (by decide) (by decide) (fun y hy => HQ.out.2.2.1 y (List.mem_of_mem_drop (List.mem_of_mem_take hy))) CG.out).mono ?_
      rintro e w1 ⟨rfl, rfl⟩
      clear CG
      generalize getN ((b.drop 9).take 8) = G at *
      by_cases hG : 4611686018427387904 < (G : Int)
      · have HN : Aside (openI b name ix = none ∧ Sat E w1 q) := ⟨by rw [HO.out, if_pos (by omega)], HQ.out.2.1⟩
        clear HO
        go_wp2
        go_ret3
        exact .inl ⟨HN.out.1, rfl, HN.out.2⟩
      · rw [if_neg (by omega)] at HO
        have c17a : (w1.alloc (.cells #[] 5)).cell? ⟨g, o + 17, none⟩ = some (.int .u8 (x : Int)) := by
          rw [World.cell?_of_block (w := w1) (heap_alloc_old w1 _ (World.block_lt_of_cell? w1 _ c17))]; exact c17
        have hpl : ((b.drop 18).take x).length = x := by rw [List.length_take, List.length_drop, HQ.out.2.2.2]; omega
        have cp : Cells w1 (some ⟨g, o + 18, none⟩) (b8s ((b.drop 18).take x)) := by
          have := (((HQ.out.1 _ HQ.out.2.1).2).drop 18).take x
          rw [addr_add] at this
          unfold b8s at this ⊢
          rw [List.map_take, List.map_drop]
          exact this
        have hpb : Bytes ((b.drop 18).take x) := fun y hy => HQ.out.2.2.1 y (List.mem_of_mem_drop (List.mem_of_mem_take hy))
        obtain ⟨p, hp⟩ : ∃ p, p = (b.drop 18).take x := ⟨_, rfl⟩
        rw [← hp] at HO hpl cp hpb
        have HP1 := Aside.mk (And.intro hpl (And.intro cp (And.intro hpb (show (b8s p).length = (18 + x - 18) * 1 by rw [b8s_length, hpl, Nat.mul_one]; omega))))
        clear hpl cp hpb hp
        go_wp2_with (at_builtin; go_loud (refine wpList_append_row slB8 rfl rfl (by rfl) (by rfl) (((HQ.out.2.1.alloc _).right).row_nil _ _ _) (HP1.out.2.1.alloc _) HP1.out.2.2.2 (b8s_one _) (by unfold maxLen; omega) (by omega) (fun v4 w4 hw4 => ?_); have HW4 := Aside.mk hw4; clear hw4))
        have hw4 : Sat E w4 (HP.row 5 1 v4 x (b8s p) * q) := by
          have := HW4.out
          rw [Nat.zero_add, List.nil_append, Nat.add_sub_cancel_left] at this
          exact this
        obtain ⟨A4, c4, rfl, -, -⟩ := hw4.row_slice
        have hT0 : (loadVar 133 ⟨g, o, none⟩).run Tryz.prog w4 = .ok (.agg (b8s b).toArray) w4 := run_loadAgg agExt (by rw [b8s_length]; exact HQ.out.2.2.2) (HQ.out.1 _ hw4.right).2
        have HW := Aside.mk hw4
        have ra : ∀ w, (Instr.arrayAt 133 (.slice (some ⟨g, o, none⟩) 128 c)).run Tryz.prog w = .ok (.pointer (some ⟨g, o, none⟩)) w := fun w => run_arrayExt _ 128 c (Nat.le_refl _) w
        clear HW4 hw4 c17 c17a
        refine region_R [5] [5] (fun w' => (loadVar 133 ⟨g, o, none⟩).run Tryz.prog w' = .ok (.agg (b8s b).toArray) w') #[false, false, false, false, false, false, false, false, false, false] (by kernel_rfl) rfl rfl ?_
        have hT1 : (loadVar 133 ⟨g, o, none⟩).run Tryz.prog w4.drew = .ok (.agg (b8s b).toArray) w4.drew := run_loadAgg agExt (by rw [b8s_length]; exact HQ.out.2.2.2) (HQ.out.1 _ HW.out.drew.right).2
        refine wpR_rd 0 #[true, false, false, false, false, false, false, false, false, false] rfl onlyN_noPanic (by kernel_rfl) (fun K hK => ?_); (go_simp; try go_bits); refine hK _ ?_; clear hK K
        refine wpR_rd 1 #[true, true, false, false, false, false, false, false, false, false] rfl onlyN_noPanic (by kernel_rfl) (fun K hK => ?_); (go_simp; try go_bits); refine hK _ ?_; clear hK K
        refine wpR_rd 2 #[true, true, true, false, false, false, false, false, false, false] rfl onlyN_noPanic (by kernel_rfl) (fun K hK => ?_); (go_simp; try go_bits); refine hK _ ?_; clear hK K
        refine wpR_rd 3 #[true, true, true, true, false, false, false, false, false, false] rfl onlyN_noPanic (by kernel_rfl) (fun K hK => ?_); (go_simp; try go_bits); refine hK _ ?_; clear hK K
        refine wpR_rd 4 #[true, true, true, true, true, false, false, false, false, false] rfl onlyN_noPanic (by kernel_rfl) (fun K hK => ?_); (go_simp; try go_bits); refine hK _ ?_; clear hK K
        refine wpR_pu 6 #[true, true, true, true, true, false, true, false, false, false] rfl onlyN_noPanic (by kernel_rfl) (fun K hK => ?_); (go_simp; try go_bits); refine hK _ ?_; clear hK K
        refine wpR_pu 7 #[true, true, true, true, true, false, true, true, false, false] rfl onlyN_noPanic (by kernel_rfl) (fun K hK => ?_); (go_simp; try go_bits); refine hK _ ?_; clear hK K
        refine wpR_held (i := 8) (v := .agg (b8s b).toArray) #[true, true, true, true, true, false, true, true, true, false] rfl onlyN_noPanic (by kernel_rfl) hT1 (.inl ⟨rfl, fun w' hT => exec_load rfl rfl hT⟩) ?_
        simp only [Act.put, List.setIfInBounds_toArray, List.set_cons_zero, List.set_cons_succ]
        refine wpR_keep #[true, true, true, true, true, true, true, true, true, false] (i := 5) rfl (by kernel_rfl) (fun K hK => ?_)
        go_simp
        refine (ext_build E _ name ix G A4 p x c4 _ hname (by omega) (by omega) HP1.out.1 (by omega) HP1.out.2.2.1 (fun w h => ⟨(HQ.out.1 _ h.right).1, h.row_cells⟩) HW.out.drew).mono ?_
        rintro e w5 ⟨rfl, h5⟩
        refine hK _ _ (run_loadAgg agExt (by rw [b8s_length]; exact HQ.out.2.2.2) (HQ.out.1 _ h5.right).2) ?_
        clear hK K
        have hIl : (extI name ix G p).length = 128 := extI_length (by rw [HP1.out.1]; omega)
        obtain ⟨I, hIe⟩ : ∃ I, I = extI name ix G p := ⟨_, rfl⟩
        rw [← hIe] at HO hIl ⊢
        have hne := run_neq_u8s (P := Tryz.prog) (w := w5) Tryz.underlying133 Tryz.underlying5 (by kernel_rfl) (by kernel_rfl) I b hIl HQ.out.2.2.2
        refine wpR_read (i := 9) #[true, true, true, true, true, true, true, true, true, true] rfl onlyN_noPanic (by kernel_rfl) (.inl ⟨rfl, exec_binop rfl rfl rfl (run_eqGuard_agg w5 .neq 133 _ _ _ _ (by kernel_rfl)) hne⟩) ?_
        simp only [Act.put, List.setIfInBounds_toArray, List.set_cons_zero, List.set_cons_succ]
        refine wpR_done (by kernel_rfl) ?_ _
        simp only [OnlyN]
        clear hne hT0 hT1 ra
        by_cases hIb : I = b
        · rw [decide_eq_true hIb]
          have HE : Aside (openI b name ix = some (p, G) ∧ Sat E w5 (HP.row 5 1 (.slice A4 x c4) p.length (b8s p) * q)) := ⟨by rw [HO.out, if_neg (by simpa using hIb)], by rw [HP1.out.1]; exact h5⟩
          clear HO hIe hIl hIb h5 HW
          generalize (b8s b).toArray = Lb at *
          generalize (b8s I).toArray = LI at *
          go_wp2
          go_ret3
          exact .inr ⟨p, G, _, HE.out.1, rfl, HE.out.2⟩
        · rw [decide_eq_false hIb]
          have HE : Aside (openI b name ix = none ∧ Sat E w5 q) := ⟨by rw [HO.out, if_pos hIb], h5.right⟩
          clear HO hIe hIl hIb h5 HW
          generalize (b8s b).toArray = Lb at *
          generalize (b8s I).toArray = LI at *
          go_wp2
          go_ret3
          exact .inl ⟨HE.out.1, rfl, HE.out.2⟩
  · have HO : Aside (openI b name index = none) := ⟨by unfold openI; rw [if_pos (.inl (by rw [hbn]; exact hlen))]⟩
    have hne : ¬ (n : Int) = 128 := by omega
    have HW := Aside.mk hw
    clear hw hq hbn
    go_enter Tryz.func129, Tryz.ntmps129
    go_wp2
    go_ret3
    exact .inl ⟨HO.out, rfl, HW.out⟩
end Go.Proofs.YtcjcccbjgooooaaGreatDoor
/- What calls make of a disk: plain lemmas. -/
namespace Go.Proofs.YtcjcccbjgooooaaGreatDoor
open Go.RowKit HP
set_option linter.unusedSimpArgs false
set_option linter.unusedVariables false

def Dk.new (room : Int) : Dk := ⟨room, -1, []⟩
theorem Dk.new_fine {room : Int} (h : 0 ≤ room ∧ room ≤ 100000) : (Dk.new room).Fine :=
  ⟨List.Pairwise.nil, (fun x hx => by cases hx), (fun x hx => by cases hx), h, ⟨by show (-1 : Int) ≤ -1; omega, by show (-1 : Int) ≤ _; omega⟩, h.1⟩
theorem View.new {room : Int} (h : 0 ≤ room ∧ room ≤ 100000) : View (Dk.new room) #[] 0 [] :=
  ⟨⟨(fun x hx => by simp at hx), rfl, by simp, (fun x hx => by simp at hx), by simp⟩, fun s => rfl, Dk.new_fine h⟩
theorem disk_new_ok (E : Env) (q : HP) (room : Int) (w : World) (h : 0 ≤ room ∧ room ≤ 100000) (hw : Sat E w q) :
    Calls Tryz.prog 26 #[.int .i64 room] w fun e w' => ∃ d, e = .returned (.tuple #[.pointer (some ⟨d, 0, none⟩), .int .i64 0]) ∧ Sat E w' (HP.disk d (Dk.new room) * q) :=
  (disk_new E q room w h.1 h.2 hw).mono fun e w' ⟨d, m, he, hs⟩ => ⟨d, he, Sat.disk_close (m := m) (View.new h) (hs.perm (by
    unfold HP.dk
    simp only [List.map_nil, HP.all, HP.mul_emp]
    show _ = HP.dsk d room (-1) m * HP.pt m (.map #[] 0) * q
    rw [HP.mul_assoc]))⟩

section
variable {A : Dk} {s t : ByteArray} {i : Int} {b : List Int} {l : List Cel}
theorem at_set (hs : Sorted A.files) (l : List Cel) : (A.set s l).at t = if s = t then l else A.at t := by
  unfold Dk.at Dk.set
  rw [lk_put _ _ _ hs]
  split <;> rfl
theorem lk_set (hs : Sorted A.files) (l : List Cel) : lk (A.set s l).files t = if s = t then some l else lk A.files t := lk_put _ _ _ hs
theorem burnt_forever (h : A.fuse = -1) : A.burnt = A := by
  unfold Dk.burnt burnI
  rw [h]
  simp only [gt_iff_lt, Int.reduceNeg, Int.reduceLT, if_false]
  cases A
  simp only at h
  rw [h]
theorem goes_forever (h : A.fuse = -1) : A.goes = true := by
  unfold Dk.goes burnI
  rw [h]; rfl
theorem write_first (hn : namedB s = true) (hb : b.length = 128) (hat : A.at s = []) (hf : 0 < A.free) (hg : A.goes = true) : A.write s 0 b = (0, A.burnt.set s [Cel.zero.wrote b]) := by
  unfold Dk.write
  rw [if_neg (by simp [hn, hb, hat]), if_neg (by simp [hg]), if_neg (by omega), if_pos (by simp [hat]), hat]
  rfl
theorem write_other (hs : Sorted A.files) (hne : s ≠ t) : lk (A.write s i b).2.files t = lk A.files t := by
  unfold Dk.write
  split
  · rfl
  · split
    · rfl
    · split
      · rfl
      · split
        · show lk (A.burnt.set s _).files t = _
          rw [lk_set (A := A.burnt) hs, if_neg hne]; rfl
        · show lk (A.burnt.set s _).files t = _
          rw [lk_set (A := A.burnt) hs, if_neg hne]; rfl
theorem write_forever (h : A.fuse = -1) : (A.write s i b).2.fuse = -1 := by
  have e := burnt_forever h
  unfold Dk.write
  rw [e]
  split
  · exact h
  · split
    · exact h
    · split
      · exact h
      · split <;> exact h
theorem sync_some (hl : lk A.files s = some l) (hg : A.goes = true) : A.sync s = (0, A.burnt.set s (l.map Cel.syncd)) := by
  unfold Dk.sync
  rw [hl]
  simp [hg]
theorem cel_at (hl : lk A.files s = some l) (k : Nat) : A.cel s k = l[k]? := by
  unfold Dk.cel Dk.at
  rw [if_pos (by omega), hl]; rfl
end
theorem celAt_view {A : Dk} {es : Array MapEntry} {clock : Nat} {fs : List Fil} (hv : View A es clock fs) (s : ByteArray) (i : Int) : (celAt fs s i).map (·.2) = A.cel s i := by
  have h := hv.same s
  unfold celAt Dk.cel Dk.at
  unfold lkF at h
  cases hf : fs.find? (fun f => decide (f.name = s)) with
  | none =>
    rw [hf] at h
    rw [← h]
    simp
  | some f =>
    rw [hf] at h
    simp only [Option.map_some] at h
    rw [← h]
    simp only [Option.getD_some]
    by_cases h0 : 0 ≤ i
    · rw [if_pos h0]
      by_cases h1 : i < f.cels.length
      · rw [if_pos ⟨h0, h1⟩, Fil.cs, List.getElem?_map]
      · rw [if_neg (fun h => h1 h.2), Fil.cs, List.getElem?_map, List.getElem?_eq_none (by omega)]
    · rw [if_neg h0, if_neg (fun h => h0 h.1)]; rfl
def readEnd (E : Env) (q : HP) (r : Option Cel) (e : Ending) (w' : World) : Prop :=
  match r with
  | none => e = .returned (.tuple #[.slice none 0 0, .int .i64 30]) ∧ Sat E w' q
  | some c => ∃ v, e = .returned (.tuple #[v, .int .i64 0]) ∧ Sat E w' (HP.row 5 1 v 128 (b8s c.read) * q)
theorem disk_read_ok (E : Env) (q : HP) (d : Nat) (A : Dk) (name : ByteArray) (i : Int) (w : World) (hn : name.size ≤ maxLen) (hw : Sat E w (HP.disk d A * q)) :
    Calls Tryz.prog 51 #[.pointer (some ⟨d, 0, none⟩), .string name, .int .i64 i] w (readEnd E (HP.disk d A * q) (A.cel name i)) := by
  obtain ⟨m, es, clock, fs, hv, hd⟩ := hw.disk_open
  refine (disk_read E q d A.room A.fuse m es clock fs name i w hn hv.map hv.good hd).mono fun e w' h => ?_
  rw [← celAt_view hv]
  unfold readPost at h
  unfold readEnd
  cases hc : celAt fs name i with
  | none => rw [hc] at h; exact ⟨h.1, Sat.disk_close hv h.2⟩
  | some x =>
    rw [hc] at h
    obtain ⟨v, he, hs⟩ := h
    exact ⟨v, he, (Sat.disk_close (q := HP.row 5 1 v 128 (b8s x.2.read) * q) hv (hs.perm (HP.left_comm _ _ _))).perm (HP.left_comm _ _ _)⟩
/-- Elements of several cells. -/
theorem flat_get {α : Type} (f : α → List Value) (n : Nat) (l : List α) (hn : ∀ x, (f x).length = n) (i k : Nat) (x : α) (h : l[i]? = some x) (hk : k < n) : (l.flatMap f)[i * n + k]? = (f x)[k]? := by
  induction l generalizing i with
  | nil => simp at h
  | cons y l ih =>
    rw [List.flatMap_cons]
    cases i with
    | zero =>
      simp only [List.getElem?_cons_zero, Option.some.injEq] at h
      subst h
      rw [Nat.zero_mul, Nat.zero_add, List.getElem?_append_left (by rw [hn]; exact hk)]
    | succ i =>
      simp only [List.getElem?_cons_succ] at h
      rw [List.getElem?_append_right (by rw [hn, Nat.add_mul]; omega), hn, ← ih i h]
      congr 1
      rw [Nat.add_mul, Nat.one_mul]
      omega
theorem StepV.vals_length (s : StepV) : s.vals.length = 8 := rfl
end Go.Proofs.YtcjcccbjgooooaaGreatDoor
/- (*Disk).Remove, Extents, Free, Fuse: over a disk told by its files. -/
namespace Go.Proofs.YtcjcccbjgooooaaGreatDoor
open Go.RowKit HP
set_option linter.unusedSimpArgs false
set_option linter.unusedVariables false

set_option maxHeartbeats 1000000 in
set_option maxRecDepth 100000 in
theorem disk_extents (E : Env) (q : HP) (d : Nat) (A : Dk) (name : ByteArray) (w : World) (hn : name.size ≤ maxLen) (hw : Sat E w (HP.disk d A * q)) :
    Calls Tryz.prog 49 #[.pointer (some ⟨d, 0, none⟩), .string name] w fun e w' => e = .returned (.int .i64 ((A.at name).length : Int)) ∧ w' = w := by
  obtain ⟨m, es, clock, fs, hv, hd⟩ := hw.disk_open
  have hsm := at_small hv.fine name
  obtain ⟨k, hk⟩ : ∃ k, k = (A.at name).length := ⟨_, rfl⟩
  simp only [← hk] at hsm ⊢
  clear hw
  go_enter Tryz.func49, Tryz.ntmps49
  go_wp2_with fail
  refine (disk_none E _ d _ _ m w (dk_parts hd)).mono ?_
  rintro e w1 ⟨rfl, rfl⟩
  have c1 := (dk_parts hd).cell 1
  simp only [List.getElem?_toArray, List.getElem?_cons_zero, List.getElem?_cons_succ] at c1
  obtain ⟨v, B, cc, hvB, hlook, -, -⟩ := find_file hv hd name hn
  rw [hvB] at hlook
  clear hvB hd hv
  rw [← hk] at hlook
  clear hk
  go_wp2
  go_ret
  exact ⟨rfl, rfl⟩
theorem disk_free_ok (E : Env) (q : HP) (d : Nat) (A : Dk) (w : World) (hw : Sat E w (HP.disk d A * q)) :
    Calls Tryz.prog 44 #[.pointer (some ⟨d, 0, none⟩)] w fun e w' => e = .returned (.int .i64 A.free) ∧ Sat E w' (HP.disk d A * q) := by
  obtain ⟨m, es, clock, fs, hv, hd⟩ := hw.disk_open
  refine (disk_free E q d A.room A.fuse m es clock fs w hv.map hv.fine.room (by rw [hv.total]; have := hv.size_le; omega) hd).mono ?_
  rintro e w' ⟨rfl, h⟩
  exact ⟨by rw [hv.total]; rfl, Sat.disk_close hv h⟩
theorem disk_fuse_ok (E : Env) (q : HP) (d : Nat) (A : Dk) (n : Int) (w : World) (hn : n ≤ 9223372036854775807) (hw : Sat E w (HP.disk d A * q)) :
    Calls Tryz.prog 29 #[.pointer (some ⟨d, 0, none⟩), .int .i64 n] w fun e w' => (n < 0 ∧ e = .returned (.int .i64 1) ∧ Sat E w' (HP.disk d A * q)) ∨ (0 ≤ n ∧ e = .returned (.int .i64 0) ∧ Sat E w' (HP.disk d { A with fuse := n } * q)) := by
  obtain ⟨m, es, clock, fs, hv, hd⟩ := hw.disk_open
  refine (disk_fuse E _ d _ _ m n w (dk_parts hd)).mono ?_
  rintro e w' (⟨h1, rfl, rfl⟩ | ⟨h1, rfl, h⟩)
  · exact .inl ⟨h1, rfl, hw⟩
  · refine .inr ⟨h1, rfl, Sat.disk_close (m := m) (hv.fuel n ⟨by omega, hn⟩) (h.perm ?_)⟩
    unfold HP.dk
    ac_rfl
/-- Whether a disk was made: 'Fuse(-1)' of one that was. -/
theorem disk_asked (E : Env) (q : HP) (d : Nat) (A : Dk) (w : World) (hw : Sat E w (HP.disk d A * q)) :
    Calls Tryz.prog 29 #[.pointer (some ⟨d, 0, none⟩), .int .i64 (-1)] w fun e w' => e = .returned (.int .i64 1) ∧ Sat E w' (HP.disk d A * q) :=
  (disk_fuse_ok E q d A (-1) w (by omega) hw).mono fun e w' h => by
    rcases h with ⟨_, he, hs⟩ | ⟨h0, _, _⟩
    · exact ⟨he, hs⟩
    · omega
set_option maxHeartbeats 1000000 in
set_option maxRecDepth 100000 in
theorem disk_remove (E : Env) (q : HP) (d : Nat) (A : Dk) (name : ByteArray) (w : World) (hn : name.size ≤ maxLen) (hw : Sat E w (HP.disk d A * q)) :
    Calls Tryz.prog 73 #[.pointer (some ⟨d, 0, none⟩), .string name] w fun e w' => e = .returned (.int .i64 (A.remove name).1) ∧ Sat E w' (HP.disk d (A.remove name).2 * q) := by
  obtain ⟨m, es, clock, fs, hv, hd⟩ := hw.disk_open
  have hfu := hv.fine.fuse
  have HF : Aside (A.remove name = match lk A.files name with
    | none => (30, A)
    | some _ => if A.goes = false then (31, A.burnt) else (0, { A.burnt with files := delF A.files name })) := ⟨rfl⟩
  clear hw
  go_enter Tryz.func73, Tryz.ntmps73
  go_wp2_with fail
  refine (disk_none E _ d _ _ m w (dk_parts hd)).mono ?_
  rintro e w1 ⟨rfl, rfl⟩
  have c1 := (dk_parts hd).cell 1
  simp only [List.getElem?_toArray, List.getElem?_cons_zero, List.getElem?_cons_succ] at c1
  obtain ⟨v, B, cc, hvB, -, hlook, hcase⟩ := find_file hv hd name hn
  clear hvB
  rcases hcase with ⟨hlk, -⟩ | ⟨j, f, hj, hname, hfv, hlk⟩
  · rw [hlk] at HF hlook
    have HT : Aside (A.remove name = (30, A) ∧ Sat E w1 (HP.disk d A * q)) := ⟨HF.out, Sat.disk_close hv hd⟩
    clear HF hd hv hlk hfu
    go_wp2
    go_ret
    rw [HT.out.1]
    exact ⟨rfl, HT.out.2⟩
  · rw [hlk] at HF hlook
    subst hname
    have HV := Aside.mk (And.intro hv hj)
    clear hlk hv hj hfv
    go_wp2_with fail
    refine (disk_burn E _ d _ _ m w1 hfu.2 (dk_parts hd)).mono ?_
    rintro e w3 ⟨rfl, hd3⟩
    cases hgo : A.goes with
    | false =>
      have hgo' : (burnI A.fuse).2 = false := hgo
      rw [hgo']
      have HT : Aside (A.remove f.name = (31, A.burnt) ∧ Sat E w3 (HP.disk d A.burnt * q)) := ⟨by rw [HF.out]; simp [hgo], Sat.disk_close HV.out.1.burnt (burnt_dsk hd3)⟩
      clear HF hd hd3 HV hgo hgo' hfu hlook c1
      go_wp2
      go_ret
      rw [HT.out.1]
      exact ⟨rfl, HT.out.2⟩
    | true =>
      have hgo' : (burnI A.fuse).2 = true := hgo
      rw [hgo']
      have HS : Aside (A.remove f.name = (0, { A.burnt with files := delF A.files f.name })) := ⟨by rw [HF.out]; simp [hgo]⟩
      obtain ⟨hv, hj⟩ := HV.out
      have c3 := hd3.cell 1
      simp only [List.getElem?_toArray, List.getElem?_cons_zero, List.getElem?_cons_succ] at c3
      have hrun : (Builtin.delete_ #[126, 9] 0 #[.map (some m), .string f.name]).run Tryz.prog w3 = .ok (.tuple #[]) (ChangeMaps.setBlock w3 m (.map (es.eraseIdxIfInBounds j) clock)) := by
        rcases delete_str (P := Tryz.prog) (t := 126) (ty := 0) Tryz.underlying9 Tryz.underlying126 hd3.s2.get hv.map.1 f.name hn with ⟨hno, -⟩ | ⟨i, x, hi, hx, h⟩
        · have h1 : (Value.string f.name, f.val) ∈ fs.map (fun f => (Value.string f.name, f.val)) := List.mem_map.2 ⟨f, List.mem_of_getElem? hj, rfl⟩
          rw [← hv.map.2.1] at h1
          obtain ⟨x, hx, hxe⟩ := List.mem_map.1 h1
          simp only [Prod.mk.injEq] at hxe
          exact absurd hxe.1 (hno x hx)
        · have h6 := congrArg (fun l => l[i]?) hv.map.2.1
          simp only [List.getElem?_map, hi, Option.map_some] at h6
          cases hfi : fs[i]? with
          | none => rw [hfi] at h6; cases h6
          | some g =>
            rw [hfi] at h6
            simp only [Option.map_some, Option.some.injEq, Prod.mk.injEq] at h6
            have hgn : g.name = f.name := by
              have := h6.1.symm.trans hx
              injection this
            have hil : i < fs.length := (List.getElem?_eq_some_iff.1 hfi).1
            have hij : i = j := by
              have e1 : (fs.map (·.name))[i]? = some f.name := by rw [List.getElem?_map, hfi, ← hgn]; rfl
              have e2 : (fs.map (·.name))[j]? = some f.name := by rw [List.getElem?_map, hj]; rfl
              exact (List.getElem?_inj (by simpa using hil) hv.map.2.2.1).1 (e1.trans e2.symm)
            subst hij
            exact h
      have h4 : Sat E (ChangeMaps.setBlock w3 m (.map (es.eraseIdxIfInBounds j) clock)) (HP.disk d { A.burnt with files := delF A.files f.name } * q) := by
        have h5 := Sat.setBlk hd3.s2 (.map (es.eraseIdxIfInBounds j) clock)
        refine Sat.disk_close (m := m) (hv.burnt.erase hj) ?_
        have h6 : Sat E (ChangeMaps.setBlock w3 m (.map (es.eraseIdxIfInBounds j) clock)) (HP.all (fs.map HP.fil) * (HP.pt m (.map (es.eraseIdxIfInBounds j) clock) * (HP.dsk d A.room (burnI A.fuse).1 m * q))) := h5.perm (by ac_rfl)
        rw [all_take (l := fs.map HP.fil) (j := j) (p := HP.fil f) (by rw [List.getElem?_map, hj]; rfl), map_erase] at h6
        exact (h6.perm (HP.mul_assoc _ _ _)).right.perm (by unfold HP.dk; show _ = HP.dsk d A.room (burnI A.fuse).1 m * _ * q; ac_rfl)
      have HT := Aside.mk (And.intro HS.out h4)
      clear HF hd hd3 HV hgo hgo' hfu hlook c1 hv hj h4 HS
      go_wp2_with (at_builtin; refine wpList_delete_run rfl rfl rfl rfl hrun ?_)
      go_ret
      rw [HT.out.1]
      exact ⟨rfl, HT.out.2⟩
end Go.Proofs.YtcjcccbjgooooaaGreatDoor
/- A disk that no call made: what every call answers. -/
namespace Go.Proofs.YtcjcccbjgooooaaGreatDoor
open Go.RowKit HP
set_option linter.unusedSimpArgs false
set_option linter.unusedVariables false

set_option maxHeartbeats 1000000 in
set_option maxRecDepth 100000 in
theorem none_write (p : Value) (s : ByteArray) (i : Int) (v : Value) (w : World) (hn : Calls Tryz.prog 83 #[p] w fun e w' => e = .returned (.bool true) ∧ w' = w) : Calls Tryz.prog 35 #[p, .string s, .int .i64 i, v] w fun e w' => e = .returned (.int .i64 2) ∧ w' = w := by
  go_enter Tryz.func35, Tryz.ntmps35
  go_wp2_with fail
  refine hn.mono ?_
  rintro e w1 ⟨rfl, rfl⟩
  clear hn
  go_wp2
  go_ret
  exact ⟨rfl, rfl⟩
set_option maxHeartbeats 1000000 in
set_option maxRecDepth 100000 in
theorem none_sync (p : Value) (s : ByteArray) (w : World) (hn : Calls Tryz.prog 83 #[p] w fun e w' => e = .returned (.bool true) ∧ w' = w) : Calls Tryz.prog 36 #[p, .string s] w fun e w' => e = .returned (.int .i64 2) ∧ w' = w := by
  go_enter Tryz.func36, Tryz.ntmps36
  go_wp2_with fail
  refine hn.mono ?_
  rintro e w1 ⟨rfl, rfl⟩
  clear hn
  go_wp2
  go_ret
  exact ⟨rfl, rfl⟩
set_option maxHeartbeats 1000000 in
set_option maxRecDepth 100000 in
theorem none_remove (p : Value) (s : ByteArray) (w : World) (hn : Calls Tryz.prog 83 #[p] w fun e w' => e = .returned (.bool true) ∧ w' = w) : Calls Tryz.prog 73 #[p, .string s] w fun e w' => e = .returned (.int .i64 2) ∧ w' = w := by
  go_enter Tryz.func73, Tryz.ntmps73
  go_wp2_with fail
  refine hn.mono ?_
  rintro e w1 ⟨rfl, rfl⟩
  clear hn
  go_wp2
  go_ret
  exact ⟨rfl, rfl⟩
set_option maxHeartbeats 1000000 in
set_option maxRecDepth 100000 in
theorem none_rot (p : Value) (s : ByteArray) (i k m : Int) (w : World) (hn : Calls Tryz.prog 83 #[p] w fun e w' => e = .returned (.bool true) ∧ w' = w) : Calls Tryz.prog 77 #[p, .string s, .int .i64 i, .int .i64 k, .int .u8 m] w fun e w' => e = .returned (.int .i64 2) ∧ w' = w := by
  go_enter Tryz.func77, Tryz.ntmps77
  go_wp2_with fail
  refine hn.mono ?_
  rintro e w1 ⟨rfl, rfl⟩
  clear hn
  go_wp2
  go_ret
  exact ⟨rfl, rfl⟩
set_option maxHeartbeats 1000000 in
set_option maxRecDepth 100000 in
theorem none_fuse (p : Value) (n : Int) (w : World) (hn : Calls Tryz.prog 83 #[p] w fun e w' => e = .returned (.bool true) ∧ w' = w) : Calls Tryz.prog 29 #[p, .int .i64 n] w fun e w' => e = .returned (.int .i64 2) ∧ w' = w := by
  go_enter Tryz.func29, Tryz.ntmps29
  go_wp2_with fail
  refine hn.mono ?_
  rintro e w1 ⟨rfl, rfl⟩
  clear hn
  go_wp2
  go_ret
  exact ⟨rfl, rfl⟩
set_option maxHeartbeats 1000000 in
set_option maxRecDepth 100000 in
theorem none_read (p : Value) (s : ByteArray) (i : Int) (w : World) (hn : Calls Tryz.prog 83 #[p] w fun e w' => e = .returned (.bool true) ∧ w' = w) : Calls Tryz.prog 51 #[p, .string s, .int .i64 i] w fun e w' => e = .returned (.tuple #[.slice none 0 0, .int .i64 2]) ∧ w' = w := by
  go_enter Tryz.func51, Tryz.ntmps51
  go_wp2_with fail
  refine hn.mono ?_
  rintro e w1 ⟨rfl, rfl⟩
  clear hn
  go_wp2
  go_ret2
  exact ⟨rfl, rfl⟩
set_option maxHeartbeats 1000000 in
set_option maxRecDepth 100000 in
theorem none_extents (p : Value) (s : ByteArray) (w : World) (hn : Calls Tryz.prog 83 #[p] w fun e w' => e = .returned (.bool true) ∧ w' = w) : Calls Tryz.prog 49 #[p, .string s] w fun e w' => e = .returned (.int .i64 0) ∧ w' = w := by
  go_enter Tryz.func49, Tryz.ntmps49
  go_wp2_with fail
  refine hn.mono ?_
  rintro e w1 ⟨rfl, rfl⟩
  clear hn
  go_wp2
  go_ret
  exact ⟨rfl, rfl⟩
set_option maxHeartbeats 1000000 in
set_option maxRecDepth 100000 in
theorem none_free (p : Value)  (w : World) (hn : Calls Tryz.prog 83 #[p] w fun e w' => e = .returned (.bool true) ∧ w' = w) : Calls Tryz.prog 44 #[p] w fun e w' => e = .returned (.int .i64 0) ∧ w' = w := by
  go_enter Tryz.func44, Tryz.ntmps44
  go_wp2_with fail
  refine hn.mono ?_
  rintro e w1 ⟨rfl, rfl⟩
  clear hn
  go_wp2
  go_ret
  exact ⟨rfl, rfl⟩
set_option maxHeartbeats 1000000 in
set_option maxRecDepth 100000 in
theorem none_list (p : Value)  (w : World) (hn : Calls Tryz.prog 83 #[p] w fun e w' => e = .returned (.bool true) ∧ w' = w) : Calls Tryz.prog 43 #[p] w fun e w' => e = .returned (.slice none 0 0) ∧ w' = w := by
  go_enter Tryz.func43, Tryz.ntmps43
  go_wp2_with fail
  refine hn.mono ?_
  rintro e w1 ⟨rfl, rfl⟩
  clear hn
  go_wp2
  go_ret
  exact ⟨rfl, rfl⟩
set_option maxHeartbeats 1000000 in
set_option maxRecDepth 100000 in
theorem none_damaged (p : Value)  (w : World) (hn : Calls Tryz.prog 83 #[p] w fun e w' => e = .returned (.bool true) ∧ w' = w) : Calls Tryz.prog 47 #[p] w fun e w' => e = .returned (.slice none 0 0) ∧ w' = w := by
  go_enter Tryz.func47, Tryz.ntmps47
  go_wp2_with fail
  refine hn.mono ?_
  rintro e w1 ⟨rfl, rfl⟩
  clear hn
  go_wp2
  go_ret
  exact ⟨rfl, rfl⟩
set_option maxHeartbeats 1000000 in
set_option maxRecDepth 100000 in
theorem none_crash (p v : Value) (w : World) (hn : Calls Tryz.prog 83 #[p] w fun e w' => e = .returned (.bool true) ∧ w' = w) : Calls Tryz.prog 79 #[p, v] w fun e w' => e = .returned (.int .i64 2) ∧ w' = w := by
  go_enter Tryz.func79, Tryz.ntmps79
  go_wp2_with fail
  refine hn.mono ?_
  rintro e w1 ⟨rfl, rfl⟩
  clear hn
  go_wp2
  go_ret
  exact ⟨rfl, rfl⟩
end Go.Proofs.YtcjcccbjgooooaaGreatDoor
/- pair: halves, none. -/
namespace Go.Proofs.YtcjcccbjgooooaaGreatDoor
open Go.RowKit HP
set_option linter.unusedSimpArgs false
set_option linter.unusedVariables false

def dotA : ByteArray := ⟨#[46, 97]⟩
def dotB : ByteArray := ⟨#[46, 98]⟩
theorem agTwo : AgTy Tryz.prog 73 2 := ⟨⟨_, Tryz.underlying73, rfl⟩, by kernel_rfl⟩
set_option maxHeartbeats 1000000 in
set_option maxRecDepth 100000 in
theorem pair_halves (E : Env) (q : HP) (name : ByteArray) (w : World) (hn : name.size + 2 ≤ maxLen) (hw : Sat E w q) :
    Calls Tryz.prog 154 #[.string name] w fun e w' => e = .returned (.agg #[.string (name ++ dotA), .string (name ++ dotB)]) ∧ Sat E w' q := by
  have HW := Aside.mk hw
  have hn2 : name.size + 2 ≤ 9223372036854775807 := by unfold maxLen at hn; omega
  unfold dotA dotB
  go_enter Tryz.func154, Tryz.ntmps154
  have h1 := hw.alloc (.cells [.string (name ++ ⟨#[46, 97]⟩), .string (name ++ ⟨#[46, 98]⟩)].toArray 73)
  have r1 := run_loadAgg (P := Tryz.prog) (n := 2) agTwo rfl (Sat.ptCells (off := 0) (l := [.string (name ++ ⟨#[46, 97]⟩), .string (name ++ ⟨#[46, 98]⟩)]) h1 rfl)
  go_wp2
  exact ⟨rfl, _, results_cell (t := 2) (by kernel_rfl) rfl r1, rfl, h1.right⟩
set_option maxHeartbeats 1000000 in
set_option maxRecDepth 100000 in
theorem pair_none (E : Env) (q : HP) (d : Nat) (A : Dk) (w : World) (hw : Sat E w (HP.disk d A * q)) :
    Calls Tryz.prog 153 #[.pointer (some ⟨d, 0, none⟩)] w fun e w' => e = .returned (.bool false) ∧ Sat E w' (HP.disk d A * q) := by
  have HW := Aside.mk hw
  clear hw
  go_enter Tryz.func153, Tryz.ntmps153
  go_wp2_with fail
  refine (disk_asked E q d A _ HW.out).mono ?_
  rintro e w1 ⟨rfl, h1⟩
  have H1 := Aside.mk h1
  clear h1
  go_wp2
  go_ret
  exact ⟨rfl, H1.out⟩
end Go.Proofs.YtcjcccbjgooooaaGreatDoor
/- pair.write. -/
namespace Go.Proofs.YtcjcccbjgooooaaGreatDoor
open Go.RowKit HP
set_option linter.unusedSimpArgs false
set_option linter.unusedVariables false

/-- Payloads written to a file, one behind the other, and synced. -/
def wrF (A : Dk) (f : ByteArray) (gen : Nat) : Nat → List (List Int) → Int × Dk
  | _, [] => A.sync f
  | i, p :: r =>
    if ¬ FrameOk i gen p.length then (1, A)
    else if (A.write f i (extI f i gen p)).1 = 0 then wrF (A.write f i (extI f i gen p)).2 f gen (i + 1) r
    else A.write f i (extI f i gen p)
def wrL (A : Dk) (i gen : Nat) (ps : List (List Int)) : List ByteArray → Int × Dk
  | [] => (0, A)
  | f :: r => if (wrF A f gen i ps).1 = 0 then wrL (wrF A f gen i ps).2 i gen ps r else wrF A f gen i ps
def halvesL (name : ByteArray) : List ByteArray := [name ++ dotA, name ++ dotB]
def wrP (A : Dk) (name : ByteArray) (i gen : Nat) (ps : List (List Int)) : Int × Dk := wrL A i gen ps (halvesL name)
def Sl.val8 (s : Sl Int) : Value := .slice s.A s.l.length s.cap
structure PayOk (s : Sl Int) : Prop where
  len : s.l.length ≤ s.cap
  bytes : Bytes s.l
theorem dotA_size (name : ByteArray) : (name ++ dotA).size = name.size + 2 := by rw [ByteArray.size_append]; rfl
theorem dotB_size (name : ByteArray) : (name ++ dotB).size = name.size + 2 := by rw [ByteArray.size_append]; rfl
end Go.Proofs.YtcjcccbjgooooaaGreatDoor
/- pair.Put. -/
namespace Go.Proofs.YtcjcccbjgooooaaGreatDoor
open Go.RowKit HP
set_option linter.unusedSimpArgs false
set_option linter.unusedVariables false

def putP (A : Dk) (name : ByteArray) (i gen : Int) (p : List Int) : Int × Dk := if FrameOk i gen p.length then wrP A name i.toNat gen.toNat [p] else (1, A)
end Go.Proofs.YtcjcccbjgooooaaGreatDoor
/- The document's disk (dryrotref03): what it is in memory; IsName; stops. -/
namespace Go.Proofs.YtcjcccbjgooooaaGreatDoor
open Go.RowKit HP
set_option linter.unusedSimpArgs false
set_option linter.unusedVariables false

/-- The images that lie in memory, each a slice of its own; what nobody asks for any more stays. -/
def HP.imgs (L : List (Value × List Int)) : HP := HP.all (L.map fun x => HP.row 5 1 x.1 128 (b8s x.2))
/-- An extent of the document's disk: its values. -/
structure RC where
  c : Cel
  vr : Value
  vd : Value
  vs : Value
  vw : Value
def RC.vals (x : RC) : List Value := [x.vr, x.vd, x.vs, x.vw, .bool x.c.waits]
structure RF where
  name : ByteArray
  val : Value
  cs : List RC
def RF.vals (f : RF) : List Value := [.string f.name, f.val]
def HP.rcs (f : RF) : HP := HP.row 155 5 f.val f.cs.length (f.cs.flatMap RC.vals)
def RC.In (L : List (Value × List Int)) (x : RC) : Prop := (x.vr, x.c.read) ∈ L ∧ (x.vd, x.c.durable) ∈ L ∧ (x.vs, x.c.synced) ∈ L ∧ (x.vw, x.c.written) ∈ L
structure RView (A : Dk) (fs : List RF) (L : List (Value × List Int)) : Prop where
  same : fs.map (fun f => (f.name, f.cs.map (·.c))) = A.files
  imgs : ∀ f ∈ fs, ∀ x ∈ f.cs, x.In L
  fine : A.Fine
def HP.rdk (y : Nat) (room fuse : Int) (v : Value) (fs : List RF) (L : List (Value × List Int)) : HP :=
  HP.pt y (.cells #[.int .i64 room, v, .int .i64 fuse] 131) * (HP.row 144 2 v fs.length (fs.flatMap RF.vals) * (HP.all (fs.map HP.rcs) * HP.imgs L))
def HP.rdisk (y : Nat) (A : Dk) : HP := HP.ex fun x : Value × List RF × List (Value × List Int) => HP.fact (RView A x.2.1 x.2.2) * HP.rdk y A.room A.fuse x.1 x.2.1 x.2.2

section
variable {E : Env} {q : HP} {w : World} {y : Nat} {A : Dk} {fs : List RF} {L : List (Value × List Int)} {v : Value}
theorem Sat.rdisk_open (h : Sat E w (HP.rdisk y A * q)) : ∃ v fs L, RView A fs L ∧ Sat E w (HP.rdk y A.room A.fuse v fs L * q) := by
  obtain ⟨⟨v, fs, L⟩, h⟩ := h.ex_elim
  obtain ⟨hv, h⟩ := (h.perm (HP.mul_assoc _ _ _)).fact_elim
  exact ⟨v, fs, L, hv, h⟩
theorem Sat.rdisk_close (hv : RView A fs L) (h : Sat E w (HP.rdk y A.room A.fuse v fs L * q)) : Sat E w (HP.rdisk y A * q) := by
  refine Sat.ex_intro (v, fs, L) ?_
  exact (Sat.fact_intro hv h).perm (HP.mul_assoc _ _ _).symm
/-- The parts, one by one. -/
theorem Sat.rdk_parts {room fuse : Int} (h : Sat E w (HP.rdk y room fuse v fs L * q)) : Sat E w (HP.pt y (.cells #[.int .i64 room, v, .int .i64 fuse] 131) * (HP.row 144 2 v fs.length (fs.flatMap RF.vals) * (HP.all (fs.map HP.rcs) * (HP.imgs L * q)))) := by
  unfold HP.rdk at h
  exact h.perm (by ac_rfl)
theorem Sat.rdk_join {room fuse : Int} (h : Sat E w (HP.pt y (.cells #[.int .i64 room, v, .int .i64 fuse] 131) * (HP.row 144 2 v fs.length (fs.flatMap RF.vals) * (HP.all (fs.map HP.rcs) * (HP.imgs L * q))))) : Sat E w (HP.rdk y room fuse v fs L * q) := by
  unfold HP.rdk
  exact h.perm (by ac_rfl)
theorem all_mem {l : List HP} {p : HP} (h : p ∈ l) : ∃ r, HP.all l = p * r := by
  obtain ⟨j, hj⟩ := List.getElem?_of_mem h
  exact ⟨_, all_take hj⟩
/-- An image of the bag, read. -/
theorem Sat.img {x : Value} {b : List Int} (hm : (x, b) ∈ L) (h : Sat E w (HP.imgs L * q)) : ∃ A c, x = .slice A 128 c ∧ 128 ≤ c ∧ c ≤ maxLen ∧ Cells w A (b8s b) := by
  obtain ⟨r, hr⟩ := all_mem (List.mem_map.2 ⟨_, hm, rfl⟩ : HP.row 5 1 x 128 (b8s b) ∈ L.map fun x => HP.row 5 1 x.1 128 (b8s x.2))
  unfold HP.imgs at h
  rw [hr] at h
  have h2 := h.perm (HP.mul_assoc _ _ _)
  obtain ⟨A, c, rfl, hc, hm⟩ := h2.row_slice
  exact ⟨A, c, rfl, hc, hm, h2.row_cells⟩
theorem Sat.img_push {x : Value} {b : List Int} (h : Sat E w (HP.row 5 1 x 128 (b8s b) * (HP.imgs L * q))) : Sat E w (HP.imgs ((x, b) :: L) * q) := by
  unfold HP.imgs at h ⊢
  rw [List.map_cons, HP.all_cons]
  exact h.perm (HP.mul_assoc _ _ _).symm
theorem RC.In.push {L : List (Value × List Int)} {x : RC} (h : x.In L) (z : Value × List Int) : x.In (z :: L) := ⟨List.mem_cons_of_mem _ h.1, List.mem_cons_of_mem _ h.2.1, List.mem_cons_of_mem _ h.2.2.1, List.mem_cons_of_mem _ h.2.2.2⟩
end

/- IsName -/
def strangeC (b : UInt8) : Bool := strangeB (b.toNat : Int)
theorem strange_high {c : Int} (h : 128 ≤ c) : strangeB c = true := by
  unfold strangeB
  simp
  omega
theorem runes_any (s : ByteArray) : ∀ (n pos : Nat) (acc : Array Value), s.size - pos ≤ n → ((Conv.runesFrom s n pos acc).toList.map intOf).any strangeB = ((acc.toList.map intOf).any strangeB || (s.data.toList.drop pos).any strangeC) := by
  intro n
  induction n with
  | zero =>
    intro pos acc h
    unfold Conv.runesFrom
    rw [List.drop_eq_nil_of_le (by rw [Array.length_toList]; show s.size ≤ pos; omega)]
    simp
  | succ n ih =>
    intro pos acc h
    unfold Conv.runesFrom
    by_cases hlt : pos < s.size
    · rw [if_pos hlt]
      have hd : s.data.toList.drop pos = s[pos] :: s.data.toList.drop (pos + 1) := by
        rw [List.drop_eq_getElem_cons (by rw [Array.length_toList]; exact hlt)]
        rfl
      rw [hd, List.any_cons]
      rcases Nat.lt_or_ge (s[pos]).toNat 128 with ha | ha
      · rw [decode_ascii s pos hlt ha]
        dsimp only
        rw [ih (pos + 1) _ (by omega), Array.toList_push, List.map_append, List.any_append]
        simp only [List.map_cons, List.map_nil, List.any_cons, List.any_nil, Bool.or_false, intOf, Int.ofNat_eq_natCast]
        rw [Bool.or_assoc]
        rfl
      · have hh := decode_high s pos hlt ha
        rw [ih _ _ (by omega), Array.toList_push, List.map_append, List.any_append]
        simp only [List.map_cons, List.map_nil, List.any_cons, List.any_nil, Bool.or_false, intOf, Int.ofNat_eq_natCast]
        rw [strange_high (by have := hh.1; omega)]
        have : strangeC s[pos] = true := strange_high (by omega)
        rw [this]
        simp
    · rw [if_neg hlt, List.drop_eq_nil_of_le (by rw [Array.length_toList]; show s.size ≤ pos; omega)]
      simp
theorem named_bytes (s : ByteArray) : namedB s = (decide (1 ≤ s.size) && decide (s.size ≤ 24) && !s.data.toList.any strangeC) := by
  unfold namedB runesOf
  rw [runes_any s s.size 0 #[] (by omega)]
  have e : (!s.toList.isEmpty) = decide (1 ≤ s.size) := by
    rw [ByteArray.toList_eq]
    have : s.data.toList.length = s.size := by rw [Array.length_toList]; rfl
    cases hd : s.data.toList with
    | nil => rw [hd] at this; simp at this; simp [← this]
    | cons a l => rw [hd] at this; simp at this; simp; omega
  rw [e]
  simp
end Go.Proofs.YtcjcccbjgooooaaGreatDoor
/- dryrotref03: IsName, New, stops. -/
namespace Go.Proofs.YtcjcccbjgooooaaGreatDoor
open Go.RowKit HP
set_option linter.unusedSimpArgs false
set_option linter.unusedVariables false

set_option maxHeartbeats 2000000 in
set_option maxRecDepth 100000 in
theorem ref_isName (s : ByteArray) (w : World) (hs : s.size ≤ maxLen) :
    Calls Tryz.prog 110 #[.string s] w fun e w' => e = .returned (.bool (namedB s)) ∧ w' = w := by
  obtain ⟨R, hR⟩ : ∃ R, R = namedB s := ⟨_, rfl⟩
  have HR : Aside (R = (decide (1 ≤ s.size) && decide (s.size ≤ 24) && !s.data.toList.any strangeC)) := ⟨by rw [hR, named_bytes]⟩
  rw [← hR]
  clear hR
  have hd : s.data.toList.length = s.size := by rw [Array.length_toList]; rfl
  have HD := Aside.mk hd
  unfold maxLen at hs
  clear hd
  go_enter Tryz.func110, Tryz.ntmps110
  go_wp2
  go_loopw [3] (fun v3 wr => ∃ k : Nat, k ≤ s.size ∧ v3 = .int .i64 k ∧ Aside ((s.data.toList.take k).any strangeC = false) ∧ wr = w) (fun i _ => s.size - (intOf i).toNat)
  case atStart => exact ⟨0, Nat.zero_le _, rfl, ⟨by simp⟩, rfl⟩
  case round =>
    obtain ⟨k, hk, rfl, HS, rfl⟩ := hrel
    by_cases hlt : k < s.size
    · have hlt2 : (k : Int) < (s.size : Int) := by omega
      have h0 : (0 : Int) ≤ (k : Int) := by omega
      have hsk : s.data.toList.take (k + 1) = s.data.toList.take k ++ [s[k]] := by
        rw [List.take_succ_eq_append_getElem (by rw [HD.out]; exact hlt)]
        rfl
      have HSK := Aside.mk hsk
      clear hsk
      go_wp2
      all_goals first
        | (refine ⟨⟨k + 1, by omega, by go_num, ⟨?_⟩, trivial⟩, by simp [intOf]; omega⟩
           rw [HSK.out, List.any_append, HS.out]
           have hst : strangeC s[k] = false := by
             unfold strangeC strangeB
             simp_all
             try omega
           simp [hst])
        | (go_ret
           refine ⟨?_, rfl⟩
           have hst : strangeC s[k] = true := by
             unfold strangeC strangeB
             simp_all
             try omega
           have hany : s.data.toList.any strangeC = true := by
             rw [← List.take_append_drop (k + 1) s.data.toList, HSK.out]
             simp [hst]
           rw [HR.out, hany]
           simp)
    · obtain rfl : k = s.size := by omega
      have hall : s.data.toList.any strangeC = false := by
        have h := HS.out
        rwa [List.take_of_length_le (by rw [HD.out]; exact Nat.le_refl _)] at h
      have HA := Aside.mk hall
      clear hall
      go_wp2
      all_goals
        go_ret
        refine ⟨?_, rfl⟩
        rw [HR.out, HA.out]
        first
          | (have h1 : 1 ≤ s.size := by omega
             have h1' : (1 : Int) ≤ (s.size : Int) := by omega
             by_cases h24 : s.size ≤ 24
             · have h24' : (s.size : Int) ≤ 24 := by omega
               simp [h1, h24, h24', h1']
             · have h24' : ¬ (s.size : Int) ≤ 24 := by omega
               simp [h1, h24, h24', h1'])
          | (have h1 : ¬ 1 ≤ s.size := by omega
             simp [h1])
set_option maxHeartbeats 1000000 in
set_option maxRecDepth 100000 in
theorem ref_new (E : Env) (q : HP) (room : Int) (w : World) (h : 0 ≤ room ∧ room ≤ 100000) (hw : Sat E w q) :
    Calls Tryz.prog 27 #[.int .i64 room] w fun e w' => ∃ y, e = .returned (.tuple #[.pointer (some ⟨y, 0, none⟩), .int .i64 0]) ∧ Sat E w' (HP.rdisk y (Dk.new room) * q) := by
  obtain ⟨h0, h1⟩ := h
  have hb := hw.alloc (.cells #[.int .i64 room, .slice none 0 0, .int .i64 (-1)] 131)
  have HB := Aside.mk hb
  have HR := Aside.mk (And.intro h0 h1)
  clear hb hw
  go_enter Tryz.func27, Tryz.ntmps27
  go_wp2
  go_ret2
  refine ⟨w.heap.size, rfl, ?_⟩
  have h2 := HB.out.row_nil 144 2 none
  refine Sat.rdisk_close (v := .slice none 0 0) (fs := []) (L := []) ⟨rfl, (fun f hf => by cases hf), Dk.new_fine HR.out⟩ (Sat.rdk_join ?_)
  refine h2.perm ?_
  show HP.row _ 2 _ 0 [] * (HP.pt _ _ * q) = HP.pt _ _ * (HP.row _ 2 _ 0 [] * (HP.emp * (HP.emp * q)))
  rw [HP.emp_mul, HP.emp_mul]
  ac_rfl
theorem ref_new_no (room : Int) (w : World) (h : room < 0 ∨ 100000 < room) :
    Calls Tryz.prog 27 #[.int .i64 room] w fun e w' => e = .returned (.tuple #[.pointer none, .int .i64 1]) ∧ w' = w := by
  go_enter Tryz.func27, Tryz.ntmps27
  by_cases h0 : room < 0
  · clear h
    go_wp2
    go_ret2
    exact ⟨rfl, rfl⟩
  · have h1 : 100000 < room := by omega
    clear h
    go_wp2
    go_ret2
    exact ⟨rfl, rfl⟩
/-- A change taken off the fuse. -/
theorem ref_stops (E : Env) (q : HP) (y : Nat) (A : Dk) (v : Value) (fs : List RF) (L : List (Value × List Int)) (w : World) (hf : -1 ≤ A.fuse ∧ A.fuse ≤ 9223372036854775807) (hw : Sat E w (HP.rdk y A.room A.fuse v fs L * q)) :
    Calls Tryz.prog 111 #[.pointer (some ⟨y, 0, none⟩)] w fun e w' => e = .returned (.bool (!A.goes)) ∧ Sat E w' (HP.rdk y A.room A.burnt.fuse v fs L * q) := by
  have hp := hw.rdk_parts
  have c2 := hp.cell 2
  have z2 := hp.thaw 2
  have HP := Aside.mk hp
  simp only [List.getElem?_toArray, List.getElem?_cons_zero, List.getElem?_cons_succ] at c2
  clear hw hp
  go_enter Tryz.func111, Tryz.ntmps111
  by_cases h0 : A.fuse = 0
  · have hg : A.goes = false := by unfold Dk.goes burnI; simp [h0]
    have hb : A.burnt.fuse = A.fuse := by unfold Dk.burnt burnI; simp [h0]
    rw [hg, hb]
    rw [h0] at c2
    clear hg hb h0
    go_wp2
    go_ret
    exact ⟨rfl, HP.out.rdk_join⟩
  · by_cases h1 : 0 < A.fuse
    · have hg : A.goes = true := by unfold Dk.goes burnI; simp [h1]
      have hb : A.burnt.fuse = A.fuse - 1 := by unfold Dk.burnt burnI; simp [h1]
      rw [hg, hb]
      clear hg hb
      obtain ⟨fu, hfu⟩ : ∃ fu, fu = A.fuse := ⟨_, rfl⟩
      rw [← hfu] at c2 h0 h1 hf ⊢
      have HF := Aside.mk hfu
      clear hfu
      have hs := HP.out.set (i := 2) (.int .i64 (fu - 1))
      simp only [List.setIfInBounds_toArray, List.set_cons_zero, List.set_cons_succ] at hs
      have HS := Aside.mk hs
      have hz : ((fu - 1 : Int)) ≤ 9223372036854775807 := by omega
      have hz1 : (-9223372036854775808 : Int) ≤ fu - 1 := by omega
      clear hs
      go_wp2
      go_ret
      exact ⟨rfl, HS.out.rdk_join⟩
    · have hg : A.goes = true := by unfold Dk.goes burnI; simp [h1]; omega
      have hb : A.burnt.fuse = A.fuse := by unfold Dk.burnt burnI; simp [h1]
      rw [hg, hb]
      clear hg hb
      obtain ⟨fu, hfu⟩ : ∃ fu, fu = A.fuse := ⟨_, rfl⟩
      rw [← hfu] at c2 h0 h1 hf HP ⊢
      clear hfu
      go_wp2
      go_ret
      exact ⟨rfl, HP.out.rdk_join⟩
end Go.Proofs.YtcjcccbjgooooaaGreatDoor
/- A disk's files that have not come yet, while they come in any order. -/
namespace Go.Proofs.YtcjcccbjgooooaaGreatDoor
open Go.RowKit HP
set_option linter.unusedSimpArgs false
set_option linter.unusedVariables false

theorem putF_perm {α : Type} {s : ByteArray} {v : α} : ∀ {l : List (ByteArray × α)}, lk l s = none → (putF l s v).Perm ((s, v) :: l)
  | [], _ => List.Perm.refl _
  | (t, u) :: l, h => by
    rw [lk_cons] at h
    split at h
    · cases h
    · rename_i hne
      unfold putF
      rw [if_neg hne]
      split
      · exact List.Perm.refl _
      · exact ((putF_perm h).cons _).trans (List.Perm.swap _ _ _)
theorem sortF_perm {fs : List Fil} (hn : (fs.map (·.name)).Nodup) : (sortF fs).Perm (fs.map fun f => (f.name, f.cs)) := by
  induction fs with
  | nil => exact List.Perm.refl _
  | cons f fs ih =>
    simp only [List.map_cons, List.nodup_cons] at hn
    have h2 : lk (sortF fs) f.name = none := by
      rw [sortF_lk]
      unfold lkF
      rw [Option.map_eq_none_iff, List.find?_eq_none]
      intro x hx he
      simp only [decide_eq_true_eq] at he
      exact hn.1 (List.mem_map.2 ⟨x, hx, he⟩)
    exact (putF_perm h2).trans ((ih hn.2).cons _)
theorem files_perm {A : Dk} {es : Array MapEntry} {clock : Nat} {fs : List Fil} (hv : View A es clock fs) : (fs.map fun f => (f.name, f.cs)).Perm A.files := by
  have e : sortF fs = A.files := sorted_ext (sortF_sorted fs) hv.fine.sorted fun s => by rw [sortF_lk, hv.same]
  rw [← e]
  exact (sortF_perm hv.map.2.2.1).symm
/-- The files that have not come yet. -/
def leftZ (es : Array MapEntry) (seen : Array Nat) (fs : List Fil) : List (MapEntry × Fil) := (es.toList.zip fs).filter fun x => !seen.contains x.1.born
theorem filter_out {α : Type} {b : α → Nat} : ∀ {l : List α} {x : α} {p : α → Bool}, (l.map b).Nodup → x ∈ l → p x = true → (l.filter p).Perm (x :: l.filter fun y => p y && !(b y == b x))
  | [], x, p, _, h, _ => by cases h
  | y :: l, x, p, hn, hx, hp => by
    simp only [List.map_cons, List.nodup_cons] at hn
    by_cases e : y = x
    · subst e
      rw [List.filter_cons_of_pos hp, List.filter_cons_of_neg (by simp)]
      refine List.Perm.cons _ (List.Perm.of_eq ?_)
      refine List.filter_congr fun z hz => ?_
      have : b z ≠ b y := fun h => hn.1 (by rw [← h]; exact List.mem_map.2 ⟨z, hz, rfl⟩)
      simp [this]
    · have hxl : x ∈ l := by
        rcases List.mem_cons.1 hx with h | h
        · exact absurd h.symm e
        · exact h
      have hb : b y ≠ b x := fun h => hn.1 (by rw [h]; exact List.mem_map.2 ⟨x, hxl, rfl⟩)
      have ih := filter_out hn.2 hxl hp
      by_cases hpy : p y = true
      · rw [List.filter_cons_of_pos hpy, List.filter_cons_of_pos (by simp [hpy, hb])]
        exact (ih.cons _).trans (List.Perm.swap _ _ _)
      · rw [List.filter_cons_of_neg hpy, List.filter_cons_of_neg (by simp [hpy])]
        exact ih
theorem leftZ_step {es : Array MapEntry} {seen : Array Nat} {fs : List Fil} {j : Nat} {e : MapEntry} {f : Fil} (hn : (es.toList.map (·.born)).Nodup) (hl : es.toList.length = fs.length) (hj : es.toList[j]? = some e) (hf : fs[j]? = some f) (he : seen.contains e.born = false) :
    (leftZ es seen fs).Perm ((e, f) :: leftZ es (seen.push e.born) fs) := by
  have hm : ((es.toList.zip fs).map fun x => x.1.born) = es.toList.map (·.born) := by
    rw [show (fun x : MapEntry × Fil => x.1.born) = (fun x : MapEntry => x.born) ∘ Prod.fst from rfl, ← List.map_map, List.map_fst_zip (by omega)]
  have hmem : (e, f) ∈ es.toList.zip fs := List.mem_of_getElem? (i := j) (by rw [List.getElem?_zip_eq_some]; exact ⟨hj, hf⟩)
  have := filter_out (b := fun x : MapEntry × Fil => x.1.born) (p := fun x => !seen.contains x.1.born) (by rw [hm]; exact hn) hmem (by show (!seen.contains e.born) = true; rw [he]; rfl)
  refine this.trans (List.Perm.of_eq ?_)
  unfold leftZ
  congr 1
  refine List.filter_congr fun z _ => ?_
  rw [Array.contains_push]
  simp [Bool.not_or]
theorem leftZ_start {es : Array MapEntry} {fs : List Fil} (hl : es.toList.length = fs.length) : (leftZ es #[] fs).map (·.2) = fs := by
  unfold leftZ
  rw [List.filter_eq_self.2 (by simp), List.map_snd_zip (by omega)]
theorem leftZ_end {es : Array MapEntry} {seen : Array Nat} {fs : List Fil} (h : leftL es seen = []) : leftZ es seen fs = [] := by
  unfold leftZ
  rw [List.filter_eq_nil_iff]
  rintro ⟨e, f⟩ hx
  have he := (List.of_mem_zip hx).1
  have := List.filter_eq_nil_iff.1 h e he
  simpa using this
end Go.Proofs.YtcjcccbjgooooaaGreatDoor
/- Regions that draw their order: several writing operations that may come up in any order. -/
namespace Go.Proofs.YtcjcccbjgooooaaGreatDoor
open Go.RowKit
set_option linter.unusedSimpArgs false
set_option linter.unusedVariables false

section
variable {P : Program} {ops : Array Oper} {Q : Exit → Act → World → Prop}
/-- One of the operations that may come up: its turn. -/
def BR (P : Program) (ops : Array Oper) (Q : Exit → Act → World → Prop) (effs keeps : List Nat) (T : World → Prop) (n : Nat) (l : Array Bool) (a : Act) (w : World) (i : Nat) : Prop :=
  ∃ oi, ops[i]? = some oi ∧ effs.contains i = true ∧ ∀ K : Act → World → Prop, (∀ a' w', (keeps.contains i = true → T w') → wpR P ops Q (RR effs keeps T) n (l.setIfInBounds i true) a' w' → K a' w') → if Region.wanted oi (yielded ops a.tmps) = true then Oper.wp P oi a w K Q else K (a.put oi.dst undef) w
theorem wpR_many {effs keeps : List Nat} {T : World → Prop} {n : Nat} {l : Array Bool} {a : Act} {w : World} (rs : List Nat) (hne : rs.isEmpty = false) (hc : (Region.ready .any ops l == rs) = true) (h : ∀ i ∈ rs, BR P ops Q effs keeps T n l a w i) :
    wpR P ops Q (RR effs keeps T) (n + 1) l a w := by
  have h1 : Region.ready .any ops l = rs := by simpa using hc
  refine ⟨fun h0 => (by rw [h1] at h0; subst h0; cases hne), fun j hj => ?_⟩
  rw [h1] at hj
  obtain ⟨oi, hi, he, hb⟩ := h j hj
  refine wpOp_step hi fun K hK => hb K fun a' w' hT h' => hK a' w' ⟨?_, h'⟩
  unfold RR
  rw [if_pos he]
  split
  · rename_i hk
    exact fun _ => hT hk
  · trivial
theorem br_keep {effs keeps : List Nat} {T : World → Prop} {i : Nat} {oi : Oper} {n : Nat} {l : Array Bool} {a : Act} {w : World} (l' : Array Bool) (hi : ops[i]? = some oi) (hc : (effs.contains i && (l.setIfInBounds i true == l')) = true)
    (h : ∀ K : Act → World → Prop, (∀ a' w', T w' → wpR P ops Q (RR effs keeps T) n l' a' w' → K a' w') → if Region.wanted oi (yielded ops a.tmps) = true then Oper.wp P oi a w K Q else K (a.put oi.dst undef) w) : BR P ops Q effs keeps T n l a w i := by
  simp only [Bool.and_eq_true, beq_iff_eq] at hc
  obtain ⟨h1, h3⟩ := hc
  subst h3
  by_cases hk : keeps.contains i = true
  · exact ⟨oi, hi, h1, fun K hK => h K fun a' w' hT h' => hK a' w' (fun _ => hT) h'⟩
  · exact ⟨oi, hi, h1, fun K hK => h K fun a' w' hT h' => hK a' w' (fun hk' => absurd hk' hk) h'⟩
theorem br_eff {effs keeps : List Nat} {T : World → Prop} {i : Nat} {oi : Oper} {n : Nat} {l : Array Bool} {a : Act} {w : World} (l' : Array Bool) (hi : ops[i]? = some oi) (hc : (effs.contains i && (l.setIfInBounds i true == l') && !keeps.contains i) = true)
    (h : ∀ K : Act → World → Prop, (∀ a' w', wpR P ops Q (RR effs keeps T) n l' a' w' → K a' w') → if Region.wanted oi (yielded ops a.tmps) = true then Oper.wp P oi a w K Q else K (a.put oi.dst undef) w) : BR P ops Q effs keeps T n l a w i := by
  simp only [Bool.and_eq_true, beq_iff_eq] at hc
  obtain ⟨⟨h1, h3⟩, h4⟩ := hc
  subst h3
  exact ⟨oi, hi, h1, fun K hK => h K fun a' w' h' => hK a' w' (fun hk => absurd hk (by simpa using h4)) h'⟩
end
/-- What two roads come to is walked once. -/
theorem share {S G : Prop} (main : S → G) (pf : S) : G := main pf
end Go.Proofs.YtcjcccbjgooooaaGreatDoor
/- append as an operation of a region. -/
namespace Go.Proofs.YtcjcccbjgooooaaGreatDoor
open Go.RowKit HP
set_option linter.unusedSimpArgs false
set_option linter.unusedVariables false

section
variable {E : Env} {w : World} {q : HP} {e : TypeId} {size n : Nat} {v : Value} {cs : List Value}
theorem wp_append_row {P : Program} {o : Oper} {a : Act} {K : Act → World → Prop} {Q : Exit → Act → World → Prop} {s x : Operand} {t : TypeId} {z : Value} {bytes : Nat}
    (T : SlTy P t e z size bytes)
    (ho : o.op = .call { callee := .builtin .append, args := #[s, x], argTypes := #[t, t] })
    {A : Option Addr} {m c : Nat} {news : List Value} (hs : a.eval s = v) (hx : a.eval x = .slice A m c)
    (h : Sat E w (row e size v n cs * q)) (hnews : Cells w A news) (hl : news.length = m * size) (h1 : news.all Value.oneCell' = true)
    (h63 : n + m ≤ maxLen) (hbytes : (n + m) * bytes ≤ 140737488355328)
    (hk : ∀ v' w', Sat E w' (row e size v' (n + m) (cs ++ news) * q) → K (a.put o.dst v') w') : o.wp P a w K Q := by
  obtain ⟨i, hi, hz, hsize, hby⟩ := info_parts T.info
  obtain ⟨v', w', hr, h2⟩ := run_append_row (P := P) (ty := o.type) T.under hi hz hsize hby T.cells h A m c news hl hnews (List.all_eq_true.1 h1) h63 hbytes (fun _ => T.pos)
  unfold Oper.wp execOp
  simp only [ho, resolve, invoke, builtin, Sem.run_bind, Sem.run_pure, Result.andThen_ok, List.map_toArray, List.map_cons, List.map_nil, hs, hx, hr]
  exact hk v' w' h2
end
end Go.Proofs.YtcjcccbjgooooaaGreatDoor
