/- (postings.block).numbers: what a block's body says. -/
import Derived.Test.YtdcmanihihlaiaaOpenB25
import Derived.Test.YtdcmanihihlaiaaCan
namespace Go.Proofs.Ytdcmanihihlaiaa
open Go.RowKit HP
set_option linter.unusedSimpArgs false
set_option linter.unusedVariables false

section
variable {E : Env} {w : World} {e : TypeId} {size n : Nat} {v : Value} {cs : List Value} {q : HP}
theorem wp_append_row {P : Program} {o : Oper} {a : Act} {K : Act → World → Prop} {Q : Exit → Act → World → Prop} {s x : Operand} {t : TypeId} {z : Value} {bytes : Nat}
    (T : SlTy P t e z size bytes)
    (ho : o.op = .call { callee := .builtin .append, args := #[s, x], argTypes := #[t, t] })
    {A : Option Addr} {m c : Nat} {news : List Value} (hs : a.eval s = v) (hx : a.eval x = .slice A m c)
    (h : Sat E w (row e size v n cs * q)) (hnews : Cells w A news) (hl : news.length = m * size) (h1 : news.all Value.oneCell' = true)
    (h63 : n + m ≤ maxLen) (hbytes : (n + m) * bytes ≤ 140737488355328)
    (hk : ∀ v' w', Sat E w' (row e size v' (n + m) (cs ++ news) * q) → K (a.put o.dst v') w') : Oper.wp P o a w K Q := by
  obtain ⟨i, hi, hz, hsize, hby⟩ := info_parts T.info
  obtain ⟨v', w', hr, h2⟩ := run_append_row (P := P) (ty := o.type) T.under hi hz hsize hby T.cells h A m c news hl hnews (List.all_eq_true.1 h1) h63 hbytes (fun _ => T.pos)
  unfold Oper.wp execOp
  simp only [ho, resolve, invoke, builtin, Sem.run_bind, Sem.run_pure, Result.andThen_ok, List.map_toArray, List.map_cons, List.map_nil, hs, hx, hr]
  exact hk v' w' h2
theorem wp_append_new {P : Program} {o : Oper} {a : Act} {K : Act → World → Prop} {Q : Exit → Act → World → Prop} {s x : Operand} {t : TypeId} {z : Value} {bytes : Nat}
    (T : SlTy P t e z size bytes)
    (ho : o.op = .call { callee := .builtin .append, args := #[s, x], argTypes := #[t, t] })
    {m c : Nat} {news : List Value} {tt : TypeId} {fr : Nat × Nat} (hs : a.eval s = v) (hx : a.eval x = .slice (some ⟨w.heap.size, 0, none⟩) m c)
    (h : Sat E w (row e size v n cs * q)) (hl : news.length = m * size) (h1 : news.all Value.oneCell' = true)
    (h63 : n + m ≤ maxLen) (hbytes : (n + m) * bytes ≤ 140737488355328)
    (hk : ∀ v' w', Sat E w' (row e size v' (n + m) (cs ++ news) * q) → K (a.put o.dst v') w') : Oper.wp P o a (w.alloc (.cells news.toArray tt fr)) K Q :=
  wp_append_row T ho hs hx ((h.alloc _).perm (left_comm _ _ _)) (Cells.fresh w news tt fr) hl h1 h63 hbytes (fun v' w' hw => hk v' w' hw.drop2)
end

/-- So many more may come; how many are wanted; the bytes, and whether they were bad; the last number; the numbers so far. -/
def numsG : Nat → Int → List Int → Bool → Int → List Int → List Int
  | 0, _, _, _, _, l => l
  | f + 1, count, rest, bad, last, l => if (l.length : Int) < count ∧ bad = false then
      numsG f count (numI rest bad).2.1 (numI rest bad).2.2 (last + (numI rest bad).1 + 1) (l ++ [last + (numI rest bad).1 + 1])
    else l
theorem numsG_stop (f : Nat) (count : Int) (rest : List Int) (bad : Bool) (last : Int) {l : List Int} (h : ¬ ((l.length : Int) < count ∧ bad = false)) : numsG f count rest bad last l = l := by
  cases f with
  | zero => rfl
  | succ f => rw [numsG, if_neg h]
def numsI (first : Int) (body : List Int) (count : Int) : List Int := numsG 8 count body false first [first]

def sliceLen : Value → Nat
  | .slice _ n _ => n
  | _ => 0
set_option maxHeartbeats 2000000 in
set_option maxRecDepth 100000 in
theorem numbers_ok (E : Env) (q : HP) (A : Option Addr) (body : List Int) (c : Nat) (first count : Int) (w : World) (hl : body.length ≤ c) (hb : Bytes body) (hcl : body.length ≤ 1000000)
    (hf : 0 ≤ first ∧ first ≤ 2147483647) (hcount : count ≤ 8) (hw : Sat E w q) (hq : ∀ w, Sat E w q → Cells w A (u8s body)) :
    Calls Try.prog 35 #[.agg #[.int .i64 first, .slice A body.length c, .int .i64 count]] w fun e w' => ∃ v, e = .returned v ∧ Sat E w' (HP.row 3 1 v (numsI first body count).length (i64s (numsI first body count)) * q) := by
  go_enter Try.func35, Try.ntmps35
  go_wp2_with fail
  have h0 := hw.alloc (.cells #[.int .i64 first, .slice A body.length c, .int .i64 count] 70)
  have h1 := h0.alloc (.cells #[.slice A body.length c, .bool false] 90)
  have e1 : (w.alloc (.cells #[.int .i64 first, .slice A body.length c, .int .i64 count] 70)).heap.size = w.heap.size + 1 := by
    show (w.heap.push _).size = _
    exact Array.size_push _
  have e2 : ((w.alloc (.cells #[.int .i64 first, .slice A body.length c, .int .i64 count] 70)).alloc (.cells #[.slice A body.length c, .bool false] 90)).heap.size = w.heap.size + 1 + 1 := by
    show (Array.push _ _).size = _
    rw [Array.size_push, e1]
  have h2 := h1.alloc (.cells #[.int .i64 first] 3)
  rw [e2] at h2
  rw [e1] at h2
  have h3 := Sat.row_mk (off := 0) (size := 1) (n := 1) (cap := 1) (cs := [.int .i64 first]) h2 (by omega) (by unfold maxLen; omega) (by simp) (by simp)
  have HS0 := Aside.mk (h3.perm (show _ = HP.pt (w.heap.size + 1) (.cells #[.slice A body.length c, .bool false] 90) * (HP.row 3 1 (.slice (some ⟨w.heap.size + 1 + 1, 0, none⟩) 1 1) 1 (i64s [first]) * (HP.pt w.heap.size (.cells #[.int .i64 first, .slice A body.length c, .int .i64 count] 70) * q)) by simp only [Nat.zero_mul, i64s, List.map_cons, List.map_nil]; ac_rfl))
  clear h0 h1 h2 h3 e1 e2 hw
  generalize w.heap.size + 1 = bs at *
  generalize World.alloc (World.alloc (World.alloc _ _) _) _ = w0 at *
  generalize w.heap.size = bb at *
  go_loopw [4] (fun x wr => ∃ (f : Nat) (last : Int) (rest : List Int) (bad : Bool) (A1 : Option Addr) (c1 : Nat) (l0 : List Int) (j : Nat),
    Aside (l0.length = j + 1 ∧ l0[j]? = some last) ∧ f + j = 8 ∧ 0 ≤ last ∧ last < 34359738368 * (j + 1) ∧ rest.length ≤ c1 ∧ rest.length ≤ 1000000 ∧ Bytes rest ∧ (∀ w, Sat E w q → Cells w A1 (u8s rest)) ∧
    Aside (numsI first body count = numsG f count rest bad last l0) ∧ sliceLen x = j + 1 ∧
    Aside (Sat E wr (HP.pt bs (.cells #[.slice A1 rest.length c1, .bool bad] 90) * (HP.row 3 1 x (j + 1) (i64s l0) * (HP.pt bb (.cells #[.int .i64 first, .slice A body.length c, .int .i64 count] 70) * q))))) (fun x _ => 9 - sliceLen x)
  case atStart => exact ⟨8, first, body, false, A, c, [first], 0, ⟨rfl, rfl⟩, rfl, hf.1, by omega, hl, hcl, hb, hq, ⟨rfl⟩, rfl, HS0⟩
  case round =>
    clear HS0 hb hq hl hcl hf
    obtain ⟨f, last, rest, bad, A1, c1, l0, j, HL, hfj, hy0, hy1, hc1, hle, hb1, hq1, HO, hx, HS⟩ := hrel
    have hS := HS.out
    obtain ⟨Al, cl, rfl, -, -⟩ := hS.s2.row_slice
    have hc := hS.s2.row_cells
    obtain ⟨a, ha, -⟩ := hc.at_ j (by simp [i64s, HL.out.1])
    obtain ⟨gl, ol, rfl⟩ : ∃ g o, a = ⟨g, o, none⟩ := slice_addr hc ha (k := j) (by simp [i64s, HL.out.1])
    subst ha
    have c0 := hS.cell 1
    have cb := hS.s3.cell 2
    simp only [List.getElem?_toArray, List.getElem?_cons_zero, List.getElem?_cons_succ] at c0 cb
    clear hc hx
    by_cases hgo : (j : Int) + 1 < count ∧ bad = false
    · obtain ⟨hp, rfl⟩ := hgo
      obtain ⟨f, rfl⟩ : ∃ f', f = f' + 1 := ⟨f - 1, by omega⟩
      have HY : Aside ((i64s l0)[j]? = some (.int .i64 last)) := ⟨by simp [i64s, HL.out.2]⟩
      have cy : World.cell? _ ⟨gl, ol + j, none⟩ = some (.int .i64 last) := hS.s2.row_cell j _ HY.out
      rw [numsG, if_pos ⟨by rw [HL.out.1]; push_cast; exact hp, rfl⟩] at HO
      have hj0 : (0 : Int) ≤ (j : Int) := by omega
      have hj1 : (j : Int) < (j : Int) + 1 := by omega
      have hjw : IntKind.i64.wrap ((j : Int) + 1 - 1) = (j : Int) := by rw [show ((j : Int) + 1 - 1) = (j : Int) by omega]; exact IntWalk.i64_in _ (by omega)
      go_wp2_with fail
      refine region_R [8, 11, 12] [8] (fun w' => w'.cell? ⟨gl, ol + j, none⟩ = some (.int .i64 last)) #[false, false, false, false, false, false, false, false, false, false, false, false, false, false] (by kernel_rfl) rfl rfl ?_
      refine wpR_pu 0 #[true, false, false, false, false, false, false, false, false, false, false, false, false, false] rfl onlyN_noPanic (by kernel_rfl) (fun K hK => ?_); (go_simp; try go_bits); refine hK _ ?_; clear hK K
      refine wpR_pu 1 #[true, true, false, false, false, false, false, false, false, false, false, false, false, false] rfl onlyN_noPanic (by kernel_rfl) (fun K hK => ?_); (go_simp; try go_bits); refine hK _ ?_; clear hK K
      refine wpR_pu 2 #[true, true, true, false, false, false, false, false, false, false, false, false, false, false] rfl onlyN_noPanic (by kernel_rfl) (fun K hK => ?_); (go_simp; try go_bits); refine hK _ ?_; clear hK K
      refine wpR_pu 3 #[true, true, true, true, false, false, false, false, false, false, false, false, false, false] rfl onlyN_noPanic (by kernel_rfl) (fun K hK => ?_); (go_simp; try go_bits); refine hK _ ?_; clear hK K
      refine wpR_pu 4 #[true, true, true, true, true, false, false, false, false, false, false, false, false, false] rfl onlyN_noPanic (by kernel_rfl) (fun K hK => ?_); (go_simp; try go_bits); refine hK _ ?_; clear hK K
      refine wpR_pu 5 #[true, true, true, true, true, true, false, false, false, false, false, false, false, false] rfl onlyN_noPanic (by kernel_rfl) (fun K hK => ?_); (go_simp; try go_bits); refine hK _ ?_; clear hK K
      refine wpR_held (i := 6) (v := .int .i64 last) #[true, true, true, true, true, true, true, false, false, false, false, false, false, false] rfl onlyN_noPanic (by kernel_rfl) (by go_simp) (.inl ⟨rfl, fun w' hT => ?_⟩) ?_
      · go_simp
      simp only [Act.put, List.setIfInBounds_toArray, List.set_cons_zero, List.set_cons_succ]
      refine wpR_rd 7 #[true, true, true, true, true, true, true, true, false, false, false, false, false, false] rfl onlyN_noPanic (by kernel_rfl) (fun K hK => ?_); (go_simp; try go_bits); refine hK _ ?_; clear hK K
      refine wpR_keep #[true, true, true, true, true, true, true, true, true, false, false, false, false, false] (i := 8) rfl (by kernel_rfl) (fun K hK => ?_)
      go_simp
      refine (number_ok E _ q bs A1 rest c1 false _ hc1 hb1 hle HS.out.drew (fun w h => h.right.right) hq1).mono ?_
      rintro e w2 ⟨rfl, A2, c2, hc2, hw2, hq2⟩
      have HT2 := hw2.s2.row_cell j _ HY.out
      refine hK _ _ HT2 ?_; clear hK K
      obtain ⟨k1, hk1⟩ := numI_rest rest false
      have hbd := numI_bd rest false hb1
      have hb2 : Bytes (numI rest false).2.1 := by rw [hk1]; exact hb1.drop k1
      have hle2 : (numI rest false).2.1.length ≤ 1000000 := by rw [hk1, List.length_drop]; omega
      generalize numI rest false = r1 at *
      obtain ⟨n1, rest1, bad1⟩ := r1
      dsimp only at *
      clear hk1 HS hS hc1 hle hq1 hb1 c0 cb cy
      have hw1 : IntKind.i64.wrap (last + n1) = last + n1 := IntWalk.i64_in _ (by omega)
      have hw3 : IntKind.i64.wrap (last + n1 + 1) = last + n1 + 1 := IntWalk.i64_in _ (by omega)
      have HS2 := Aside.mk hw2.s2
      refine wpR_rd 9 #[true, true, true, true, true, true, true, true, true, true, false, false, false, false] rfl onlyN_noPanic (by kernel_rfl) (fun K hK => ?_); (go_simp; try go_bits); refine hK _ ?_; clear hK K
      refine wpR_rd 10 #[true, true, true, true, true, true, true, true, true, true, true, false, false, false] rfl onlyN_noPanic (by kernel_rfl) (fun K hK => ?_); (go_simp; try go_bits); refine hK _ ?_; clear hK K
      refine wpR_eff #[true, true, true, true, true, true, true, true, true, true, true, true, false, false] (i := 11) rfl (by kernel_rfl) (fun K hK => ?_)
      go_simp; refine hK _ _ ?_; clear hK K
      refine wpR_eff #[true, true, true, true, true, true, true, true, true, true, true, true, true, false] (i := 12) rfl (by kernel_rfl) (fun K hK => ?_)
      refine Eq.mpr (if_pos (by rfl)) ?_
      refine wp_append_new slI64 (by rfl) (by rfl) (by rfl) HS2.out (by rfl) (by rfl) (by unfold maxLen; omega) (by omega) (fun v4 w4 hw4 => hK _ _ ?_); clear hK K
      obtain ⟨A4, c4, rfl, -, -⟩ := hw4.row_slice
      refine wpR_rd 13 #[true, true, true, true, true, true, true, true, true, true, true, true, true, true] rfl onlyN_noPanic (by kernel_rfl) (fun K hK => ?_); (go_simp; try go_bits); refine hK _ ?_; clear hK K
      refine wpR_done (by kernel_rfl) ?_ _
      simp only [OnlyN]
      go_wp2
      go_roundw
      case rel =>
        refine ⟨f, last + n1 + 1, rest1, bad1, A2, c2, l0 ++ [last + n1 + 1], j + 1, ⟨by simp [HL.out.1], ?_⟩, by omega, by omega, by push_cast; omega, hc2, hle2, hb2, hq2, HO, rfl, ⟨?_⟩⟩
        · rw [List.getElem?_append_right (by rw [HL.out.1]; omega), HL.out.1]; simp
        · have h9 := hw4.s2
          simp only [i64s, List.map_append, List.map_cons, List.map_nil] at h9 ⊢
          exact h9
      case measure => simp [sliceLen]; omega
    · have HV : Aside (numsI first body count = l0) := ⟨by rw [HO.out, numsG_stop _ _ _ _ _ (by rw [HL.out.1]; push_cast; exact hgo)]⟩
      have HT : Aside (∃ v, Ending.returned (.slice (some ⟨gl, ol, none⟩) (j + 1) cl) = .returned v ∧ Sat E wr (HP.row 3 1 v (numsI first body count).length (i64s (numsI first body count)) * q)) := ⟨by
        refine ⟨_, rfl, ?_⟩
        rw [HV.out, HL.out.1]
        exact hS.right.drop2⟩
      clear HS hS HV HO HL
      by_cases hp : (j : Int) + 1 < count
      · obtain rfl : bad = true := by cases bad with | true => rfl | false => exact absurd ⟨hp, rfl⟩ hgo
        go_wp2
        go_ret
        exact HT.out
      · go_wp2
        go_ret
        exact HT.out
end Go.Proofs.Ytdcmanihihlaiaa
