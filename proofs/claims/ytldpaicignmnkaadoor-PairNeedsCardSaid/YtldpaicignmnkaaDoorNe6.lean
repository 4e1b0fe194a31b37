/- Texts of one claim, one behind the other: ChunkA, ChunkB, PairS, PairG, NewerP, NeedsP, NeedsW, Laid. -/
import Derived.Test.YtldpaicignmnkaaDoorNe5
import Derived.LaidMore
import Derived.Stop.Joined
/- slices.Chunk: a slice's pieces come, one behind the other. -/
namespace Go.Proofs.YtldpaicignmnkaaDoor
open Go.RowKit Go.Shelf HP
set_option linter.unusedSimpArgs false
set_option linter.unusedVariables false
attribute [local go_sem] Oper.semAt_some

def chunkN (n : Nat) : Nat := (n + 105) / 106
def chunkM (n k : Nat) : Nat := min 106 (n - 106 * k)
def chunkV (g o n k : Nat) : Value := .slice (some ⟨g, o + 106 * k, none⟩) (chunkM n k) (chunkM n k)
def Keep2 (b1 b2 : Nat) (W W' : World) : Prop := W'.heap[b1]? = W.heap[b1]? ∧ W'.heap[b2]? = W.heap[b2]?
theorem Keep2.refl {b1 b2 : Nat} (W : World) : Keep2 b1 b2 W W := ⟨rfl, rfl⟩
theorem Keep2.trans {b1 b2 : Nat} {W X Y : World} (h : Keep2 b1 b2 W X) (k : Keep2 b1 b2 X Y) : Keep2 b1 b2 W Y := ⟨k.1.trans h.1, k.2.trans h.2⟩
theorem grows_drew (w : World) : w.grownBy w.drew none := ⟨rfl, rfl, rfl, Nat.le_refl _, fun _ _ _ => rfl⟩
set_option maxRecDepth 100000 in
set_option maxHeartbeats 2000000 in
theorem chunk1_in (N : Nat) (hN : 1 ≤ N) (l bS bN : Nat) (A : Option Addr) (g o n c : Nat) (hA : 0 < n → A = some ⟨g, o, none⟩) (hnc : n ≤ c) (hcm : c ≤ maxLen) (hn64 : n ≤ 140737488351232) (J Jx : List Nat → World → Prop)
    (hY : ∀ pre x W, J pre W → pre.length < chunkN n → x < chunkN n → YieldAt Fence.wide (N - 1) Tryd.prog l #[chunkV g o n x] W fun e W' =>
      (e = .returned (.bool true) ∧ J (pre ++ [x]) W' ∧ Keep2 bS bN W W') ∨ (e = .returned (.bool false) ∧ Jx (pre ++ [x]) W'))
    (W : World) (hS : W.cell? ⟨bS, 0, none⟩ = some (.slice A n c)) (hB : W.cell? ⟨bN, 0, none⟩ = some (.int .i64 106)) (h0 : J [] W) (hJ : AbidesFrom W.heap.size J) :
    CallsIn Fence.wide N Tryd.prog 52 #[.func (.yield l) #[] #[], .pointer (some ⟨bS, 0, none⟩), .pointer (some ⟨bN, 0, none⟩)] W fun e W' => (∃ v, e = .returned v) ∧
      ((∃ ys, ys = List.range (chunkN n) ∧ J ys W') ∨ (∃ pre, Jx pre W')) := by
  refine callsIn_of_wp Tryd.func52 rfl trivial ?_ rfl
  simp only [Tryd.ntmps52, List.size_toArray, List.length_cons, List.length_nil, Nat.reduceAdd, Nat.reduceSub, Array.replicate_succ, Array.replicate_zero, List.push_toArray, List.append_toArray, List.nil_append, List.cons_append]
  gi_wp2
  gi_loopw [4] (fun i wr => ∃ k : Nat, k ≤ chunkN n ∧ i = .int .i64 ((106 * k : Nat) : Int) ∧ J (List.range k) wr ∧ Keep2 bS bN W wr) (fun i _ => (106 * chunkN n + 1 - (intOf i).toNat))
  case atStart => exact ⟨0, Nat.zero_le _, rfl, h0, Keep2.refl _⟩
  case round =>
    obtain ⟨k, hk, rfl, hJs, hnx⟩ := hrel
    have hS1 : wr.cell? ⟨bS, 0, none⟩ = some (.slice A n c) := (World.cell?_of_block (w := W) hnx.1).trans hS
    have hB1 : wr.cell? ⟨bN, 0, none⟩ = some (.int .i64 106) := (World.cell?_of_block (w := W) hnx.2).trans hB
    by_cases hlt : k < chunkN n
    · have hkn : 106 * k < n := by unfold chunkN at hlt; omega
      obtain rfl := hA (by omega)
      obtain ⟨j, hj⟩ : ∃ j, j = 106 * k := ⟨_, rfl⟩
      rw [← hj]
      have hjn : j < n := by omega
      have hjn' : (j : Int) < n := by omega
      have hjc : (j : Int) < c := by omega
      have hm : (if ((n - j : Nat) : Int) < 106 then ((n - j : Nat) : Int) else 106) = ((min 106 (n - j) : Nat) : Int) := by split <;> omega
      have hjle : j ≤ n := by omega
      have hcj : ¬ c = j := by omega
      have hlt' := hlt
      have HK : Aside (k < chunkN n) := ⟨hlt⟩
      clear hlt'
      have HJ := Aside.mk hj
      have HM := Aside.mk hm
      have HY := Aside.mk hY
      clear hj hm hkn hA hlt hS hB h0 hY
      gi_wp2
      refine wpIn_wide.2 ?_
      refine region_R [] [] (fun _ => True) #[false, false, false, false, false, false, false] (by kernel_rfl) rfl rfl ?_
      refine wpR_rd 0 #[true, false, false, false, false, false, false] rfl onlyN_noPanic (by kernel_rfl) (fun K hK => ?_); (go_simp; try go_bits); refine hK _ ?_; clear hK K
      refine wpR_rd 1 #[true, true, false, false, false, false, false] rfl onlyN_noPanic (by kernel_rfl) (fun K hK => ?_); (go_simp; try go_bits); refine hK _ ?_; clear hK K
      refine wpR_rd 2 #[true, true, true, false, false, false, false] rfl onlyN_noPanic (by kernel_rfl) (fun K hK => ?_); (go_simp; try go_bits); refine hK _ ?_; clear hK K
      refine wpR_rd 3 #[true, true, true, true, false, false, false] rfl onlyN_noPanic (by kernel_rfl) (fun K hK => ?_); (go_simp; try go_bits); refine hK _ ?_; clear hK K
      refine wpR_rd 4 #[true, true, true, true, true, false, false] rfl onlyN_noPanic (by kernel_rfl) (fun K hK => ?_); (go_simp; try go_bits); refine hK _ ?_; clear hK K
      refine wpR_rd 5 #[true, true, true, true, true, true, false] rfl onlyN_noPanic (by kernel_rfl) (fun K hK => ?_); (go_simp; try go_bits); refine hK _ ?_; clear hK K
      refine wpR_rd 6 #[true, true, true, true, true, true, true] rfl onlyN_noPanic (by kernel_rfl) (fun K hK => ?_); (go_simp; try go_bits); refine hK _ ?_; clear hK K
      refine wpR_done (by kernel_rfl) ?_ _
      simp only [OnlyN]
      rw [HM.out]
      obtain ⟨m, hm⟩ : ∃ m, m = min 106 (n - j) := ⟨_, rfl⟩
      rw [← hm]
      have hm0 : 0 < m := by omega
      have hmn : j + m ≤ n := by omega
      have hmc : (j : Int) + m ≤ c := by omega
      have hjd := hJ _ _ _ none hJs (grows_drew wr) (fun r h => by cases h)
      obtain ⟨fn, tmps, assign, body, hy, hR⟩ := HY.out (List.range k) k wr.drew hjd (by rw [List.length_range]; exact HK.out) HK.out
      have ev : chunkV g o n k = .slice (some ⟨g, o + j, none⟩) m m := by unfold chunkV chunkM; rw [← HJ.out, hm]
      rw [ev] at hy
      have hnd : Keep2 bS bN W wr.drew := hnx
      have HN := Aside.mk hnd
      have hjm1 : j ≤ j + m := by omega
      have hjm2 : j + m ≤ c := by omega
      have ejm : j + m - j = m := by omega
      clear hJs hjd HM hm ev hnx hnd
      gi_wp2
      refine hR.mono ?_
      have hn64' : (n : Int) ≤ 140737488351232 := by omega
      rintro ee W3 (⟨rfl, hJ3, hk3⟩ | ⟨rfl, hJx3⟩)
      · have hn1 := HN.out.trans hk3
        have hB3 : W3.cell? ⟨bN, 0, none⟩ = some (.int .i64 106) := (World.cell?_of_block (w := wr.drew) hk3.2).trans hB1
        have HR := Aside.mk (And.intro hn1 hJ3)
        clear hS1 hB1 hy hR hk3 hn1 hJ3
        gi_wp2
        go_roundw
        case rel => exact ⟨k + 1, by have := HK.out; omega, by rw [HJ.out]; push_cast; congr 1, by rw [List.range_succ]; exact HR.out.2, HR.out.1⟩
        case measure =>
          have := HK.out
          have := HJ.out
          simp [intOf]
          omega
      · clear hy hR
        gi_wp2
        refine bodyPost_ret (results_none rfl _ _ _) rfl ?_
        exact ⟨⟨_, rfl⟩, .inr ⟨_, hJx3⟩⟩
    · have hkc : k = chunkN n := by omega
      have hge : ¬ (((106 * k : Nat) : Int) < (n : Int)) := by unfold chunkN at hkc; omega
      have HX : Aside (∃ ys, ys = List.range (chunkN n) ∧ J ys wr) := ⟨⟨_, rfl, by rw [← hkc]; exact hJs⟩⟩
      obtain ⟨j, hj⟩ : ∃ j, j = 106 * k := ⟨_, rfl⟩
      rw [← hj] at hge ⊢
      clear hkc hj hY hA hJs hnx
      gi_wp2
      go_end0
      exact ⟨⟨_, rfl⟩, .inl (by obtain ⟨ys, rfl, h⟩ := HX.out; exact h)⟩
theorem chunk_stops (N : Nat) (hN : 1 ≤ N) (bS bN : Nat) (A : Option Addr) (g o n c : Nat) (hA : 0 < n → A = some ⟨g, o, none⟩) (hnc : n ≤ c) (hcm : c ≤ maxLen) (hn64 : n ≤ 140737488351232) (w : World) (hbS : bS < w.heap.size) (hbN : bN < w.heap.size)
    (hS : w.cell? ⟨bS, 0, none⟩ = some (.slice A n c)) (hB : w.cell? ⟨bN, 0, none⟩ = some (.int .i64 106)) :
    SeqStopsK Fence.wide N Tryd.prog 52 #[.pointer (some ⟨bS, 0, none⟩), .pointer (some ⟨bN, 0, none⟩)] (fun x : { x : Nat // x < chunkN n } => #[chunkV g o n x.1]) (Keep2 bS bN)
      (fun ys => ys.map (·.1) = List.range (chunkN n)) (fun _ => True) (chunkN n) w := fun l J Jx W hW hJ hJx hY h0 => by
  have hS' := (hW.cell (p := ⟨bS, 0, none⟩) hbS).trans hS
  have hB' := (hW.cell (p := ⟨bN, 0, none⟩) hbN).trans hB
  refine (chunk1_in N hN l bS bN A g o n c hA hnc hcm hn64 (fun ys W => ∃ zs : List { x : Nat // x < chunkN n }, zs.map (·.1) = ys ∧ J zs W) (fun ys W => ∃ zs : List { x : Nat // x < chunkN n }, zs.map (·.1) = ys ∧ Jx zs W) ?_ W hS' hB' ⟨[], rfl, h0⟩ ?_).mono ?_
  · rintro pre x W1 ⟨zs, rfl, hj⟩ hl hx
    obtain ⟨fn, tmps, assign, body, hy, hR⟩ := hY zs ⟨x, hx⟩ W1 hj (by simpa using hl)
    refine ⟨fn, tmps, assign, body, hy, hR.mono ?_⟩
    rintro e W' (⟨rfl, h1, h2⟩ | ⟨rfl, h1⟩)
    · exact .inl ⟨rfl, ⟨_, by simp, h1⟩, h2⟩
    · exact .inr ⟨rfl, ⟨_, by simp, h1⟩⟩
  · rintro s W1 W2 row ⟨zs, hz, hj⟩ hg hr
    exact ⟨zs, hz, hJ _ _ _ _ hj hg hr⟩
  · rintro e W' ⟨he, ⟨ys, rfl, zs, hz, hj⟩ | ⟨pre, zs, hz, hj⟩⟩
    · exact ⟨he, .inl ⟨zs, hz, hj⟩⟩
    · exact ⟨he, .inr ⟨zs, trivial, hj⟩⟩
set_option maxHeartbeats 1000000 in
set_option maxRecDepth 100000 in
theorem chunk_ok (E : Env) (q : HP) (A : Option Addr) (n c : Nat) (w : World) (hw : Sat E w q) :
    Calls Tryd.prog 32 #[.slice A n c, .int .i64 106] w fun e w' => ∃ bS, e = .returned (.func (.func 52) #[] #[.pointer (some ⟨bS, 0, none⟩), .pointer (some ⟨bS + 1, 0, none⟩)]) ∧
      Sat E w' (HP.pt bS (.cells #[.slice A n c] 22) * (HP.pt (bS + 1) (.cells #[.int .i64 106] 3) * q)) := by
  have h1 := ((hw.alloc (.cells #[.slice A n c] 22)).alloc (.cells #[.int .i64 106] 3)).s2
  rw [show (w.alloc (.cells #[.slice A n c] 22)).heap.size = w.heap.size + 1 by simp] at h1
  have H1 := Aside.mk h1
  clear h1 hw
  go_enter Tryd.func32, Tryd.ntmps32
  go_wp2
  go_ret
  exact ⟨w.heap.size, rfl, H1.out⟩
end Go.Proofs.YtldpaicignmnkaaDoor
/- slices.AppendSeq and Collect over slices.Chunk. -/
namespace Go.Proofs.YtldpaicignmnkaaDoor
open Go.RowKit Go.Shelf HP
set_option linter.unusedSimpArgs false
set_option linter.unusedVariables false
attribute [local go_sem] Oper.semAt_some

theorem slSS : SlTy Tryd.prog 70 22 (.slice none 0 0) 1 24 := ⟨Tryd.underlying70, by kernel_rfl, rfl, by decide⟩
/-- What has been gathered: a box with a slice of an own array. -/
def HP.gath (bb : Nat) (l : List Value) : HP := HP.ex fun v => HP.pt bb (.cells #[v] 70) * HP.row 22 1 v l.length l
theorem HP.gath_solid {bb B : Nat} (h : bb < B) (l : List Value) : HP.Solid B (HP.gath bb l) := by
  rintro k ⟨v, hk⟩
  exact (HP.Solid.mul (HP.Solid.pt_below h _) ((HP.Celled.row _ _ _ _ _).solid B)) k hk
set_option maxHeartbeats 2000000 in
set_option maxRecDepth 100000 in
theorem appendSeq_ok (E : Env) (q : HP) (bS bN : Nat) (A : Option Addr) (g o n c : Nat) (w : World) (hA : 0 < n → A = some ⟨g, o, none⟩) (hnc : n ≤ c) (hcm : c ≤ maxLen) (hn64 : n ≤ 140737488351232)
    (hw : Sat E w (HP.pt bS (.cells #[.slice A n c] 22) * (HP.pt bN (.cells #[.int .i64 106] 3) * q))) :
    Calls Tryd.prog 51 #[.slice none 0 0, .func (.func 52) #[] #[.pointer (some ⟨bS, 0, none⟩), .pointer (some ⟨bN, 0, none⟩)]] w fun e w' => ∃ v, e = .returned v ∧
      Sat E w' (HP.row 22 1 v (chunkN n) ((List.range (chunkN n)).map (chunkV g o n)) * (HP.pt bS (.cells #[.slice A n c] 22) * (HP.pt bN (.cells #[.int .i64 106] 3) * q))) := by
  obtain ⟨q0, hq0⟩ : ∃ q0, q0 = HP.pt bS (.cells #[.slice A n c] 22) * (HP.pt bN (.cells #[.int .i64 106] 3) * q) := ⟨_, rfl⟩
  have hk0 : ∀ E1 W p, Sat E1 W (p * q0) → W.heap[bS]? = some (.cells #[.slice A n c] 22) ∧ W.heap[bN]? = some (.cells #[.int .i64 106] 3) := fun E1 W p h => by
    rw [hq0] at h
    exact ⟨h.s2.get, h.s3.get⟩
  rw [← hq0] at hw ⊢
  clear hq0
  refine calls_of_wp_marks Tryd.func51 rfl ?_
  simp only [Tryd.ntmps51, List.size_toArray, List.length_cons, List.length_nil, Nat.reduceAdd, Nat.reduceSub, Array.replicate_succ, Array.replicate_zero, List.push_toArray, List.append_toArray, List.nil_append, List.cons_append]
  have h1 := (hw.alloc (.cells #[.slice none 0 0] 70))
  have hl1 : bS < w.heap.size := (Array.getElem?_eq_some_iff.1 (hk0 _ _ HP.emp (by rw [HP.emp_mul]; exact hw)).1).1
  have hl2 : bN < w.heap.size := (Array.getElem?_eq_some_iff.1 (hk0 _ _ HP.emp (by rw [HP.emp_mul]; exact hw)).2).1
  have hsz : (w.alloc (.cells #[.slice none 0 0] 70)).heap.size = w.heap.size + 1 := by simp
  have h2 : Sat E (w.alloc (.cells #[.slice none 0 0] 70)) (HP.gath w.heap.size [] * q0) := Sat.ex_intro (f := fun v => HP.pt w.heap.size (.cells #[v] 70) * HP.row 22 1 v 0 []) (.slice none 0 0) ((h1.row_nil 22 1 none).perm (by ac_rfl))
  clear h1
  go_wp2
  generalize World.alloc w _ = w1 at *
  generalize w.heap.size = bb at *
  refine wp_range_sat (α := { x : Nat // x < chunkN n }) rfl (enters_of Tryd.func52 (by kernel_rfl) rfl)
    (chunk_stops 19 (by omega) bS bN A g o n c hA hnc hcm hn64 w1 (by omega) (by omega) (cell_of_row _ _ 0 _ _ _ (hk0 _ _ _ h2).1) (cell_of_row _ _ 0 _ _ _ (hk0 _ _ _ h2).2)) (fun h k => h.trans k) (fun W l o o' hl ho h1 _ => ⟨putObj_heap_ne W l o' bS (by omega), putObj_heap_ne W l o' bN (by omega)⟩)
    (fun E1 E2 W W' p p' h1 h2 => ⟨(hk0 _ _ _ h2).1.trans (hk0 _ _ _ h1).1.symm, (hk0 _ _ _ h2).2.trans (hk0 _ _ _ h1).2.symm⟩) (fun _ => rfl)
    (fun pre => HP.gath bb (pre.map fun x => chunkV g o n x.1)) (fun pre => HP.gath_solid (by omega) _) h2
    (fun x a' W => a' = { tmps := #[.slice none 0 0, .func (.func 52) #[] #[.pointer (some ⟨bS, 0, none⟩), .pointer (some ⟨bN, 0, none⟩)], .pointer (some ⟨bb, 0, none⟩), undef, .slice none 0 0, chunkV g o n x.1, .func (.func 52) #[] #[.pointer (some ⟨bS, 0, none⟩), .pointer (some ⟨bN, 0, none⟩)], chunkV g o n x.1, undef, undef, undef, undef, undef], defers := [] }) ?hAx ?assign ?body ?done
  case hAx =>
    rintro x a' s W W' row rfl hg hr
    rfl
  case assign =>
    intro l x W K' hsz hK'
    clear hk0 h2 hw
    generalize chunkV g o n x.1 = cv at *
    gi_wp2
    exact hK' _ _ (Below.refl _ _) rfl
  case body =>
    rintro E' q' l pre x a' W hqq hI rfl hpre
    clear hqq h2 hw hk0
    obtain ⟨v, hI⟩ := hI.ex_elim
    have hI2 : Sat E' W (HP.row 22 1 v (pre.map fun x => chunkV g o n x.1).length (pre.map fun x => chunkV g o n x.1) * (HP.pt bb (.cells #[v] 70) * q')) := hI.perm (by ac_rfl)
    have b0 := hI2.s2.cell1
    have hpl : (pre.map fun x => chunkV g o n x.1).length = pre.length := List.length_map _
    have hN : chunkN n ≤ 1400000000000 := by unfold chunkN; omega
    have HX : Aside ((pre ++ [x]).map (fun x => chunkV g o n x.1) = (pre.map fun x => chunkV g o n x.1) ++ [chunkV g o n x.1]) := ⟨by rw [List.map_append]; rfl⟩
    have hone : (chunkV g o n x.1).oneCell' = true := rfl
    have hcv : ∃ A' m', chunkV g o n x.1 = .slice A' m' m' := ⟨_, _, rfl⟩
    generalize hL : (pre.map fun x => chunkV g o n x.1) = L at *
    generalize chunkV g o n x.1 = cv at *
    have HI := Aside.mk (And.intro hI2 (And.intro hone (And.intro hpl hpre)))
    obtain ⟨Ac, mc, rfl⟩ := hcv
    clear hI hI2 hone hpl hpre hL
    gi_wp2_with (gi_at_builtin; go_loud (refine wpListIn_append_new slSS rfl rfl rfl rfl HI.out.1 rfl (by simp [HI.out.2.1]) (by rw [HI.out.2.2.1]; unfold maxLen; have := HI.out.2.2.2; omega) (by rw [HI.out.2.2.1]; have := HI.out.2.2.2; omega) (fun v4 w4 hw4 => ?_); obtain ⟨A4, c4, rfl, -, -⟩ := hw4.row_slice; have b4 := hw4.s2.cell1; have t4 := hw4.s2.thaw 0; have HW4 := Aside.mk hw4; clear hw4))
    show Sat E' _ _
    rw [HX.out]
    have hlen : (L ++ [Value.slice Ac mc mc]).length = L.length + 1 := by rw [List.length_append]; rfl
    refine Sat.ex_intro (f := fun v => HP.pt bb (.cells #[v] 70) * HP.row 22 1 v (L ++ [Value.slice Ac mc mc]).length (L ++ [Value.slice Ac mc mc])) (Value.slice A4 (L.length + 1) c4) ?_
    rw [hlen]
    exact (HW4.out.s2.set1 (Value.slice A4 (L.length + 1) c4)).perm (by ac_rfl)
  case done =>
    intro D xs W hxs hI
    have hmap : (xs.map fun x => chunkV g o n x.1) = (List.range (chunkN n)).map (chunkV g o n) := by
      have hxs : xs.map (·.1) = List.range (chunkN n) := hxs
      rw [← hxs, List.map_map]
      rfl
    rw [hmap] at hI
    have hlen : ((List.range (chunkN n)).map (chunkV g o n)).length = chunkN n := by rw [List.length_map, List.length_range]
    obtain ⟨v, h5⟩ := hI.s2.ex_elim
    rw [hlen] at h5
    obtain ⟨L, hL⟩ : ∃ L, L = (List.range (chunkN n)).map (chunkV g o n) := ⟨_, rfl⟩
    rw [← hL] at h5
    have HL := Aside.mk hL
    clear hL hlen
    have h6 : Sat E W (HP.pt D (.deferred (some [])) * (HP.pt bb (.cells #[v] 70) * (HP.row 22 1 v (chunkN n) L * q0))) := h5.perm (by ac_rfl)
    have h7 : Sat E W (HP.row 22 1 v (chunkN n) L * (HP.pt D (.deferred (some [])) * (HP.pt bb (.cells #[v] 70) * q0))) := h5.perm (by ac_rfl)
    obtain ⟨A5, c5, rfl, -, -⟩ := h7.row_slice
    have b0 := h6.s2.cell1
    have hD := h6.get
    have HF := Aside.mk (And.intro h6 hD)
    clear hI h5 h6 h7 hD hmap hxs h2 hk0 hw
    go_wp2
    refine marks_ret rfl HF.out.2 (fun w => results_tmp rfl _ _ _) ⟨_, rfl, ?_⟩
    rw [← HL.out]
    exact ((HF.out.1).putDef (.deferred none)).right.right
set_option maxHeartbeats 1000000 in
set_option maxRecDepth 100000 in
theorem collect_ok (E : Env) (q : HP) (bS bN : Nat) (A : Option Addr) (g o n c : Nat) (w : World) (hA : 0 < n → A = some ⟨g, o, none⟩) (hnc : n ≤ c) (hcm : c ≤ maxLen) (hn64 : n ≤ 140737488351232)
    (hw : Sat E w (HP.pt bS (.cells #[.slice A n c] 22) * (HP.pt bN (.cells #[.int .i64 106] 3) * q))) :
    Calls Tryd.prog 31 #[.func (.func 52) #[] #[.pointer (some ⟨bS, 0, none⟩), .pointer (some ⟨bN, 0, none⟩)]] w fun e w' => ∃ v, e = .returned v ∧
      Sat E w' (HP.row 22 1 v (chunkN n) ((List.range (chunkN n)).map (chunkV g o n)) * q) := by
  have HW := Aside.mk (And.intro hw hA)
  clear hw hA
  go_enter Tryd.func31, Tryd.ntmps31
  go_wp2_with fail
  refine (appendSeq_ok E q bS bN A g o n c _ HW.out.2 hnc hcm hn64 HW.out.1).mono ?_
  rintro e w1 ⟨v, rfl, h1⟩
  obtain ⟨A1, c1, rfl, -, -⟩ := h1.row_slice
  have H1 := Aside.mk h1.drop2.drop2
  clear h1
  go_wp2
  go_ret
  exact ⟨_, rfl, H1.out⟩
end Go.Proofs.YtldpaicignmnkaaDoor
/- pair.Store. -/
namespace Go.Proofs.YtldpaicignmnkaaDoor
open Go.RowKit HP
set_option linter.unusedSimpArgs false
set_option linter.unusedVariables false

/-- A text's pieces. -/
def piece (l : List Int) (k : Nat) : List Int := (l.drop (106 * k)).take 106
def piecesI (l : List Int) : List (List Int) := if l.length = 0 then [[]] else (List.range (chunkN l.length)).map (piece l)
def storeP (A : Dk) (name : ByteArray) (gen : Nat) (l : List Int) : Int × Dk := if (dropP A name).1 = 0 then wrP (dropP A name).2 name 0 gen (piecesI l) else dropP A name
theorem piece_length (l : List Int) (k : Nat) : (piece l k).length = chunkM l.length k := by
  unfold piece chunkM
  rw [List.length_take, List.length_drop]
def pieceS (g o : Nat) (l : List Int) (k : Nat) : Sl Int := ⟨some ⟨g, o + 106 * k, none⟩, chunkM l.length k, piece l k⟩
theorem pieceS_val (g o : Nat) (l : List Int) (k : Nat) : (pieceS g o l k).val8 = chunkV g o l.length k := by
  unfold Sl.val8 pieceS chunkV
  rw [piece_length]
set_option maxHeartbeats 2000000 in
set_option maxRecDepth 100000 in
theorem pair_store (E : Env) (q : HP) (d : Nat) (A : Dk) (name : ByteArray) (gen : Nat) (Ap : Option Addr) (l : List Int) (n c : Nat) (w : World) (hname : name.size + 2 ≤ maxLen) (hgen : (gen : Int) ≤ 4611686018427387904) (hln : l.length = n) (hnc : n ≤ c) (hcm : c ≤ maxLen) (hn64 : n ≤ 140737488351232) (hl : Bytes l)
    (hq : ∀ w, Sat E w q → Quarter w ∧ Cells w Ap (b8s l)) (hw : Sat E w (HP.disk d A * q)) :
    Calls Tryd.prog 9 #[.pointer (some ⟨d, 0, none⟩), .string name, .int .i64 gen, .slice Ap n c] w fun e w' => e = .returned (.int .i64 (storeP A name gen l).1) ∧ Sat E w' (HP.disk d (storeP A name gen l).2 * q) := by
  have HS : Aside (storeP A name gen l = if (dropP A name).1 = 0 then wrP (dropP A name).2 name 0 gen (piecesI l) else dropP A name) := ⟨rfl⟩
  have hn2 : name.size ≤ maxLen := by omega
  have hadr : 0 < n → ∃ g o, Ap = some ⟨g, o, none⟩ := fun h => by
    have hc := (hq w hw.right).2
    obtain ⟨a, rfl, -⟩ := hc.at_ 0 (by rw [b8s_length, hln]; exact h)
    obtain ⟨g, o, rfl⟩ := slice_addr hc rfl (k := 0) (by rw [b8s_length, hln]; exact h)
    exact ⟨g, o, rfl⟩
  obtain ⟨g, o, hgo⟩ : ∃ g o, 0 < n → Ap = some ⟨g, o, none⟩ := by
    rcases Nat.eq_zero_or_pos n with h | h
    · exact ⟨0, 0, fun h' => by omega⟩
    · obtain ⟨g, o, h1⟩ := hadr h
      exact ⟨g, o, fun _ => h1⟩
  have HQ := Aside.mk (And.intro hq (And.intro hl (And.intro hln (And.intro hgo hw))))
  clear hq hl hln hw hadr hgo
  go_enter Tryd.func9, Tryd.ntmps9
  go_wp2_with fail
  refine (pair_none E q d A _ HQ.out.2.2.2.2).mono ?_
  rintro e w1 ⟨rfl, k1⟩
  have K1 := Aside.mk k1
  clear k1
  go_wp2_with fail
  refine (ext_frame E (HP.disk d A * q) name 0 gen none [] 0 0 _ hn2 (by omega) hgen rfl (by omega) (fun x hx => by cases hx) (fun w h => ⟨(HQ.out.1 _ h.right).1, Cells.nil _ _⟩) K1.out).mono ?_
  rintro e w2 ⟨gI, rfl, k2⟩
  have K2 := Aside.mk k2.right
  clear k2 K1
  go_wp2_with fail
  refine (pair_drop E q d A name _ hname K2.out).mono ?_
  rintro e w3 ⟨rfl, k3⟩
  have K3 := Aside.mk k3
  clear k3 K2
  by_cases h0 : (dropP A name).1 = 0
  · rw [if_pos h0] at HS
    rw [h0]
    generalize (dropP A name).2 = B at *
    clear h0
    go_wp2_with fail
    refine (chunk_ok E (HP.disk d B * q) Ap n c _ K3.out).mono ?_
    rintro e w4 ⟨bS, rfl, k4⟩
    have K4 := Aside.mk k4
    clear k4 K3
    go_wp2_with fail
    refine (collect_ok E (HP.disk d B * q) bS (bS + 1) Ap g o n c _ HQ.out.2.2.2.1 hnc hcm hn64 K4.out).mono ?_
    rintro e w5 ⟨v, rfl, k5⟩
    obtain ⟨A5, c5, rfl, -, hc5⟩ := k5.row_slice
    have K5 := Aside.mk k5
    clear k5 K4
    by_cases hz : n = 0
    · subst hz
      have hN0 : chunkN 0 = 0 := rfl
      rw [hN0] at K5 ⊢
      have K6 := Aside.mk ((K5.out.right).alloc (.cells [Value.slice none 0 0].toArray 22))
      clear K5
      go_wp2_with fail
      refine (pair_write E (HP.pt w5.heap.size (.cells [Value.slice none 0 0].toArray 22) * q) d B name 0 gen (some ⟨w5.heap.size, 0, none⟩) [⟨none, 0, []⟩] 1 1 _ hname (by omega) hgen rfl (by unfold maxLen; omega) (fun s hs => by
        obtain rfl := List.mem_singleton.1 hs
        exact ⟨Nat.le_refl _, fun x hx => by cases hx⟩) (fun w h => ⟨(HQ.out.1 _ h.right).1, Sat.ptCells (off := 0) (l := [Value.slice none 0 0]) h rfl, fun s hs => by
        obtain rfl := List.mem_singleton.1 hs
        exact Cells.nil _ _⟩) K6.out.s2).mono ?_
      rintro e w6 ⟨rfl, k7⟩
      have K7 := Aside.mk k7.drop2
      clear k7 K6
      have HX : Aside (wrP B name 0 gen (List.map (·.l) [(⟨none, 0, []⟩ : Sl Int)]) = storeP A name gen l) := ⟨by
        rw [HS.out]
        unfold piecesI
        rw [if_pos HQ.out.2.2.1]
        rfl⟩
      rw [HX.out] at K7 ⊢
      go_wp2
      go_ret
      exact ⟨rfl, K7.out⟩
    · obtain ⟨N, hN⟩ : ∃ N, N = chunkN n := ⟨_, rfl⟩
      have hNp : 0 < N := by rw [hN]; unfold chunkN; omega
      have hNm : N ≤ 1400000000000 := by rw [hN]; unfold chunkN; omega
      have HN := Aside.mk hN
      rw [← hN] at K5 ⊢
      clear hN
      have hnz1 : ((N : Int) == 0) = false := by rw [beq_eq_false_iff_ne]; omega
      have hnz2 : ¬ (N : Int) = 0 := by omega
      have hnz3 : ¬ N = 0 := by omega
      obtain rfl := HQ.out.2.2.2.1 (by omega)
      go_wp2_with fail
      refine (pair_write E (HP.row 22 1 (.slice A5 N c5) N ((List.range N).map (chunkV g o n)) * q) d B name 0 gen A5 ((List.range N).map (pieceS g o l)) N c5 _ hname (by omega) hgen (by rw [List.length_map, List.length_range]) (by unfold maxLen; omega) (fun s hs => by
        obtain ⟨k, hk, rfl⟩ := List.mem_map.1 hs
        exact ⟨by show (piece l k).length ≤ chunkM l.length k; rw [piece_length]; exact Nat.le_refl _, fun x hx => HQ.out.2.1 x (List.mem_of_mem_drop (List.mem_of_mem_take hx))⟩) (fun w h => ⟨(HQ.out.1 _ h.right).1, by
        have := h.row_cells
        rw [List.map_map, show (Sl.val8 ∘ pieceS g o l) = chunkV g o n by funext k; rw [Function.comp_apply, pieceS_val, HQ.out.2.2.1]]
        exact this, fun s hs => by
        obtain ⟨k, hk, rfl⟩ := List.mem_map.1 hs
        have := (((HQ.out.1 _ h.right).2).drop (106 * k)).take 106
        rw [addr_add] at this
        show Cells w (some ⟨g, o + 106 * k, none⟩) (b8s (piece l k))
        unfold piece
        unfold b8s at this ⊢
        rw [List.map_take, List.map_drop]
        exact this⟩) K5.out.s2).mono ?_
      rintro e w6 ⟨rfl, k7⟩
      have K7 := Aside.mk k7.drop2
      clear k7 K5
      have HX : Aside (wrP B name 0 gen (List.map (·.l) ((List.range N).map (pieceS g o l))) = storeP A name gen l) := ⟨by
        rw [HS.out]
        unfold piecesI
        rw [if_neg (by rw [HQ.out.2.2.1]; exact hz), List.map_map, HQ.out.2.2.1, ← HN.out]
        rfl⟩
      rw [HX.out] at K7 ⊢
      go_wp2
      go_ret
      exact ⟨rfl, K7.out⟩
  · rw [if_neg h0] at HS
    obtain ⟨ec, hec⟩ : ∃ ec, ec = (dropP A name).1 := ⟨_, rfl⟩
    rw [← hec] at h0 ⊢
    have HE := Aside.mk hec
    clear hec
    go_wp2
    go_ret
    rw [HS.out, HE.out]
    exact ⟨rfl, K3.out⟩
end Go.Proofs.YtldpaicignmnkaaDoor
/- pair.Get. -/
namespace Go.Proofs.YtldpaicignmnkaaDoor
open Go.RowKit HP
set_option linter.unusedSimpArgs false
set_option linter.unusedVariables false

/-- A half read: what is best so far. -/
def getF (A : Dk) (i : Int) (st : Int × List Int) (f : ByteArray) : Int × List Int :=
  match A.cel f i with
  | none => st
  | some c => match openI c.read f i with
    | none => st
    | some x => if (x.2 : Int) ≤ st.1 then st else ((x.2 : Int), x.1)
def getP (A : Dk) (name : ByteArray) (i : Int) : Int × List Int := (halvesL name).foldl (getF A i) (-1, [])
theorem openI_gen {b : List Int} {f : ByteArray} {i : Int} {p : List Int} {g : Nat} (h : openI b f i = some (p, g)) : (g : Int) ≤ 4611686018427387904 ∧ p.length ≤ 106 := by
  unfold openI at h
  split at h
  · cases h
  · split at h
    · cases h
    · split at h
      · cases h
      · rename_i h1 h2 h3
        simp only [Option.some.injEq, Prod.mk.injEq] at h
        obtain ⟨rfl, rfl⟩ := h
        refine ⟨by omega, ?_⟩
        rw [List.length_take]
        omega
def getEnd (st : Int × List Int) (v : Value) : Ending := if st.1 < 0 then .returned (.tuple #[.slice none 0 0, .int .i64 0, .int .i64 50]) else .returned (.tuple #[v, .int .i64 st.1, .int .i64 0])
set_option maxHeartbeats 2000000 in
set_option maxRecDepth 100000 in
theorem pair_get (E : Env) (q : HP) (d : Nat) (A : Dk) (name : ByteArray) (i : Int) (w : World) (hname : name.size + 2 ≤ maxLen) (hby : ∀ f ∈ halvesL name, ∀ c, A.cel f i = some c → Bytes c.read)
    (hq : ∀ w, Sat E w q → Quarter w) (hw : Sat E w (HP.disk d A * q)) :
    Calls Tryd.prog 16 #[.pointer (some ⟨d, 0, none⟩), .string name, .int .i64 i] w fun e w' => ∃ v, e = getEnd (getP A name i) v ∧ Sat E w' (HP.row 5 1 v (getP A name i).2.length (b8s (getP A name i).2) * (HP.disk d A * q)) := by
  have hfa : (name ++ dotA).size ≤ maxLen := by rw [dotA_size]; exact hname
  have hfb : (name ++ dotB).size ≤ maxLen := by rw [dotB_size]; exact hname
  have HF : Aside (halvesL name = [name ++ dotA, name ++ dotB]) := ⟨rfl⟩
  have HQ := Aside.mk (And.intro hq (And.intro hby hw))
  clear hq hw hby
  go_enter Tryd.func16, Tryd.ntmps16
  go_wp2_with fail
  refine (pair_none E q d A _ HQ.out.2.2).mono ?_
  rintro e w1 ⟨rfl, k1⟩
  have K1 := Aside.mk k1
  clear k1
  go_wp2_with fail
  refine (pair_halves E _ name _ hname K1.out).mono ?_
  rintro e w2 ⟨rfl, k2⟩
  obtain ⟨fa, hfae⟩ : ∃ fa, fa = name ++ dotA := ⟨_, rfl⟩
  obtain ⟨fb, hfbe⟩ : ∃ fb, fb = name ++ dotB := ⟨_, rfl⟩
  rw [← hfae] at hfa HF ⊢
  rw [← hfbe] at hfb HF ⊢
  clear hfae hfbe
  have K2 := Aside.mk (k2.row_nil 5 1 none)
  clear k2 K1
  have i0 : ∀ w, (Instr.index 90 (.agg #[.string fa, .string fb]) (.int .i64 0)).run Tryd.prog w = .ok (.string fa) w := fun w => by kernel_rfl
  have i1 : ∀ w, (Instr.index 90 (.agg #[.string fa, .string fb]) (.int .i64 1)).run Tryd.prog w = .ok (.string fb) w := fun w => by kernel_rfl
  go_wp2
  go_loopw [9, 10, 21] (fun v9 v10 v21 wr => ∃ (h : Nat) (best : Int) (p : List Int), h ≤ 2 ∧ v21 = .int .i64 h ∧ v9 = .int .i64 best ∧ best ≤ 4611686018427387904 ∧ -1 ≤ best ∧ p.length ≤ 106 ∧ Aside ((((halvesL name).drop h).foldl (getF A i) (best, p)) = getP A name i) ∧ Aside (Sat E wr (HP.row 5 1 v10 p.length (b8s p) * (HP.disk d A * q)))) (fun _ _ i _ => 2 - (intOf i).toNat)
  case atStart => exact ⟨0, -1, [], by omega, rfl, rfl, by omega, by omega, by simp, ⟨rfl⟩, K2⟩
  case round =>
    obtain ⟨h, best, p, hh, rfl, rfl, hb1, hb2, hpl, HG, HS⟩ := hrel
    by_cases hlt : h < 2
    · obtain ⟨f, hf, hfm, hff, hix⟩ : ∃ f : ByteArray, f.size ≤ maxLen ∧ f ∈ halvesL name ∧ (halvesL name).drop h = f :: (halvesL name).drop (h + 1) ∧ ∀ w, (Instr.index 90 (.agg #[.string fa, .string fb]) (.int .i64 (h : Int))).run Tryd.prog w = .ok (.string f) w := by
        rw [HF.out]
        rcases Nat.lt_or_ge h 1 with h0 | h0
        · obtain rfl : h = 0 := by omega
          exact ⟨fa, hfa, by simp, rfl, i0⟩
        · obtain rfl : h = 1 := by omega
          exact ⟨fb, hfb, by simp, rfl, i1⟩
      rw [hff, List.foldl_cons] at HG
      clear hff
      have hlt2 : (h : Int) < 2 := by omega
      have hby := HQ.out.2.1 f hfm
      clear hfm
      clear i0 i1
      go_wp2_with fail
      refine (disk_read_ok E _ d A f i _ hf HS.out.s2).mono ?_
      intro e w3 h3
      unfold readEnd at h3
      cases hc : A.cel f i with
      | none =>
        rw [hc] at h3
        obtain ⟨rfl, h3⟩ := h3
        have HG2 : Aside (((halvesL name).drop (h + 1)).foldl (getF A i) (best, p) = getP A name i) := ⟨by rw [← HG.out]; simp only [getF, hc]⟩
        have H3 := Aside.mk h3.s2
        clear h3 hc HG hby HS
        go_wp2
        go_roundw
        case rel => exact ⟨h + 1, best, p, by omega, by push_cast; rfl, rfl, hb1, hb2, hpl, HG2, H3⟩
        case measure => simp [intOf]; omega
      | some cl =>
        rw [hc] at h3
        obtain ⟨vr, rfl, h3⟩ := h3
        have hbr := hby cl hc
        obtain ⟨Ar, cr, rfl, hcr, -⟩ := h3.row_slice
        have hl128 : cl.read.length = 128 := by
          have := h3.row_cases.1
          rw [b8s_length] at this
          exact this
        have HC : Aside (getF A i (best, p) f = match openI cl.read f i with
            | none => (best, p)
            | some x => if (x.2 : Int) ≤ best then (best, p) else ((x.2 : Int), x.1)) := ⟨by simp only [getF, hc]⟩
        have H3 := Aside.mk (And.intro h3 (And.intro hbr hl128))
        clear h3 hbr hl128 hc hby HS
        go_wp2_with fail
        refine (ext_open E _ f i Ar cl.read 128 cr _ hf H3.out.2.2 hcr H3.out.2.1 (fun w h => ⟨HQ.out.1 _ h.right.right.right, h.row_cells⟩) H3.out.1).mono ?_
        rintro e w4 (⟨ho, rfl, h4⟩ | ⟨p2, G, vp, ho, rfl, h4⟩)
        · rw [ho] at HC
          rw [HC.out] at HG
          have H4 := Aside.mk (h4.right.s2)
          clear h4 ho HC H3
          go_wp2
          go_roundw
          case rel => exact ⟨h + 1, best, p, by omega, by push_cast; rfl, rfl, hb1, hb2, hpl, HG, H4⟩
          case measure => simp [intOf]; omega
        · obtain ⟨hG1, hp2⟩ := openI_gen ho
          rw [ho] at HC
          dsimp only at HC
          by_cases hle : (G : Int) ≤ best
          · rw [if_pos hle] at HC
            rw [HC.out] at HG
            have H4 := Aside.mk (h4.right.right.s2)
            clear h4 ho HC H3
            go_wp2
            go_roundw
            case rel => exact ⟨h + 1, best, p, by omega, by push_cast; rfl, rfl, hb1, hb2, hpl, HG, H4⟩
            case measure => simp [intOf]; omega
          · rw [if_neg hle] at HC
            rw [HC.out] at HG
            obtain ⟨A2, c2, rfl, -, -⟩ := h4.row_slice
            have H4 := Aside.mk h4
            clear h4 ho HC H3
            obtain ⟨m, hm⟩ : ∃ m, m = p2.length := ⟨_, rfl⟩
            rw [← hm] at H4 hp2 ⊢
            have HM := Aside.mk hm
            clear hm
            have hle2 : best < (G : Int) := by omega
            clear hle
            go_wp2_with (first
              | (refine wpList_make_row (n := m) slB8 rfl rfl rfl rfl rfl H4.out (by unfold maxLen; omega) (by omega) (fun g w5 hw5 => ?_); have HW5 := Aside.mk hw5; clear hw5)
              | (at_builtin; fail)
              | (refine wpList_copy_sat Tryd.underlying22 (by kernel_rfl) rfl rfl rfl rfl HW5.out (by rw [b8s_length]; exact HM.out.symm) (HW5.out.right.row_cells) (b8s_one _) (fun w6 hw6 => ?_); have HW6 := Aside.mk hw6; clear hw6))
            have HW7 : Aside (Sat E w6 (HP.row 5 1 (.slice (some ⟨g, 0, none⟩) m m) p2.length (b8s p2) * (HP.disk d A * q))) := ⟨by
              have h7 := HW6.out.drop2.drop2
              rw [List.take_of_length_le (by rw [b8s_length, ← HM.out]; exact Nat.le_refl _), List.drop_of_length_le (by simp), List.append_nil] at h7
              have h8 : Sat E w6 (HP.row 5 1 u10 p.length (b8s p) * (HP.row 5 1 (.slice (some ⟨g, 0, none⟩) m m) m (b8s p2) * (HP.disk d A * q))) := h7.perm (by ac_rfl)
              rw [← HM.out]
              exact h8.right⟩
            clear HW5 HW6 H4
            go_wp2
            go_roundw
            case rel => exact ⟨h + 1, (G : Int), p2, by omega, by push_cast; rfl, rfl, hG1, by omega, by rw [← HM.out]; omega, HG, HW7⟩
            case measure => simp [intOf]; omega
    · have hh2 : h = 2 := by omega
      subst hh2
      rw [HF.out] at HG
      have HX : Aside (getP A name i = (best, p)) := ⟨HG.out.symm⟩
      clear HG i0 i1
      by_cases hneg : best < 0
      · go_wp2
        go_ret3
        rw [HX.out]
        exact ⟨_, by unfold getEnd; rw [if_pos hneg]; rfl, HS.out⟩
      · go_wp2
        go_ret3
        rw [HX.out]
        exact ⟨_, by unfold getEnd; rw [if_neg (by show ¬ best < 0; omega)]; rfl, HS.out⟩
end Go.Proofs.YtldpaicignmnkaaDoor
/- PairNewer, the plain part: what is written is read, and of two extents the newer one counts. -/
namespace Go.Proofs.YtldpaicignmnkaaDoor
open Go.RowKit HP
set_option linter.unusedSimpArgs false
set_option linter.unusedVariables false

theorem extI_parts {f : ByteArray} {i g : Nat} {p : List Int} (h : p.length ≤ 106) :
    (extI f i g p).getD 17 0 = p.length ∧ ((extI f i g p).drop 9).take 8 = putI g 8 ∧ ((extI f i g p).drop 18).take p.length = p := by
  have e : extI f i g p = ([229] ++ putI (crcSum (strB f)) 4 ++ putI i 4) ++ (putI g 8 ++ ((p.length : Int) :: (p ++ (List.replicate (106 - p.length) 0 ++ putI (crcSum (extH f i g p)) 4)))) := by
    unfold extI
    conv => lhs; arg 1; unfold extH
    simp only [List.append_assoc, List.cons_append, List.nil_append]
  have l1 : ([229] ++ putI (crcSum (strB f)) 4 ++ putI i 4 : List Int).length = 9 := by simp [putI_length]
  have d9 : (extI f i g p).drop 9 = putI g 8 ++ ((p.length : Int) :: (p ++ (List.replicate (106 - p.length) 0 ++ putI (crcSum (extH f i g p)) 4))) := by
    rw [e, ← l1, List.drop_left]
  have d17 : (extI f i g p).drop 17 = (p.length : Int) :: (p ++ (List.replicate (106 - p.length) 0 ++ putI (crcSum (extH f i g p)) 4)) := by
    rw [show 17 = 9 + 8 from rfl, ← List.drop_drop, d9, List.drop_left' (putI_length g 8)]
  refine ⟨?_, ?_, ?_⟩
  · have := congrArg (fun l => l[0]?) d17
    simp only [List.getElem?_drop, Nat.add_zero, List.getElem?_cons_zero] at this
    simp [List.getD, this]
  · rw [d9]
    have := putI_length g 8
    rw [List.take_append_of_le_length (by omega), List.take_of_length_le (by omega)]
  · rw [show 18 = 17 + 1 from rfl, ← List.drop_drop, d17, List.drop_one, List.tail_cons, List.take_left]
theorem openI_extI {f : ByteArray} {i g : Nat} {p : List Int} (hi : i ≤ 2147483647) (hg : g ≤ 4611686018427387904) (h : p.length ≤ 106) : openI (extI f i g p) f i = some (p, g) := by
  obtain ⟨h1, h2, h3⟩ := extI_parts (f := f) (i := i) (g := g) h
  unfold openI
  rw [h1, h2, Int.toNat_natCast, Int.toNat_natCast, h3, getN_putI 8 g (by omega)]
  rw [if_neg (by rw [extI_length h]; omega), if_neg (by omega), if_neg (by simp)]

def stl (I : List Int) : Cel := ⟨I, I, I, I, false⟩
theorem stl_sync (c : Cel) (I : List Int) : (c.wrote I).syncd = stl I := rfl
structure TwoNames (fa fb : ByteArray) : Prop where
  na : namedB fa = true
  nb : namedB fb = true
  ne : fa ≠ fb
  lt : ltN fa fb = true
  gt : ltN fb fa = false
def wr1 (A : Dk) (f : ByteArray) (i : Int) (I : List Int) : Int × Dk := if (A.write f i I).1 = 0 then (A.write f i I).2.sync f else A.write f i I
def put2 (A : Dk) (fa fb : ByteArray) (i : Int) (Ia Ib : List Int) : Int × Dk :=
  if (wr1 A fa i Ia).1 = 0 then (if (wr1 (wr1 A fa i Ia).2 fb i Ib).1 = 0 then (0, (wr1 (wr1 A fa i Ia).2 fb i Ib).2) else wr1 (wr1 A fa i Ia).2 fb i Ib) else wr1 A fa i Ia
theorem wrF_one {A : Dk} {f : ByteArray} {i g : Nat} {p : List Int} (hf : FrameOk i g p.length) : wrF A f g i [p] = wr1 A f i (extI f i g p) := by
  unfold wrF wr1
  rw [if_neg (by simpa using hf)]
  rfl
theorem putP_two {A : Dk} {x : ByteArray} {i g : Nat} {p : List Int} (hf : FrameOk i g p.length) : putP A x i g p = put2 A (x ++ dotA) (x ++ dotB) i (extI (x ++ dotA) i g p) (extI (x ++ dotB) i g p) := by
  unfold putP
  rw [if_pos hf, Int.toNat_natCast, Int.toNat_natCast]
  unfold wrP halvesL
  simp only [wrL, wrF_one hf]
  rfl
def two (room fuse : Int) (fa fb : ByteArray) (a b : Cel) : Dk := ⟨room, fuse, [(fa, [a]), (fb, [b])]⟩
section
variable {fa fb : ByteArray} {Ia Ib : List Int} (T : TwoNames fa fb) (la : Ia.length = 128) (lb : Ib.length = 128)
include T la lb
theorem put_first : put2 (Dk.new 4) fa fb 0 Ia Ib = (0, two 4 (-1) fa fb (stl Ia) (stl Ib)) := by
  obtain ⟨na, nb, ne, lt, gt⟩ := T
  have ne' := Ne.symm ne
  simp [put2, wr1, Dk.write, Dk.sync, Dk.new, Dk.at, Dk.free, Dk.goes, Dk.burnt, burnI, Dk.set, lk_nil, lk_cons, putF, sizeF, na, nb, ne, ne', lt, gt, la, lb, stl_sync, two]
theorem put_again (n : Nat) (hn : n < 5) (a b : Cel) : put2 (two 4 n fa fb a b) fa fb 0 Ia Ib =
    match n with
    | 0 => (31, two 4 0 fa fb a b)
    | 1 => (31, two 4 0 fa fb (a.wrote Ia) b)
    | 2 => (31, two 4 0 fa fb (stl Ia) b)
    | 3 => (31, two 4 0 fa fb (stl Ia) (b.wrote Ib))
    | _ => (0, two 4 0 fa fb (stl Ia) (stl Ib)) := by
  obtain ⟨na, nb, ne, lt, gt⟩ := T
  have ne' := Ne.symm ne
  match n, hn with
  | 0, _ => simp [put2, wr1, Dk.write, Dk.sync, Dk.new, Dk.at, Dk.free, Dk.goes, Dk.burnt, burnI, Dk.set, lk_nil, lk_cons, putF, sizeF, na, nb, ne, ne', lt, gt, la, lb, stl_sync, two]
  | 1, _ => simp [put2, wr1, Dk.write, Dk.sync, Dk.new, Dk.at, Dk.free, Dk.goes, Dk.burnt, burnI, Dk.set, lk_nil, lk_cons, putF, sizeF, na, nb, ne, ne', lt, gt, la, lb, stl_sync, two]
  | 2, _ => simp [put2, wr1, Dk.write, Dk.sync, Dk.new, Dk.at, Dk.free, Dk.goes, Dk.burnt, burnI, Dk.set, lk_nil, lk_cons, putF, sizeF, na, nb, ne, ne', lt, gt, la, lb, stl_sync, two]
  | 3, _ => simp [put2, wr1, Dk.write, Dk.sync, Dk.new, Dk.at, Dk.free, Dk.goes, Dk.burnt, burnI, Dk.set, lk_nil, lk_cons, putF, sizeF, na, nb, ne, ne', lt, gt, la, lb, stl_sync, two]
  | 4, _ => simp [put2, wr1, Dk.write, Dk.sync, Dk.new, Dk.at, Dk.free, Dk.goes, Dk.burnt, burnI, Dk.set, lk_nil, lk_cons, putF, sizeF, na, nb, ne, ne', lt, gt, la, lb, stl_sync, two]
end
theorem crash_wrote (I J : List Int) : (((stl I).wrote J).crashd 0).read = I := by simp [stl, Cel.wrote, Cel.crashd]
theorem crash_stl (I : List Int) : (stl I).crashd 0 = stl I := by simp [stl, Cel.crashd]
theorem crash_two (room fuse : Int) (fa fb : ByteArray) (a b : Cel) : (two room fuse fa fb a b).crash [] = two room (-1) fa fb (a.crashd 0) (b.crashd 0) := by
  have h : ∀ s i, keepOf [] s i = 0 := fun s i => rfl
  simp [two, Dk.crash, crashL, h]
theorem cel_a {room fuse : Int} {fa fb : ByteArray} {a b : Cel} : (two room fuse fa fb a b).cel fa 0 = some a := by simp [two, Dk.cel, Dk.at, lk_cons]
theorem cel_b {room fuse : Int} {fa fb : ByteArray} {a b : Cel} (h : fa ≠ fb) : (two room fuse fa fb a b).cel fb 0 = some b := by simp [two, Dk.cel, Dk.at, lk_cons, h]
/-- Of two halves that are right the greater generation counts; of two alike the first. -/
theorem get_two {x : ByteArray} (h : x ++ dotA ≠ x ++ dotB) {room fuse : Int} {ca cb : Cel} {ga gb : Nat} (ha : ga ≤ 4611686018427387904) (hb : gb ≤ 4611686018427387904) {pa pb : List Int} (la : pa.length ≤ 106) (lb : pb.length ≤ 106)
    (ra : ca.read = extI (x ++ dotA) 0 ga pa) (rb : cb.read = extI (x ++ dotB) 0 gb pb) :
    getP (two room fuse (x ++ dotA) (x ++ dotB) ca cb) x 0 = if (gb : Int) ≤ ga then ((ga : Int), pa) else ((gb : Int), pb) := by
  have oa := openI_extI (f := x ++ dotA) (i := 0) (by omega) ha la
  have ob := openI_extI (f := x ++ dotB) (i := 0) (by omega) hb lb
  simp only [Int.ofNat_zero, Int.natCast_zero] at oa ob
  rw [← ra] at oa
  rw [← rb] at ob
  unfold getP halvesL
  simp only [List.foldl_cons, List.foldl_nil]
  rw [show getF _ 0 (-1, []) (x ++ dotA) = ((ga : Int), pa) by simp only [getF, cel_a, oa]; rw [if_neg (by show ¬ (ga : Int) ≤ -1; omega)]]
  simp only [getF, cel_b h, ob]
def exS : ByteArray := ⟨#[120]⟩
theorem twoEx : TwoNames (exS ++ dotA) (exS ++ dotB) := ⟨by kernel_rfl, by kernel_rfl, by decide, by kernel_rfl, by kernel_rfl⟩
structure NewerEnd (n : Nat) (a b : List Int) (c : Int) (A : Dk) : Prop where
  code : c = 0 ↔ n = 4
  got : getP (A.crash []) exS 0 = if 2 ≤ n then (6, b) else (5, a)
  bytes : ∀ f ∈ halvesL exS, ∀ c, (A.crash []).cel f 0 = some c → Bytes c.read
theorem newer_all {a b : List Int} (la : a.length ≤ 106) (lb : b.length ≤ 106) (ba : Bytes a) (bb : Bytes b) :
    ∃ A1, putP (Dk.new 4) exS 0 5 a = (0, A1) ∧ ∀ n : Nat, n < 5 → NewerEnd n a b (putP { A1 with fuse := n } exS 0 6 b).1 (putP { A1 with fuse := n } exS 0 6 b).2 := by
  have f5 : FrameOk ((0 : Nat) : Int) ((5 : Nat) : Int) a.length := ⟨by omega, by omega, by omega, by omega, la⟩
  have f6 : FrameOk ((0 : Nat) : Int) ((6 : Nat) : Int) b.length := ⟨by omega, by omega, by omega, by omega, lb⟩
  have p5 : putP (Dk.new 4) exS 0 5 a = _ := putP_two (A := Dk.new 4) (x := exS) f5
  rw [show ((0 : Nat) : Int) = 0 from rfl, put_first twoEx (extI_length la) (extI_length la)] at p5
  refine ⟨_, p5, fun n hn => ?_⟩
  have p6 : putP (two 4 n (exS ++ dotA) (exS ++ dotB) (stl (extI (exS ++ dotA) 0 5 a)) (stl (extI (exS ++ dotB) 0 5 a))) exS 0 6 b = _ := putP_two (x := exS) f6
  rw [show ((0 : Nat) : Int) = 0 from rfl, put_again twoEx (extI_length lb) (extI_length lb) n hn] at p6
  have key : ∀ (A : Dk) (ca cb : Cel) (ga gb : Nat) (pa pb : List Int), A.crash [] = two 4 (-1) (exS ++ dotA) (exS ++ dotB) ca cb → ca.read = extI (exS ++ dotA) 0 ga pa → cb.read = extI (exS ++ dotB) 0 gb pb → ga ≤ 6 → gb ≤ 6 → pa.length ≤ 106 → pb.length ≤ 106 → Bytes pa → Bytes pb →
      getP (A.crash []) exS 0 = (if (gb : Int) ≤ ga then ((ga : Int), pa) else ((gb : Int), pb)) ∧ ∀ f ∈ halvesL exS, ∀ c, (A.crash []).cel f 0 = some c → Bytes c.read := by
    intro A ca cb ga gb pa pb hA ra rb hga hgb lpa lpb bpa bpb
    rw [hA]
    refine ⟨get_two twoEx.ne (by omega) (by omega) lpa lpb ra rb, fun f hf c hc => ?_⟩
    rcases List.mem_cons.1 hf with rfl | hf
    · rw [cel_a] at hc
      cases hc
      rw [ra]; exact extI_bytes lpa bpa
    · obtain rfl := List.mem_singleton.1 hf
      rw [cel_b twoEx.ne] at hc
      cases hc
      rw [rb]; exact extI_bytes lpb bpb
  show NewerEnd n a b (putP (two 4 n (exS ++ dotA) (exS ++ dotB) (stl (extI (exS ++ dotA) 0 5 a)) (stl (extI (exS ++ dotB) 0 5 a))) exS 0 6 b).1 (putP (two 4 n (exS ++ dotA) (exS ++ dotB) (stl (extI (exS ++ dotA) 0 5 a)) (stl (extI (exS ++ dotB) 0 5 a))) exS 0 6 b).2
  rw [p6]
  match n, hn with
  | 0, _ => exact ⟨show ((31 : Int) = 0 ↔ (0 : Nat) = 4) by decide, (key _ _ _ 5 5 a a (crash_two ..) rfl rfl (by omega) (by omega) la la ba ba).1, (key _ _ _ 5 5 a a (crash_two ..) rfl rfl (by omega) (by omega) la la ba ba).2⟩
  | 1, _ => exact ⟨show ((31 : Int) = 0 ↔ (1 : Nat) = 4) by decide, (key _ _ _ 5 5 a a (crash_two ..) (crash_wrote _ _) rfl (by omega) (by omega) la la ba ba).1, (key _ _ _ 5 5 a a (crash_two ..) (crash_wrote _ _) rfl (by omega) (by omega) la la ba ba).2⟩
  | 2, _ => exact ⟨show ((31 : Int) = 0 ↔ (2 : Nat) = 4) by decide, (key _ _ _ 6 5 b a (crash_two ..) rfl rfl (by omega) (by omega) lb la bb ba).1, (key _ _ _ 6 5 b a (crash_two ..) rfl rfl (by omega) (by omega) lb la bb ba).2⟩
  | 3, _ => exact ⟨show ((31 : Int) = 0 ↔ (3 : Nat) = 4) by decide, (key _ _ _ 6 5 b a (crash_two ..) rfl (crash_wrote _ _) (by omega) (by omega) lb la bb ba).1, (key _ _ _ 6 5 b a (crash_two ..) rfl (crash_wrote _ _) (by omega) (by omega) lb la bb ba).2⟩
  | 4, _ => exact ⟨show ((0 : Int) = 0 ↔ (4 : Nat) = 4) by decide, (key _ _ _ 6 6 b b (crash_two ..) rfl rfl (by omega) (by omega) lb lb bb bb).1, (key _ _ _ 6 6 b b (crash_two ..) rfl rfl (by omega) (by omega) lb lb bb bb).2⟩
end Go.Proofs.YtldpaicignmnkaaDoor
/- PairNeeds, the plain part: how many extents a text has. -/
namespace Go.Proofs.YtldpaicignmnkaaDoor
open Go.RowKit HP
set_option linter.unusedSimpArgs false
set_option linter.unusedVariables false

theorem goes_ever {A : Dk} (h : A.fuse = -1) : A.goes = true := by simp [Dk.goes, burnI, h]
theorem burnt_ever {A : Dk} (h : A.fuse = -1) : A.burnt = A := by
  obtain ⟨r, f, fs⟩ := A
  simp only at h
  subst h
  rfl
theorem write_end {A : Dk} {f : ByteArray} {I : List Int} (hn : namedB f = true) (hl : I.length = 128) (he : A.fuse = -1) (hf : 0 < A.free) : A.write f ((A.at f).length : Int) I = (0, A.set f (A.at f ++ [Cel.zero.wrote I])) := by
  unfold Dk.write
  rw [if_neg (by rw [hn, hl]; simp), if_neg (by rw [goes_ever he]; simp), if_neg (by omega), if_pos rfl, burnt_ever he]
theorem at_some {A : Dk} {f : ByteArray} (h : 0 < (A.at f).length) : lk A.files f = some (A.at f) := by
  unfold Dk.at at h ⊢
  cases hk : lk A.files f with
  | none => rw [hk] at h; simp at h
  | some l => rfl
structure Fresh (A B : Dk) (f : ByteArray) (m : Nat) : Prop where
  sorted : Sorted B.files
  fuse : B.fuse = -1
  room : B.room = A.room
  size : sizeF B.files = sizeF A.files + m
  others : ∀ t, f ≠ t → B.at t = A.at t
theorem set_fresh {A : Dk} {f : ByteArray} {l : List Cel} {m : Nat} (hs : Sorted A.files) (he : A.fuse = -1) (hl : l.length = (A.at f).length + m) : Fresh A (A.set f l) f m :=
  ⟨sorted_put f l hs, he, rfl, by
    have := sizeF_put hs f l
    have h2 : ((lk A.files f).getD []).length = (A.at f).length := rfl
    show sizeF (putF A.files f l) = _
    omega, fun t ht => by rw [at_set hs l, if_neg ht]⟩
theorem wrF_fresh {f : ByteArray} {gen : Nat} (hn : namedB f = true) (hg : (gen : Int) ≤ 4611686018427387904) : ∀ (ps : List (List Int)) (A : Dk) (i : Nat), Sorted A.files → A.fuse = -1 → (A.at f).length = i → (ps.length : Int) ≤ A.free → (∀ p ∈ ps, p.length ≤ 106) → i + ps.length ≤ 2147483647 → 0 < i + ps.length →
    ∃ B, wrF A f gen i ps = (0, B) ∧ Fresh A B f ps.length ∧ (B.at f).length = i + ps.length
  | [], A, i, hs, he, hi, _, _, _, h0 => by
    have hl := at_some (A := A) (f := f) (by rw [hi]; simpa using h0)
    refine ⟨_, sync_some hl (goes_ever he), ?_, ?_⟩
    · rw [burnt_ever he]
      exact set_fresh hs he (by rw [List.length_map]; rfl)
    · rw [burnt_ever he, at_set hs, if_pos rfl, List.length_map, hi]; rfl
  | p :: ps, A, i, hs, he, hi, hf, hp, hm, _ => by
    have hpl := hp p (List.mem_cons_self ..)
    simp only [List.length_cons] at hf hm
    have hfo : FrameOk (i : Int) gen p.length := ⟨by omega, by omega, by omega, hg, hpl⟩
    have hw : A.write f (i : Int) (extI f i gen p) = (0, A.set f (A.at f ++ [Cel.zero.wrote (extI f i gen p)])) := by
      have := write_end (A := A) (f := f) (I := extI f i gen p) hn (extI_length hpl) he (by omega)
      rw [hi] at this
      exact this
    have h1 := set_fresh (A := A) (f := f) (l := A.at f ++ [Cel.zero.wrote (extI f i gen p)]) (m := 1) hs he (by rw [List.length_append]; rfl)
    have hlen : ((A.set f (A.at f ++ [Cel.zero.wrote (extI f i gen p)])).at f).length = i + 1 := by rw [at_set hs, if_pos rfl, List.length_append, hi]; rfl
    obtain ⟨B, hB, hF, hBl⟩ := wrF_fresh hn hg ps (A.set f (A.at f ++ [Cel.zero.wrote (extI f i gen p)])) (i + 1) h1.sorted h1.fuse hlen (by
      have := h1.size
      show (ps.length : Int) ≤ (A.set f _).room - _
      unfold Dk.free at hf
      have h2 := h1.room
      omega) (fun x hx => hp x (List.mem_cons_of_mem _ hx)) (by omega) (by omega)
    refine ⟨B, ?_, ⟨hF.sorted, hF.fuse, hF.room.trans h1.room, ?_, fun t ht => (hF.others t ht).trans (h1.others t ht)⟩, by rw [hBl, List.length_cons]; omega⟩
    · unfold wrF
      rw [if_neg (by simpa using hfo), hw, if_pos rfl]
      exact hB
    · rw [hF.size, h1.size, List.length_cons]; omega
theorem pieces_count {l : List Int} : ((piecesI l).length : Int) * 2 = needI l.length ∧ 0 < (piecesI l).length ∧ (l.length ≤ 600 → (piecesI l).length ≤ 6) ∧ ∀ p ∈ piecesI l, p.length ≤ 106 := by
  unfold piecesI needI
  by_cases h : l.length = 0
  · rw [if_pos h, if_pos (by omega)]
    refine ⟨by decide, by decide, fun _ => by decide, fun p hp => ?_⟩
    obtain rfl := List.mem_singleton.1 hp
    exact Nat.zero_le _
  · rw [if_neg h, if_neg (by omega), List.length_map, List.length_range]
    unfold chunkN
    refine ⟨by omega, by omega, fun h => by omega, fun p hp => ?_⟩
    obtain ⟨k, _, rfl⟩ := List.mem_map.1 hp
    rw [piece_length]
    unfold chunkM
    omega
/-- A text stored on a new disk. -/
theorem store_new {room : Int} {l : List Int} {gen : Nat} (hg : (gen : Int) ≤ 4611686018427387904) (hr : needI l.length ≤ room) (hl : (piecesI l).length ≤ 2147483647) : ∃ B, storeP (Dk.new room) exS gen l = (0, B) ∧ B.free = room - needI l.length ∧ B.fuse = -1 := by
  obtain ⟨p1, p2, -, p4⟩ := pieces_count (l := l)
  have hd : dropP (Dk.new room) exS = (0, Dk.new room) := by simp [dropP, dropL, halvesL, Dk.at, Dk.new, lk_nil]
  have hs0 : Sorted (Dk.new room).files := List.Pairwise.nil
  obtain ⟨B1, h1, f1, -⟩ := wrF_fresh (f := exS ++ dotA) twoEx.na hg (piecesI l) (Dk.new room) 0 hs0 rfl rfl (by show _ ≤ room - (0 : Nat); omega) p4 (by omega) (by omega)
  have hz : sizeF (Dk.new room).files = 0 := rfl
  have hr1 : B1.room = room := f1.room
  obtain ⟨B2, h2, f2, -⟩ := wrF_fresh (f := exS ++ dotB) twoEx.nb hg (piecesI l) B1 0 f1.sorted f1.fuse (by rw [f1.others _ twoEx.ne]; rfl) (by
    have := f1.size
    unfold Dk.free
    omega) p4 (by omega) (by omega)
  refine ⟨B2, ?_, ?_, f2.fuse⟩
  · unfold storeP
    rw [hd, if_pos rfl]
    unfold wrP halvesL
    simp only [wrL, h1, h2, if_pos rfl]
    rfl
  · have := f1.size
    have := f2.size
    have := f2.room
    unfold Dk.free
    omega
end Go.Proofs.YtldpaicignmnkaaDoor
/- PairNeeds: the walk. -/
namespace Go.Proofs.YtldpaicignmnkaaDoor
open Go.RowKit HP
set_option linter.unusedSimpArgs false
set_option linter.unusedVariables false

set_option maxHeartbeats 1000000 in
set_option maxRecDepth 100000 in
theorem ref_need (n : Int) (w : World) (h : wf64 n) : Calls Tryd.prog 12 #[.int .i64 n] w fun e w' => e = .returned (.int .i64 (needI n)) ∧ w' = w := by
  unfold wf64 at h
  by_cases hn : n ≤ 0
  · have hm : (if (0 : Int) > n then (0 : Int) else n) = 0 := by split <;> omega
    go_enter Tryd.func12, Tryd.ntmps12
    go_wp2
    all_goals (go_ret; exact ⟨by unfold needI; rw [if_pos hn]; rfl, rfl⟩)
  · have hm : (if (0 : Int) > n then (0 : Int) else n) = n := by split <;> omega
    have e1 : (n - 1).tdiv 106 = (n - 1) / 106 := Int.tdiv_eq_ediv_of_nonneg (by omega)
    have hb : (n == 0) = false := by rw [beq_eq_false_iff_ne]; omega
    have hz : ¬ n = 0 := by omega
    go_enter Tryd.func12, Tryd.ntmps12
    go_wp2
    all_goals (go_ret; exact ⟨by unfold needI; rw [if_neg (by omega)]; rfl, rfl⟩)
set_option maxHeartbeats 2000000 in
set_option maxRecDepth 100000 in
theorem needs_ok (E : Env) (q : HP) (A0 : Option Addr) (l0 : List Int) (n0 c0 : Nat) (size : Int) (w : World) (hz : wf64 size) (e0 : l0.length = n0) (k0 : n0 ≤ c0) (m0 : c0 ≤ maxLen) (b0 : Bytes l0)
    (hq : ∀ E w, Sat E w q → Quarter w ∧ Cells w A0 (b8s l0)) (hw : Sat E w q) :
    Calls Tryd.prog 3 #[.slice A0 n0 c0, .int .i64 size] w fun e w' => e = .returned (.bool true) ∧ Sat E w' q := by
  have hn0 : (if 600 < (n0 : Int) then 600 else (n0 : Int)) = (min n0 600 : Nat) := by split <;> omega
  have HQ := Aside.mk (And.intro hq hw)
  have L0 : Aside ((l0.take (min n0 600)).length = min n0 600 ∧ min n0 600 ≤ 600) := ⟨by rw [List.length_take]; omega, by omega⟩
  have HB := Aside.mk b0
  have r0 : min n0 600 ≤ n0 := Nat.min_le_left _ _
  obtain ⟨p0, hp0⟩ : ∃ p0, p0 = min n0 600 := ⟨_, rfl⟩
  rw [← hp0] at hn0 L0 r0
  have s0 : p0 ≤ c0 := by omega
  clear hq hw b0 e0 hp0
  have hx3 : exS.size + 2 ≤ maxLen := by show 3 ≤ maxLen; unfold maxLen; omega
  have HX3 := Aside.mk hx3
  clear hx3
  have HQ2 : Aside (∀ w, Sat E w q → Quarter w ∧ Cells w A0 (b8s (l0.take p0))) := ⟨fun w h => by
    have h1 := HQ.out.1 _ _ h
    refine ⟨h1.1, ?_⟩
    have := h1.2.take p0
    unfold b8s at this ⊢
    rw [List.map_take]; exact this⟩
  have HB2 : Aside (Bytes (l0.take p0)) := ⟨fun x hx => HB.out x (List.mem_of_mem_take hx)⟩
  generalize l0.take p0 = t0 at *
  have HST : Aside (∃ B, storeP (Dk.new 20) exS 1 t0 = (0, B) ∧ B.free = 20 - needI p0 ∧ 2 ≤ needI p0 ∧ needI p0 ≤ 12) := ⟨by
    obtain ⟨q1, q2, q3, -⟩ := pieces_count (l := t0)
    have q3 := q3 (by rw [L0.out.1]; exact L0.out.2)
    obtain ⟨B, h1, h2, -⟩ := store_new (room := 20) (l := t0) (gen := 1) (by omega) (by omega) (by omega)
    rw [L0.out.1] at h2 q1
    exact ⟨B, h1, h2, by omega, by omega⟩⟩
  obtain ⟨B, hst, hfr, hk1, hk2⟩ := HST.out
  clear HST
  obtain ⟨K, hK⟩ : ∃ K, K = needI p0 := ⟨_, rfl⟩
  obtain ⟨K2, hK2⟩ : ∃ K2, K2 = needI size := ⟨_, rfl⟩
  rw [← hK] at hfr hk1 hk2
  have HF := Aside.mk (And.intro hst (And.intro hfr (And.intro hK hK2)))
  have hp6 : (p0 : Int) ≤ 600 := by have := L0.out.2; omega
  clear hst hfr hK hK2
  go_enter Tryd.func3, Tryd.ntmps3
  go_wp2_with fail
  refine (disk_new_ok E q 20 _ ⟨by omega, by omega⟩ HQ.out.2).mono ?_
  rintro e w1 ⟨d, rfl, h1⟩
  have H1 := Aside.mk h1
  clear h1
  go_wp2_with fail
  refine (pair_store E q d (Dk.new 20) exS 1 A0 t0 p0 c0 _ HX3.out (by omega) L0.out.1 s0 m0 (by have := L0.out.2; omega) HB2.out HQ2.out H1.out).mono ?_
  rintro e w2 ⟨rfl, h2⟩
  rw [HF.out.1] at h2 ⊢
  have H2 := Aside.mk h2
  clear h2 H1
  go_wp2_with fail
  refine (disk_free_ok E q d B _ H2.out).mono ?_
  rintro e w3 ⟨rfl, h3⟩
  rw [HF.out.2.1]
  have H3 := Aside.mk h3
  clear h3 H2
  go_wp2_with fail
  refine (pair_need p0 _ (by unfold wf64; omega)).mono ?_
  rintro e w4 ⟨rfl, rfl⟩
  rw [← HF.out.2.2.1]
  go_wp2_with fail
  refine (pair_need size _ hz).mono ?_
  rintro e w5 ⟨rfl, rfl⟩
  rw [← HF.out.2.2.2]
  go_wp2_with fail
  refine (ref_need size _ hz).mono ?_
  rintro e w6 ⟨rfl, rfl⟩
  rw [← HF.out.2.2.2]
  go_wp2
  go_ret
  exact ⟨rfl, H3.out.right⟩
end Go.Proofs.YtldpaicignmnkaaDoor
/- The listed table: what the condition gives a walk; the door's own heap meets it. -/
namespace Go.Proofs.YtldpaicignmnkaaDoor
open Go.ChangeShapes Go.WideShapes Go.ChangeAt Go.WideMaps Go.WideElems Go.RowKit HP
set_option linter.unusedVariables false

def laidAll : List (String × DataW Unit) := [("dryrot/crc.quarter", Rows.laid_dryrot_crc_quarter)]
theorem gQuarter : Tryd.prog.globalNamed "dryrot/crc.quarter" = some 0 := by kernel_rfl
theorem tQuarter : (Tryd.prog.globals[0]?).map (·.type) = some 147 := by kernel_rfl
theorem door_met (os : Os) (args : Array Value) : laidMetH Tryd.prog laidAll ((World.doorLaid Tryd.prog 400 os).forCall (fun _ _ => 0) ⟨#[], args, []⟩).memory :=
  laidMetH_of_parts3 (fuel := 8) (laidMet_of_run' 8 (by kernel_rfl) (by kernel_rfl)) (by kernel_rfl) (by kernel_rfl)
theorem quarter_of_laid {W : World} (h : laidMetH Tryd.prog laidAll W) : Quarter W := by
  rw [MakeChecks.laidMetH_plain _ _ _ (by kernel_rfl)] at h
  obtain ⟨ps, ⟨g0, t0, cs0, f0, p0, q0, hg0, ht0, hv0, hd0, _, _⟩, _, _⟩ := h
  obtain rfl := Option.some.inj (gQuarter.symm.trans hg0)
  obtain rfl := Option.some.inj (tQuarter.symm.trans ht0)
  obtain ⟨xs, m1, rfl, hx1, hlen, hn3, hel⟩ := DataW.trod_array Tryd.underlying147 hd0
  have c3 : Tryd.prog.cellsOf 121 = 1 := by kernel_rfl
  simp only [Prod.mk.injEq, DataW.agg.injEq, Rows.laid_dryrot_crc_quarter] at hx1
  intro i hi
  have hi' := hel i hi
  rw [c3, Nat.mul_one] at hi'
  have hxl : i < xs.length := by omega
  rw [List.getElem?_eq_getElem hxl] at hi'
  obtain ⟨k, e1, e2, _⟩ := DataW.trod_int Tryd.underlying121 hi'
  have e3 : (xs.map (·.1))[i]? = some (DataW.lit (.int .u32 k)) := by
    rw [List.getElem?_map, List.getElem?_eq_getElem hxl]
    simp [e2]
  rw [← hx1.1] at e3
  have hk : k = quarterN i := by
    match i, hi with
    | 0, _ => simpa [quarterN] using e3.symm
    | 1, _ => simpa [quarterN] using e3.symm
    | 2, _ => simpa [quarterN] using e3.symm
    | 3, _ => simpa [quarterN] using e3.symm
  have e4 := World.var?_cell hg0 hv0 i
  have e5 : cs0.toList[i]? = some (.int .u32 k) := by
    have := congrArg (fun l => l[0]?) e1
    simpa [List.getElem?_take] using this
  rw [Array.getElem?_toList, hk] at e5
  rw [← e5, ← e4]
end Go.Proofs.YtldpaicignmnkaaDoor
