/- Texts of one claim, one behind the other: ChunkA, ChunkB, PairS, AnchV, AnchK, Full, Laid, Tied, AnchX. -/
import Derived.Test.YtmjnnbnbdcadbaaGreatDoorLz7
import Derived.Shelf.Abstract
import Derived.Shelf.RegionOpen
import Derived.OwnWalkIn
import Derived.TacticsInMore
import Derived.LoopNIn
import Derived.LoopIn
import Derived.Outline
import Derived.IntWalk
import Derived.Laws.StructEq
import Derived.LaidMore
import Derived.Stop.Joined
/- slices.Chunk: a slice's pieces come, one behind the other. -/
namespace Go.Proofs.YtmjnnbnbdcadbaaGreatDoor
open Go.RowKit Go.Shelf HP
set_option linter.unusedSimpArgs false
set_option linter.unusedVariables false
attribute [local go_sem] Oper.semAt_some

def chunkN (n : Nat) : Nat := (n + 105) / 106
def chunkM (n k : Nat) : Nat := min 106 (n - 106 * k)
def chunkV (g o n k : Nat) : Value := .slice (some ⟨g, o + 106 * k, none⟩) (chunkM n k) (chunkM n k)
def Keep2 (b1 b2 : Nat) (W W' : World) : Prop := W'.heap[b1]? = W.heap[b1]? ∧ W'.heap[b2]? = W.heap[b2]?
theorem Keep2.refl {b1 b2 : Nat} (W : World) : Keep2 b1 b2 W W := ⟨rfl, rfl⟩
theorem Keep2.trans {b1 b2 : Nat} {W X Y : World} (h : Keep2 b1 b2 W X) (k : Keep2 b1 b2 X Y) : Keep2 b1 b2 W Y := ⟨k.1.trans h.1, k.2.trans h.2⟩
theorem grows_drew (w : World) : w.grownBy w.drew none := ⟨rfl, rfl, rfl, Nat.le_refl _, fun _ _ _ => rfl⟩
set_option maxRecDepth 100000 in
set_option maxHeartbeats 2000000 in
theorem chunk1_in (N : Nat) (hN : 1 ≤ N) (l bS bN : Nat) (A : Option Addr) (g o n c : Nat) (hA : 0 < n → A = some ⟨g, o, none⟩) (hnc : n ≤ c) (hcm : c ≤ maxLen) (hn64 : n ≤ 140737488351232) (J Jx : List Nat → World → Prop)
    (hY : ∀ pre x W, J pre W → pre.length < chunkN n → x < chunkN n → YieldAt Fence.wide (N - 1) Tryz.prog l #[chunkV g o n x] W fun e W' =>
      (e = .returned (.bool true) ∧ J (pre ++ [x]) W' ∧ Keep2 bS bN W W') ∨ (e = .returned (.bool false) ∧ Jx (pre ++ [x]) W'))
    (W : World) (hS : W.cell? ⟨bS, 0, none⟩ = some (.slice A n c)) (hB : W.cell? ⟨bN, 0, none⟩ = some (.int .i64 106)) (h0 : J [] W) (hJ : AbidesFrom W.heap.size J) :
    CallsIn Fence.wide N Tryz.prog 142 #[.func (.yield l) #[] #[], .pointer (some ⟨bS, 0, none⟩), .pointer (some ⟨bN, 0, none⟩)] W fun e W' => (∃ v, e = .returned v) ∧
      ((∃ ys, ys = List.range (chunkN n) ∧ J ys W') ∨ (∃ pre, Jx pre W')) := by
  refine callsIn_of_wp Tryz.func142 rfl trivial ?_ rfl
  simp only [Tryz.ntmps142, List.size_toArray, List.length_cons, List.length_nil, Nat.reduceAdd, Nat.reduceSub, Array.replicate_succ, Array.replicate_zero, List.push_toArray, List.append_toArray, List.nil_append, List.cons_append]
  gi_wp2
  gi_loopw [4] (fun i wr => ∃ k : Nat, k ≤ chunkN n ∧ i = .int .i64 ((106 * k : Nat) : Int) ∧ J (List.range k) wr ∧ Keep2 bS bN W wr) (fun i _ => (106 * chunkN n + 1 - (intOf i).toNat))
  case atStart => exact ⟨0, Nat.zero_le _, rfl, h0, Keep2.refl _⟩
  case round =>
    obtain ⟨k, hk, rfl, hJs, hnx⟩ := hrel
    have hS1 : wr.cell? ⟨bS, 0, none⟩ = some (.slice A n c) := (World.cell?_of_block (w := W) hnx.1).trans hS
    have hB1 : wr.cell? ⟨bN, 0, none⟩ = some (.int .i64 106) := (World.cell?_of_block (w := W) hnx.2).trans hB
    by_cases hlt : k < chunkN n
    · have hkn : 106 * k < n := by unfold chunkN at hlt; omega
      obtain rfl := hA (by omega)
      obtain ⟨j, hj⟩ : ∃ j, j = 106 * k := ⟨_, rfl⟩
      rw [← hj]
      have hjn : j < n := by omega
      have hjn' : (j : Int) < n := by omega
      have hjc : (j : Int) < c := by omega
      have hm : (if ((n - j : Nat) : Int) < 106 then ((n - j : Nat) : Int) else 106) = ((min 106 (n - j) : Nat) : Int) := by split <;> omega
      have hjle : j ≤ n := by omega
      have hcj : ¬ c = j := by omega
      have hlt' := hlt
      have HK : Aside (k < chunkN n) := ⟨hlt⟩
      clear hlt'
      have HJ := Aside.mk hj
      have HM := Aside.mk hm
      have HY := Aside.mk hY
      clear hj hm hkn hA hlt hS hB h0 hY
      gi_wp2
      refine wpIn_wide.2 ?_
      refine region_R [] [] (fun _ => True) #[false, false, false, false, false, false, false] (by kernel_rfl) rfl rfl ?_
      refine wpR_rd 0 #[true, false, false, false, false, false, false] rfl onlyN_noPanic (by kernel_rfl) (fun K hK => ?_); (go_simp; try go_bits); refine hK _ ?_; clear hK K
      refine wpR_rd 1 #[true, true, false, false, false, false, false] rfl onlyN_noPanic (by kernel_rfl) (fun K hK => ?_); (go_simp; try go_bits); refine hK _ ?_; clear hK K
      refine wpR_rd 2 #[true, true, true, false, false, false, false] rfl onlyN_noPanic (by kernel_rfl) (fun K hK => ?_); (go_simp; try go_bits); refine hK _ ?_; clear hK K
      refine wpR_rd 3 #[true, true, true, true, false, false, false] rfl onlyN_noPanic (by kernel_rfl) (fun K hK => ?_); (go_simp; try go_bits); refine hK _ ?_; clear hK K
      refine wpR_rd 4 #[true, true, true, true, true, false, false] rfl onlyN_noPanic (by kernel_rfl) (fun K hK => ?_); (go_simp; try go_bits); refine hK _ ?_; clear hK K
      refine wpR_rd 5 #[true, true, true, true, true, true, false] rfl onlyN_noPanic (by kernel_rfl) (fun K hK => ?_); (go_simp; try go_bits); refine hK _ ?_; clear hK K
      refine wpR_rd 6 #[true, true, true, true, true, true, true] rfl onlyN_noPanic (by kernel_rfl) (fun K hK => ?_); (go_simp; try go_bits); refine hK _ ?_; clear hK K
      refine wpR_done (by kernel_rfl) ?_ _
      simp only [OnlyN]
      rw [HM.out]
      obtain ⟨m, hm⟩ : ∃ m, m = min 106 (n - j) := ⟨_, rfl⟩
      rw [← hm]
      have hm0 : 0 < m := by omega
      have hmn : j + m ≤ n := by omega
      have hmc : (j : Int) + m ≤ c := by omega
      have hjd := hJ _ _ _ none hJs (grows_drew wr) (fun r h => by cases h)
      obtain ⟨fn, tmps, assign, body, hy, hR⟩ := HY.out (List.range k) k wr.drew hjd (by rw [List.length_range]; exact HK.out) HK.out
      have ev : chunkV g o n k = .slice (some ⟨g, o + j, none⟩) m m := by unfold chunkV chunkM; rw [← HJ.out, hm]
      rw [ev] at hy
      have hnd : Keep2 bS bN W wr.drew := hnx
      have HN := Aside.mk hnd
      have hjm1 : j ≤ j + m := by omega
      have hjm2 : j + m ≤ c := by omega
      have ejm : j + m - j = m := by omega
      clear hJs hjd HM hm ev hnx hnd
      gi_wp2
      refine hR.mono ?_
      have hn64' : (n : Int) ≤ 140737488351232 := by omega
      rintro ee W3 (⟨rfl, hJ3, hk3⟩ | ⟨rfl, hJx3⟩)
      · have hn1 := HN.out.trans hk3
        have hB3 : W3.cell? ⟨bN, 0, none⟩ = some (.int .i64 106) := (World.cell?_of_block (w := wr.drew) hk3.2).trans hB1
        have HR := Aside.mk (And.intro hn1 hJ3)
        clear hS1 hB1 hy hR hk3 hn1 hJ3
        gi_wp2
        go_roundw
        case rel => exact ⟨k + 1, by have := HK.out; omega, by rw [HJ.out]; push_cast; congr 1, by rw [List.range_succ]; exact HR.out.2, HR.out.1⟩
        case measure =>
          have := HK.out
          have := HJ.out
          simp [intOf]
          omega
      · clear hy hR
        gi_wp2
        refine bodyPost_ret (results_none rfl _ _ _) rfl ?_
        exact ⟨⟨_, rfl⟩, .inr ⟨_, hJx3⟩⟩
    · have hkc : k = chunkN n := by omega
      have hge : ¬ (((106 * k : Nat) : Int) < (n : Int)) := by unfold chunkN at hkc; omega
      have HX : Aside (∃ ys, ys = List.range (chunkN n) ∧ J ys wr) := ⟨⟨_, rfl, by rw [← hkc]; exact hJs⟩⟩
      obtain ⟨j, hj⟩ : ∃ j, j = 106 * k := ⟨_, rfl⟩
      rw [← hj] at hge ⊢
      clear hkc hj hY hA hJs hnx
      gi_wp2
      go_end0
      exact ⟨⟨_, rfl⟩, .inl (by obtain ⟨ys, rfl, h⟩ := HX.out; exact h)⟩
theorem chunk_stops (N : Nat) (hN : 1 ≤ N) (bS bN : Nat) (A : Option Addr) (g o n c : Nat) (hA : 0 < n → A = some ⟨g, o, none⟩) (hnc : n ≤ c) (hcm : c ≤ maxLen) (hn64 : n ≤ 140737488351232) (w : World) (hbS : bS < w.heap.size) (hbN : bN < w.heap.size)
    (hS : w.cell? ⟨bS, 0, none⟩ = some (.slice A n c)) (hB : w.cell? ⟨bN, 0, none⟩ = some (.int .i64 106)) :
    SeqStopsK Fence.wide N Tryz.prog 142 #[.pointer (some ⟨bS, 0, none⟩), .pointer (some ⟨bN, 0, none⟩)] (fun x : { x : Nat // x < chunkN n } => #[chunkV g o n x.1]) (Keep2 bS bN)
      (fun ys => ys.map (·.1) = List.range (chunkN n)) (fun _ => True) (chunkN n) w := fun l J Jx W hW hJ hJx hY h0 => by
  have hS' := (hW.cell (p := ⟨bS, 0, none⟩) hbS).trans hS
  have hB' := (hW.cell (p := ⟨bN, 0, none⟩) hbN).trans hB
  refine (chunk1_in N hN l bS bN A g o n c hA hnc hcm hn64 (fun ys W => ∃ zs : List { x : Nat // x < chunkN n }, zs.map (·.1) = ys ∧ J zs W) (fun ys W => ∃ zs : List { x : Nat // x < chunkN n }, zs.map (·.1) = ys ∧ Jx zs W) ?_ W hS' hB' ⟨[], rfl, h0⟩ ?_).mono ?_
  · rintro pre x W1 ⟨zs, rfl, hj⟩ hl hx
    obtain ⟨fn, tmps, assign, body, hy, hR⟩ := hY zs ⟨x, hx⟩ W1 hj (by simpa using hl)
    refine ⟨fn, tmps, assign, body, hy, hR.mono ?_⟩
    rintro e W' (⟨rfl, h1, h2⟩ | ⟨rfl, h1⟩)
    · exact .inl ⟨rfl, ⟨_, by simp, h1⟩, h2⟩
    · exact .inr ⟨rfl, ⟨_, by simp, h1⟩⟩
  · rintro s W1 W2 row ⟨zs, hz, hj⟩ hg hr
    exact ⟨zs, hz, hJ _ _ _ _ hj hg hr⟩
  · rintro e W' ⟨he, ⟨ys, rfl, zs, hz, hj⟩ | ⟨pre, zs, hz, hj⟩⟩
    · exact ⟨he, .inl ⟨zs, hz, hj⟩⟩
    · exact ⟨he, .inr ⟨zs, trivial, hj⟩⟩
set_option maxHeartbeats 1000000 in
set_option maxRecDepth 100000 in
theorem chunk_ok (E : Env) (q : HP) (A : Option Addr) (n c : Nat) (w : World) (hw : Sat E w q) :
    Calls Tryz.prog 83 #[.slice A n c, .int .i64 106] w fun e w' => ∃ bS, e = .returned (.func (.func 142) #[] #[.pointer (some ⟨bS, 0, none⟩), .pointer (some ⟨bS + 1, 0, none⟩)]) ∧
      Sat E w' (HP.pt bS (.cells #[.slice A n c] 34) * (HP.pt (bS + 1) (.cells #[.int .i64 106] 3) * q)) := by
  have h1 := ((hw.alloc (.cells #[.slice A n c] 34)).alloc (.cells #[.int .i64 106] 3)).s2
  rw [show (w.alloc (.cells #[.slice A n c] 34)).heap.size = w.heap.size + 1 by simp] at h1
  have H1 := Aside.mk h1
  clear h1 hw
  go_enter Tryz.func83, Tryz.ntmps83
  go_wp2
  go_ret
  exact ⟨w.heap.size, rfl, H1.out⟩
end Go.Proofs.YtmjnnbnbdcadbaaGreatDoor
/- slices.AppendSeq and Collect over slices.Chunk. -/
namespace Go.Proofs.YtmjnnbnbdcadbaaGreatDoor
open Go.RowKit Go.Shelf HP
set_option linter.unusedSimpArgs false
set_option linter.unusedVariables false
attribute [local go_sem] Oper.semAt_some

theorem slSS : SlTy Tryz.prog 72 34 (.slice none 0 0) 1 24 := ⟨Tryz.underlying72, by kernel_rfl, rfl, by decide⟩
/-- What has been gathered: a box with a slice of an own array. -/
def HP.gath (bb : Nat) (l : List Value) : HP := HP.ex fun v => HP.pt bb (.cells #[v] 72) * HP.row 34 1 v l.length l
theorem HP.gath_solid {bb B : Nat} (h : bb < B) (l : List Value) : HP.Solid B (HP.gath bb l) := by
  rintro k ⟨v, hk⟩
  exact (HP.Solid.mul (HP.Solid.pt_below h _) ((HP.Celled.row _ _ _ _ _).solid B)) k hk
set_option maxHeartbeats 2000000 in
set_option maxRecDepth 100000 in
theorem appendSeq_ok (E : Env) (q : HP) (bS bN : Nat) (A : Option Addr) (g o n c : Nat) (w : World) (hA : 0 < n → A = some ⟨g, o, none⟩) (hnc : n ≤ c) (hcm : c ≤ maxLen) (hn64 : n ≤ 140737488351232)
    (hw : Sat E w (HP.pt bS (.cells #[.slice A n c] 34) * (HP.pt bN (.cells #[.int .i64 106] 3) * q))) :
    Calls Tryz.prog 141 #[.slice none 0 0, .func (.func 142) #[] #[.pointer (some ⟨bS, 0, none⟩), .pointer (some ⟨bN, 0, none⟩)]] w fun e w' => ∃ v, e = .returned v ∧
      Sat E w' (HP.row 34 1 v (chunkN n) ((List.range (chunkN n)).map (chunkV g o n)) * (HP.pt bS (.cells #[.slice A n c] 34) * (HP.pt bN (.cells #[.int .i64 106] 3) * q))) := by
  obtain ⟨q0, hq0⟩ : ∃ q0, q0 = HP.pt bS (.cells #[.slice A n c] 34) * (HP.pt bN (.cells #[.int .i64 106] 3) * q) := ⟨_, rfl⟩
  have hk0 : ∀ E1 W p, Sat E1 W (p * q0) → W.heap[bS]? = some (.cells #[.slice A n c] 34) ∧ W.heap[bN]? = some (.cells #[.int .i64 106] 3) := fun E1 W p h => by
    rw [hq0] at h
    exact ⟨h.s2.get, h.s3.get⟩
  rw [← hq0] at hw ⊢
  clear hq0
  refine calls_of_wp_marks Tryz.func141 rfl ?_
  simp only [Tryz.ntmps141, List.size_toArray, List.length_cons, List.length_nil, Nat.reduceAdd, Nat.reduceSub, Array.replicate_succ, Array.replicate_zero, List.push_toArray, List.append_toArray, List.nil_append, List.cons_append]
  have h1 := (hw.alloc (.cells #[.slice none 0 0] 72))
  have hl1 : bS < w.heap.size := (Array.getElem?_eq_some_iff.1 (hk0 _ _ HP.emp (by rw [HP.emp_mul]; exact hw)).1).1
  have hl2 : bN < w.heap.size := (Array.getElem?_eq_some_iff.1 (hk0 _ _ HP.emp (by rw [HP.emp_mul]; exact hw)).2).1
  have hsz : (w.alloc (.cells #[.slice none 0 0] 72)).heap.size = w.heap.size + 1 := by simp
  have h2 : Sat E (w.alloc (.cells #[.slice none 0 0] 72)) (HP.gath w.heap.size [] * q0) := Sat.ex_intro (f := fun v => HP.pt w.heap.size (.cells #[v] 72) * HP.row 34 1 v 0 []) (.slice none 0 0) ((h1.row_nil 34 1 none).perm (by ac_rfl))
  clear h1
  go_wp2
  generalize World.alloc w _ = w1 at *
  generalize w.heap.size = bb at *
  refine wp_range_sat (α := { x : Nat // x < chunkN n }) rfl (enters_of Tryz.func142 (by kernel_rfl) rfl)
    (chunk_stops 19 (by omega) bS bN A g o n c hA hnc hcm hn64 w1 (by omega) (by omega) (cell_of_row _ _ 0 _ _ _ (hk0 _ _ _ h2).1) (cell_of_row _ _ 0 _ _ _ (hk0 _ _ _ h2).2)) (fun h k => h.trans k) (fun W l o o' hl ho h1 _ => ⟨putObj_heap_ne W l o' bS (by omega), putObj_heap_ne W l o' bN (by omega)⟩)
    (fun E1 E2 W W' p p' h1 h2 => ⟨(hk0 _ _ _ h2).1.trans (hk0 _ _ _ h1).1.symm, (hk0 _ _ _ h2).2.trans (hk0 _ _ _ h1).2.symm⟩) (fun _ => rfl)
    (fun pre => HP.gath bb (pre.map fun x => chunkV g o n x.1)) (fun pre => HP.gath_solid (by omega) _) h2
    (fun x a' W => a' = { tmps := #[.slice none 0 0, .func (.func 142) #[] #[.pointer (some ⟨bS, 0, none⟩), .pointer (some ⟨bN, 0, none⟩)], .pointer (some ⟨bb, 0, none⟩), undef, .slice none 0 0, chunkV g o n x.1, .func (.func 142) #[] #[.pointer (some ⟨bS, 0, none⟩), .pointer (some ⟨bN, 0, none⟩)], chunkV g o n x.1, undef, undef, undef, undef, undef], defers := [] }) ?hAx ?assign ?body ?done
  case hAx =>
    rintro x a' s W W' row rfl hg hr
    rfl
  case assign =>
    intro l x W K' hsz hK'
    clear hk0 h2 hw
    generalize chunkV g o n x.1 = cv at *
    gi_wp2
    exact hK' _ _ (Below.refl _ _) rfl
  case body =>
    rintro E' q' l pre x a' W hqq hI rfl hpre
    clear hqq h2 hw hk0
    obtain ⟨v, hI⟩ := hI.ex_elim
    have hI2 : Sat E' W (HP.row 34 1 v (pre.map fun x => chunkV g o n x.1).length (pre.map fun x => chunkV g o n x.1) * (HP.pt bb (.cells #[v] 72) * q')) := hI.perm (by ac_rfl)
    have b0 := hI2.s2.cell1
    have hpl : (pre.map fun x => chunkV g o n x.1).length = pre.length := List.length_map _
    have hN : chunkN n ≤ 1400000000000 := by unfold chunkN; omega
    have HX : Aside ((pre ++ [x]).map (fun x => chunkV g o n x.1) = (pre.map fun x => chunkV g o n x.1) ++ [chunkV g o n x.1]) := ⟨by rw [List.map_append]; rfl⟩
    have hone : (chunkV g o n x.1).oneCell' = true := rfl
    have hcv : ∃ A' m', chunkV g o n x.1 = .slice A' m' m' := ⟨_, _, rfl⟩
    generalize hL : (pre.map fun x => chunkV g o n x.1) = L at *
    generalize chunkV g o n x.1 = cv at *
    have HI := Aside.mk (And.intro hI2 (And.intro hone (And.intro hpl hpre)))
    obtain ⟨Ac, mc, rfl⟩ := hcv
    clear hI hI2 hone hpl hpre hL
    gi_wp2_with (gi_at_builtin; go_loud (refine wpListIn_append_new slSS rfl rfl rfl rfl HI.out.1 rfl (by simp [HI.out.2.1]) (by rw [HI.out.2.2.1]; unfold maxLen; have := HI.out.2.2.2; omega) (by rw [HI.out.2.2.1]; have := HI.out.2.2.2; omega) (fun v4 w4 hw4 => ?_); obtain ⟨A4, c4, rfl, -, -⟩ := hw4.row_slice; have b4 := hw4.s2.cell1; have t4 := hw4.s2.thaw 0; have HW4 := Aside.mk hw4; clear hw4))
    show Sat E' _ _
    rw [HX.out]
    have hlen : (L ++ [Value.slice Ac mc mc]).length = L.length + 1 := by rw [List.length_append]; rfl
    refine Sat.ex_intro (f := fun v => HP.pt bb (.cells #[v] 72) * HP.row 34 1 v (L ++ [Value.slice Ac mc mc]).length (L ++ [Value.slice Ac mc mc])) (Value.slice A4 (L.length + 1) c4) ?_
    rw [hlen]
    exact (HW4.out.s2.set1 (Value.slice A4 (L.length + 1) c4)).perm (by ac_rfl)
  case done =>
    intro D xs W hxs hI
    have hmap : (xs.map fun x => chunkV g o n x.1) = (List.range (chunkN n)).map (chunkV g o n) := by
      have hxs : xs.map (·.1) = List.range (chunkN n) := hxs
      rw [← hxs, List.map_map]
      rfl
    rw [hmap] at hI
    have hlen : ((List.range (chunkN n)).map (chunkV g o n)).length = chunkN n := by rw [List.length_map, List.length_range]
    obtain ⟨v, h5⟩ := hI.s2.ex_elim
    rw [hlen] at h5
    obtain ⟨L, hL⟩ : ∃ L, L = (List.range (chunkN n)).map (chunkV g o n) := ⟨_, rfl⟩
    rw [← hL] at h5
    have HL := Aside.mk hL
    clear hL hlen
    have h6 : Sat E W (HP.pt D (.deferred (some [])) * (HP.pt bb (.cells #[v] 72) * (HP.row 34 1 v (chunkN n) L * q0))) := h5.perm (by ac_rfl)
    have h7 : Sat E W (HP.row 34 1 v (chunkN n) L * (HP.pt D (.deferred (some [])) * (HP.pt bb (.cells #[v] 72) * q0))) := h5.perm (by ac_rfl)
    obtain ⟨A5, c5, rfl, -, -⟩ := h7.row_slice
    have b0 := h6.s2.cell1
    have hD := h6.get
    have HF := Aside.mk (And.intro h6 hD)
    clear hI h5 h6 h7 hD hmap hxs h2 hk0 hw
    go_wp2
    refine marks_ret rfl HF.out.2 (fun w => results_tmp rfl _ _ _) ⟨_, rfl, ?_⟩
    rw [← HL.out]
    exact ((HF.out.1).putDef (.deferred none)).right.right
set_option maxHeartbeats 1000000 in
set_option maxRecDepth 100000 in
theorem collect_ok (E : Env) (q : HP) (bS bN : Nat) (A : Option Addr) (g o n c : Nat) (w : World) (hA : 0 < n → A = some ⟨g, o, none⟩) (hnc : n ≤ c) (hcm : c ≤ maxLen) (hn64 : n ≤ 140737488351232)
    (hw : Sat E w (HP.pt bS (.cells #[.slice A n c] 34) * (HP.pt bN (.cells #[.int .i64 106] 3) * q))) :
    Calls Tryz.prog 82 #[.func (.func 142) #[] #[.pointer (some ⟨bS, 0, none⟩), .pointer (some ⟨bN, 0, none⟩)]] w fun e w' => ∃ v, e = .returned v ∧
      Sat E w' (HP.row 34 1 v (chunkN n) ((List.range (chunkN n)).map (chunkV g o n)) * q) := by
  have HW := Aside.mk (And.intro hw hA)
  clear hw hA
  go_enter Tryz.func82, Tryz.ntmps82
  go_wp2_with fail
  refine (appendSeq_ok E q bS bN A g o n c _ HW.out.2 hnc hcm hn64 HW.out.1).mono ?_
  rintro e w1 ⟨v, rfl, h1⟩
  obtain ⟨A1, c1, rfl, -, -⟩ := h1.row_slice
  have H1 := Aside.mk h1.drop2.drop2
  clear h1
  go_wp2
  go_ret
  exact ⟨_, rfl, H1.out⟩
end Go.Proofs.YtmjnnbnbdcadbaaGreatDoor
/- pair.Store. -/
namespace Go.Proofs.YtmjnnbnbdcadbaaGreatDoor
open Go.RowKit HP
set_option linter.unusedSimpArgs false
set_option linter.unusedVariables false

/-- A text's pieces. -/
def piece (l : List Int) (k : Nat) : List Int := (l.drop (106 * k)).take 106
def piecesI (l : List Int) : List (List Int) := if l.length = 0 then [[]] else (List.range (chunkN l.length)).map (piece l)
def storeP (A : Dk) (name : ByteArray) (gen : Nat) (l : List Int) : Int × Dk := if (dropP A name).1 = 0 then wrP (dropP A name).2 name 0 gen (piecesI l) else dropP A name
theorem piece_length (l : List Int) (k : Nat) : (piece l k).length = chunkM l.length k := by
  unfold piece chunkM
  rw [List.length_take, List.length_drop]
def pieceS (g o : Nat) (l : List Int) (k : Nat) : Sl Int := ⟨some ⟨g, o + 106 * k, none⟩, chunkM l.length k, piece l k⟩
theorem pieceS_val (g o : Nat) (l : List Int) (k : Nat) : (pieceS g o l k).val8 = chunkV g o l.length k := by
  unfold Sl.val8 pieceS chunkV
  rw [piece_length]
set_option maxHeartbeats 2000000 in
set_option maxRecDepth 100000 in
theorem pair_store (E : Env) (q : HP) (d : Nat) (A : Dk) (name : ByteArray) (gen : Nat) (Ap : Option Addr) (l : List Int) (n c : Nat) (w : World) (hname : name.size + 2 ≤ maxLen) (hgen : (gen : Int) ≤ 4611686018427387904) (hln : l.length = n) (hnc : n ≤ c) (hcm : c ≤ maxLen) (hn64 : n ≤ 140737488351232) (hl : Bytes l)
    (hq : ∀ w, Sat E w q → Quarter w ∧ Cells w Ap (b8s l)) (hw : Sat E w (HP.disk d A * q)) :
    Calls Tryz.prog 16 #[.pointer (some ⟨d, 0, none⟩), .string name, .int .i64 gen, .slice Ap n c] w fun e w' => e = .returned (.int .i64 (storeP A name gen l).1) ∧ Sat E w' (HP.disk d (storeP A name gen l).2 * q) := by
  have HS : Aside (storeP A name gen l = if (dropP A name).1 = 0 then wrP (dropP A name).2 name 0 gen (piecesI l) else dropP A name) := ⟨rfl⟩
  have hn2 : name.size ≤ maxLen := by omega
  have hadr : 0 < n → ∃ g o, Ap = some ⟨g, o, none⟩ := fun h => by
    have hc := (hq w hw.right).2
    obtain ⟨a, rfl, -⟩ := hc.at_ 0 (by rw [b8s_length, hln]; exact h)
    obtain ⟨g, o, rfl⟩ := slice_addr hc rfl (k := 0) (by rw [b8s_length, hln]; exact h)
    exact ⟨g, o, rfl⟩
  obtain ⟨g, o, hgo⟩ : ∃ g o, 0 < n → Ap = some ⟨g, o, none⟩ := by
    rcases Nat.eq_zero_or_pos n with h | h
    · exact ⟨0, 0, fun h' => by omega⟩
    · obtain ⟨g, o, h1⟩ := hadr h
      exact ⟨g, o, fun _ => h1⟩
  have HQ := Aside.mk (And.intro hq (And.intro hl (And.intro hln (And.intro hgo hw))))
  clear hq hl hln hw hadr hgo
  go_enter Tryz.func16, Tryz.ntmps16
  go_wp2_with fail
  refine (pair_none E q d A _ HQ.out.2.2.2.2).mono ?_
  rintro e w1 ⟨rfl, k1⟩
  have K1 := Aside.mk k1
  clear k1
  go_wp2_with fail
  refine (ext_frame E (HP.disk d A * q) name 0 gen none [] 0 0 _ hn2 (by omega) hgen rfl (by omega) (fun x hx => by cases hx) (fun w h => ⟨(HQ.out.1 _ h.right).1, Cells.nil _ _⟩) K1.out).mono ?_
  rintro e w2 ⟨gI, rfl, k2⟩
  have K2 := Aside.mk k2.right
  clear k2 K1
  go_wp2_with fail
  refine (pair_drop E q d A name _ hname K2.out).mono ?_
  rintro e w3 ⟨rfl, k3⟩
  have K3 := Aside.mk k3
  clear k3 K2
  by_cases h0 : (dropP A name).1 = 0
  · rw [if_pos h0] at HS
    rw [h0]
    generalize (dropP A name).2 = B at *
    clear h0
    go_wp2_with fail
    refine (chunk_ok E (HP.disk d B * q) Ap n c _ K3.out).mono ?_
    rintro e w4 ⟨bS, rfl, k4⟩
    have K4 := Aside.mk k4
    clear k4 K3
    go_wp2_with fail
    refine (collect_ok E (HP.disk d B * q) bS (bS + 1) Ap g o n c _ HQ.out.2.2.2.1 hnc hcm hn64 K4.out).mono ?_
    rintro e w5 ⟨v, rfl, k5⟩
    obtain ⟨A5, c5, rfl, -, hc5⟩ := k5.row_slice
    have K5 := Aside.mk k5
    clear k5 K4
    by_cases hz : n = 0
    · subst hz
      have hN0 : chunkN 0 = 0 := rfl
      rw [hN0] at K5 ⊢
      have K6 := Aside.mk ((K5.out.right).alloc (.cells [Value.slice none 0 0].toArray 34))
      clear K5
      go_wp2_with fail
      refine (pair_write E (HP.pt w5.heap.size (.cells [Value.slice none 0 0].toArray 34) * q) d B name 0 gen (some ⟨w5.heap.size, 0, none⟩) [⟨none, 0, []⟩] 1 1 _ hname (by omega) hgen rfl (by unfold maxLen; omega) (fun s hs => by
        obtain rfl := List.mem_singleton.1 hs
        exact ⟨Nat.le_refl _, fun x hx => by cases hx⟩) (fun w h => ⟨(HQ.out.1 _ h.right).1, Sat.ptCells (off := 0) (l := [Value.slice none 0 0]) h rfl, fun s hs => by
        obtain rfl := List.mem_singleton.1 hs
        exact Cells.nil _ _⟩) K6.out.s2).mono ?_
      rintro e w6 ⟨rfl, k7⟩
      have K7 := Aside.mk k7.drop2
      clear k7 K6
      have HX : Aside (wrP B name 0 gen (List.map (·.l) [(⟨none, 0, []⟩ : Sl Int)]) = storeP A name gen l) := ⟨by
        rw [HS.out]
        unfold piecesI
        rw [if_pos HQ.out.2.2.1]
        rfl⟩
      rw [HX.out] at K7 ⊢
      go_wp2
      go_ret
      exact ⟨rfl, K7.out⟩
    · obtain ⟨N, hN⟩ : ∃ N, N = chunkN n := ⟨_, rfl⟩
      have hNp : 0 < N := by rw [hN]; unfold chunkN; omega
      have hNm : N ≤ 1400000000000 := by rw [hN]; unfold chunkN; omega
      have HN := Aside.mk hN
      rw [← hN] at K5 ⊢
      clear hN
      have hnz1 : ((N : Int) == 0) = false := by rw [beq_eq_false_iff_ne]; omega
      have hnz2 : ¬ (N : Int) = 0 := by omega
      have hnz3 : ¬ N = 0 := by omega
      obtain rfl := HQ.out.2.2.2.1 (by omega)
      go_wp2_with fail
      refine (pair_write E (HP.row 34 1 (.slice A5 N c5) N ((List.range N).map (chunkV g o n)) * q) d B name 0 gen A5 ((List.range N).map (pieceS g o l)) N c5 _ hname (by omega) hgen (by rw [List.length_map, List.length_range]) (by unfold maxLen; omega) (fun s hs => by
        obtain ⟨k, hk, rfl⟩ := List.mem_map.1 hs
        exact ⟨by show (piece l k).length ≤ chunkM l.length k; rw [piece_length]; exact Nat.le_refl _, fun x hx => HQ.out.2.1 x (List.mem_of_mem_drop (List.mem_of_mem_take hx))⟩) (fun w h => ⟨(HQ.out.1 _ h.right).1, by
        have := h.row_cells
        rw [List.map_map, show (Sl.val8 ∘ pieceS g o l) = chunkV g o n by funext k; rw [Function.comp_apply, pieceS_val, HQ.out.2.2.1]]
        exact this, fun s hs => by
        obtain ⟨k, hk, rfl⟩ := List.mem_map.1 hs
        have := (((HQ.out.1 _ h.right).2).drop (106 * k)).take 106
        rw [addr_add] at this
        show Cells w (some ⟨g, o + 106 * k, none⟩) (b8s (piece l k))
        unfold piece
        unfold b8s at this ⊢
        rw [List.map_take, List.map_drop]
        exact this⟩) K5.out.s2).mono ?_
      rintro e w6 ⟨rfl, k7⟩
      have K7 := Aside.mk k7.drop2
      clear k7 K5
      have HX : Aside (wrP B name 0 gen (List.map (·.l) ((List.range N).map (pieceS g o l))) = storeP A name gen l) := ⟨by
        rw [HS.out]
        unfold piecesI
        rw [if_neg (by rw [HQ.out.2.2.1]; exact hz), List.map_map, HQ.out.2.2.1, ← HN.out]
        rfl⟩
      rw [HX.out] at K7 ⊢
      go_wp2
      go_ret
      exact ⟨rfl, K7.out⟩
  · rw [if_neg h0] at HS
    obtain ⟨ec, hec⟩ : ∃ ec, ec = (dropP A name).1 := ⟨_, rfl⟩
    rw [← hec] at h0 ⊢
    have HE := Aside.mk hec
    clear hec
    go_wp2
    go_ret
    rw [HS.out, HE.out]
    exact ⟨rfl, K3.out⟩
end Go.Proofs.YtmjnnbnbdcadbaaGreatDoor
/- anchor.Save. -/
namespace Go.Proofs.YtmjnnbnbdcadbaaGreatDoor
open Go.RowKit HP
set_option linter.unusedSimpArgs false
set_option linter.unusedVariables false

set_option maxHeartbeats 4000000 in
set_option maxRecDepth 100000 in
theorem anchor_save (E : Env) (q : HP) (d : Nat) (A : Dk) (a : Anch) (w : World) (hs64 : wf64 a.seq) (hq : ∀ w, Sat E w q → Quarter w) (hw : Sat E w (HP.disk d A * q)) :
    Calls Tryz.prog 8 #[.pointer (some ⟨d, 0, none⟩), .agg #[.int .i64 a.seq, .int .i64 a.gen, .int .i64 a.lsn, .int .i64 a.seg, .int .i64 a.ext, .int .i64 a.flo, .int .i64 a.new, .int .i64 a.keep, .int .i64 a.next, .int .i64 a.cur]] w fun e w' => e = .returned (.tuple #[(saveP A a).1.1.val, .int .i64 (saveP A a).1.2]) ∧ Sat E w' (HP.disk d (saveP A a).2 * q) := by
  have h1 := (hw.alloc (.cells #[.int .i64 a.seq, .int .i64 a.gen, .int .i64 a.lsn, .int .i64 a.seg, .int .i64 a.ext, .int .i64 a.flo, .int .i64 a.new, .int .i64 a.keep, .int .i64 a.next, .int .i64 a.cur] 29)).alloc (.cells #[.int .i64 0, .int .i64 0, .int .i64 0, .int .i64 0, .int .i64 0, .int .i64 0, .int .i64 0, .int .i64 0, .int .i64 0, .int .i64 0] 29)
  have hz : (w.alloc (.cells #[.int .i64 a.seq, .int .i64 a.gen, .int .i64 a.lsn, .int .i64 a.seg, .int .i64 a.ext, .int .i64 a.flo, .int .i64 a.new, .int .i64 a.keep, .int .i64 a.next, .int .i64 a.cur] 29)).heap.size = w.heap.size + 1 := by simp
  rw [hz] at h1
  have H1 : Aside (Sat E ((w.alloc (.cells #[.int .i64 a.seq, .int .i64 a.gen, .int .i64 a.lsn, .int .i64 a.seg, .int .i64 a.ext, .int .i64 a.flo, .int .i64 a.new, .int .i64 a.keep, .int .i64 a.next, .int .i64 a.cur] 29)).alloc (.cells #[.int .i64 0, .int .i64 0, .int .i64 0, .int .i64 0, .int .i64 0, .int .i64 0, .int .i64 0, .int .i64 0, .int .i64 0, .int .i64 0] 29)) (HP.disk d A * (HP.pt w.heap.size (.cells #[.int .i64 a.seq, .int .i64 a.gen, .int .i64 a.lsn, .int .i64 a.seg, .int .i64 a.ext, .int .i64 a.flo, .int .i64 a.new, .int .i64 a.keep, .int .i64 a.next, .int .i64 a.cur] 29) * (HP.pt (w.heap.size + 1) (.cells #[.int .i64 0, .int .i64 0, .int .i64 0, .int .i64 0, .int .i64 0, .int .i64 0, .int .i64 0, .int .i64 0, .int .i64 0, .int .i64 0] 29) * q)))) := ⟨h1.perm (by ac_rfl)⟩
  have HQ := Aside.mk hq
  have hx : nameA.size + 2 ≤ maxLen := by show 8 ≤ maxLen; unfold maxLen; omega
  have HX := Aside.mk hx
  have H64 := Aside.mk hs64
  have HS : Aside (saveP A a = if btw 0 [a.seq] = true ∧ canA a.up = true then
    (if (putP A nameA 0 a.up.seq (encI a.up.l)).1 = 0 then (a.up, 0) else (zeroA, (putP A nameA 0 a.up.seq (encI a.up.l)).1), (putP A nameA 0 a.up.seq (encI a.up.l)).2)
  else ((zeroA, 1), A)) := ⟨rfl⟩
  clear hq hw h1 hz hx hs64
  go_enter Tryz.func8, Tryz.ntmps8
  go_wp2_with fail
  refine (disk_asked E _ d A _ H1.out).mono ?_
  rintro e w1 ⟨rfl, h2⟩
  have k0 : w1.cell? ⟨w.heap.size, 0, none⟩ = some (.int .i64 a.seq) := h2.right.cell 0
  have H2 := Aside.mk (h2.alloc (.cells #[.int .i64 a.seq] 3))
  clear h2 H1
  go_wp2_with fail
  refine (between_ok E _ 0 w1.heap.size [a.seq] 1 1 _ rfl (by omega) (fun w h => Sat.ptCells (off := 0) (l := i8s [a.seq]) h rfl) H2.out).mono ?_
  rintro e w2 ⟨rfl, h3⟩
  have H3 := Aside.mk h3.right
  clear h3 H2 k0
  obtain ⟨cb, hcb⟩ : ∃ cb, cb = btw 0 [a.seq] := ⟨_, rfl⟩
  rw [← hcb] at HS ⊢
  have HCB := Aside.mk hcb
  clear hcb
  cases cb with
  | false =>
    rw [if_neg (by simp)] at HS
    have r2 : (storeVar 29 ⟨w.heap.size + 1, 0, none⟩ (.agg (i8s zeroA.l).toArray)).run Tryz.prog w2 = .ok () (w2.setRow (w.heap.size + 1) (i8s zeroA.l).toArray) := run_storeAgg agAnch (g := w.heap.size + 1) (off := 0) (cs := i8s zeroA.l) H3.out.s3.get rfl (by show 0 + 10 ≤ 10; omega) rfl
    have h5 := H3.out.s3.splice (i8s zeroA.l)
    have H5 := Aside.mk h5
    clear h5 H3
    generalize World.setRow w2 _ _ = w5 at *
    go_wp2_with (refine wpList_store_run rfl rfl rfl rfl rfl r2 ?_)
    go_wp2
    refine bodyPost_ret (results_cellTmp rfl rfl (run_loadAgg agAnch (cs := i8s zeroA.l) rfl (Sat.ptCells (off := 0) H5.out rfl))) rfl ?_
    rw [HS.out]
    exact ⟨rfl, H5.out.right.perm (by ac_rfl : _ = HP.pt w.heap.size (.cells #[.int .i64 a.seq, .int .i64 a.gen, .int .i64 a.lsn, .int .i64 a.seg, .int .i64 a.ext, .int .i64 a.flo, .int .i64 a.new, .int .i64 a.keep, .int .i64 a.next, .int .i64 a.cur] 29) * (HP.disk d A * q)) |>.right⟩
  | true =>
    have hrg : 0 ≤ a.seq ∧ a.seq ≤ 4611686018427387904 := by
      have := HCB.out.symm
      simpa [btw, nOk] using this
    obtain ⟨s0, s1⟩ := hrg
    have k0 : w2.cell? ⟨w.heap.size, 0, none⟩ = some (.int .i64 a.seq) := H3.out.s2.cell 0
    have kf : w2.frozen? ⟨w.heap.size, 0, none⟩ = false := H3.out.s2.thaw 0
    have h4 : Sat E (w2.setCell ⟨w.heap.size, 0, none⟩ (.int .i64 (a.seq + 1))) (HP.pt w.heap.size (.cells #[.int .i64 (a.seq + 1), .int .i64 a.gen, .int .i64 a.lsn, .int .i64 a.seg, .int .i64 a.ext, .int .i64 a.flo, .int .i64 a.new, .int .i64 a.keep, .int .i64 a.next, .int .i64 a.cur] 29) * (HP.disk d A * (HP.pt (w.heap.size + 1) (.cells #[.int .i64 0, .int .i64 0, .int .i64 0, .int .i64 0, .int .i64 0, .int .i64 0, .int .i64 0, .int .i64 0, .int .i64 0, .int .i64 0] 29) * q))) := H3.out.s2.set (i := 0) (.int .i64 (a.seq + 1))
    have H4 := Aside.mk h4
    have r1 : (loadVar 29 ⟨w.heap.size, 0, none⟩).run Tryz.prog (w2.setCell ⟨w.heap.size, 0, none⟩ (.int .i64 (a.seq + 1))) = .ok (.agg (i8s a.up.l).toArray) (w2.setCell ⟨w.heap.size, 0, none⟩ (.int .i64 (a.seq + 1))) := run_loadAgg agAnch (cs := i8s a.up.l) rfl (Sat.ptCells (off := 0) h4 rfl)
    clear h4 H3
    go_wp2_with (refine wpList_load_run rfl rfl rfl r1 ?_)
    refine (encode_ok E _ a.up _ H4.out).mono ?_
    intro e w3 h5
    clear H4 r1 k0 kf
    unfold encEnd at h5
    by_cases hc : canA a.up = true
    · rw [if_pos hc] at h5
      rw [if_pos ⟨trivial, hc⟩] at HS
      clear hc
      obtain ⟨v, rfl, h5⟩ := h5
      obtain ⟨Av, cv, rfl, hcv, hcm⟩ := h5.row_slice
      have k1 : w3.cell? ⟨w.heap.size, 0, none⟩ = some (.int .i64 (a.seq + 1)) := h5.right.cell 0
      have h6 : Sat E w3 (HP.disk d A * (HP.row 5 1 (.slice Av 80 cv) 80 (b8s (encI a.up.l)) * (HP.pt w.heap.size (.cells #[.int .i64 (a.seq + 1), .int .i64 a.gen, .int .i64 a.lsn, .int .i64 a.seg, .int .i64 a.ext, .int .i64 a.flo, .int .i64 a.new, .int .i64 a.keep, .int .i64 a.next, .int .i64 a.cur] 29) * (HP.pt (w.heap.size + 1) (.cells #[.int .i64 0, .int .i64 0, .int .i64 0, .int .i64 0, .int .i64 0, .int .i64 0, .int .i64 0, .int .i64 0, .int .i64 0, .int .i64 0] 29) * q)))) := h5.perm (by ac_rfl)
      have HE := Aside.mk (And.intro (show (encI a.up.l).length = 80 by rw [encI_length]; rfl) (encI_bytes a.up.l))
      have HQ2 : Aside (∀ w', Sat E w' (HP.row 5 1 (.slice Av 80 cv) 80 (b8s (encI a.up.l)) * (HP.pt w.heap.size (.cells #[.int .i64 (a.seq + 1), .int .i64 a.gen, .int .i64 a.lsn, .int .i64 a.seg, .int .i64 a.ext, .int .i64 a.flo, .int .i64 a.new, .int .i64 a.keep, .int .i64 a.next, .int .i64 a.cur] 29) * (HP.pt (w.heap.size + 1) (.cells #[.int .i64 0, .int .i64 0, .int .i64 0, .int .i64 0, .int .i64 0, .int .i64 0, .int .i64 0, .int .i64 0, .int .i64 0, .int .i64 0] 29) * q))) → Quarter w' ∧ Cells w' Av (b8s (encI a.up.l))) := ⟨fun w' h => ⟨HQ.out w' h.right.right.right, h.row_cells⟩⟩
      have H6 := Aside.mk h6
      clear h5 h6
      go_wp2_with fail
      refine (pair_put E _ d A nameA 0 (a.seq + 1) Av (encI a.up.l) 80 cv _ HX.out HE.out.1 hcv HE.out.2 HQ2.out H6.out).mono ?_
      rintro e w4 ⟨rfl, h7⟩
      rw [show a.up.seq = a.seq + 1 from rfl] at HS
      obtain ⟨⟨c, B⟩, hcB⟩ : ∃ r, r = putP A nameA 0 (a.seq + 1) (encI a.up.l) := ⟨_, rfl⟩
      rw [← hcB] at h7 HS ⊢
      have h8 : Sat E w4 (HP.pt (w.heap.size + 1) (.cells #[.int .i64 0, .int .i64 0, .int .i64 0, .int .i64 0, .int .i64 0, .int .i64 0, .int .i64 0, .int .i64 0, .int .i64 0, .int .i64 0] 29) * (HP.pt w.heap.size (.cells #[.int .i64 (a.seq + 1), .int .i64 a.gen, .int .i64 a.lsn, .int .i64 a.seg, .int .i64 a.ext, .int .i64 a.flo, .int .i64 a.new, .int .i64 a.keep, .int .i64 a.next, .int .i64 a.cur] 29) * (HP.disk d B * q))) := (h7.perm (by ac_rfl : _ = HP.row 5 1 (.slice Av 80 cv) 80 (b8s (encI a.up.l)) * (HP.pt (w.heap.size + 1) (.cells #[.int .i64 0, .int .i64 0, .int .i64 0, .int .i64 0, .int .i64 0, .int .i64 0, .int .i64 0, .int .i64 0, .int .i64 0, .int .i64 0] 29) * (HP.pt w.heap.size (.cells #[.int .i64 (a.seq + 1), .int .i64 a.gen, .int .i64 a.lsn, .int .i64 a.seg, .int .i64 a.ext, .int .i64 a.flo, .int .i64 a.new, .int .i64 a.keep, .int .i64 a.next, .int .i64 a.cur] 29) * (HP.disk d B * q))))).right
      have H8 := Aside.mk h8
      clear h7 h8 hcB H6 HQ2 HE k1
      by_cases hc0 : c = 0
      · subst hc0
        have HS2 : Aside (saveP A a = ((a.up, 0), B)) := ⟨by rw [HS.out]; rfl⟩
        have r3 : (loadVar 29 ⟨w.heap.size, 0, none⟩).run Tryz.prog w4 = .ok (.agg (i8s a.up.l).toArray) w4 := run_loadAgg agAnch (cs := i8s a.up.l) rfl (Sat.ptCells (off := 0) H8.out.right rfl)
        clear HS
        have r2 : (storeVar 29 ⟨w.heap.size + 1, 0, none⟩ (.agg (i8s a.up.l).toArray)).run Tryz.prog w4 = .ok () (w4.setRow (w.heap.size + 1) (i8s a.up.l).toArray) := run_storeAgg agAnch (g := w.heap.size + 1) (off := 0) (cs := i8s a.up.l) H8.out.get rfl (by show 0 + 10 ≤ 10; omega) rfl
        have h9 := H8.out.splice (i8s a.up.l)
        have H9 := Aside.mk h9
        clear h9 H8
        generalize World.setRow w4 _ _ = w9 at *
        go_wp2_with (first | (refine wpList_load_run rfl rfl rfl r3 ?_) | (refine wpList_store_run rfl rfl rfl rfl rfl r2 ?_))
        go_wp2
        refine bodyPost_ret (results_cellTmp rfl rfl (run_loadAgg agAnch (cs := i8s a.up.l) rfl (Sat.ptCells (off := 0) H9.out rfl))) rfl ?_
        rw [HS2.out]
        exact ⟨rfl, H9.out.right.right⟩
      · have hcb : (c == 0) = false := by rw [beq_eq_false_iff_ne]; exact hc0
        have HS2 : Aside (saveP A a = ((zeroA, c), B)) := ⟨by rw [HS.out, if_neg hc0]⟩
        clear HS
        have r2 : (storeVar 29 ⟨w.heap.size + 1, 0, none⟩ (.agg (i8s zeroA.l).toArray)).run Tryz.prog w4 = .ok () (w4.setRow (w.heap.size + 1) (i8s zeroA.l).toArray) := run_storeAgg agAnch (g := w.heap.size + 1) (off := 0) (cs := i8s zeroA.l) H8.out.get rfl (by show 0 + 10 ≤ 10; omega) rfl
        have h9 := H8.out.splice (i8s zeroA.l)
        have H9 := Aside.mk h9
        clear h9 H8
        generalize World.setRow w4 _ _ = w9 at *
        go_wp2_with ((refine wpList_store_run rfl rfl rfl rfl rfl r2 ?_))
        go_wp2
        refine bodyPost_ret (results_cellTmp rfl rfl (run_loadAgg agAnch (cs := i8s zeroA.l) rfl (Sat.ptCells (off := 0) H9.out rfl))) rfl ?_
        rw [HS2.out]
        exact ⟨rfl, H9.out.right.right⟩
    · rw [if_neg hc] at h5
      have HS2 : Aside (saveP A a = ((zeroA, 1), A)) := ⟨by rw [HS.out, if_neg (fun h => hc h.2)]⟩
      clear hc HS
      obtain ⟨rfl, h5⟩ := h5
      have H8 := Aside.mk h5.s3
      clear h5
      have r2 : (storeVar 29 ⟨w.heap.size + 1, 0, none⟩ (.agg (i8s zeroA.l).toArray)).run Tryz.prog w3 = .ok () (w3.setRow (w.heap.size + 1) (i8s zeroA.l).toArray) := run_storeAgg agAnch (g := w.heap.size + 1) (off := 0) (cs := i8s zeroA.l) H8.out.get rfl (by show 0 + 10 ≤ 10; omega) rfl
      have h9 := H8.out.splice (i8s zeroA.l)
      have H9 := Aside.mk h9
      clear h9 H8
      generalize World.setRow w3 _ _ = w9 at *
      go_wp2_with ((refine wpList_store_run rfl rfl rfl rfl rfl r2 ?_))
      go_wp2
      refine bodyPost_ret (results_cellTmp rfl rfl (run_loadAgg agAnch (cs := i8s zeroA.l) rfl (Sat.ptCells (off := 0) H9.out rfl))) rfl ?_
      rw [HS2.out]
      exact ⟨rfl, H9.out.right.right⟩
end Go.Proofs.YtmjnnbnbdcadbaaGreatDoor
/- awake of layer 17. -/
namespace Go.Proofs.YtmjnnbnbdcadbaaGreatDoor
open Go.RowKit HP
set_option linter.unusedSimpArgs false
set_option linter.unusedVariables false

set_option maxHeartbeats 2000000 in
set_option maxRecDepth 100000 in
theorem awake17_ok (E : Env) (q : HP) (w : World) (hq : ∀ w, Sat E w q → Quarter w) (hw : Sat E w q) :
    Calls Tryz.prog 14 #[] w fun e w' => e = .returned (.bool true) ∧ Sat E w' q := by
  obtain ⟨B, hB⟩ := saved_end
  have HB := Aside.mk hB
  have HQ := Aside.mk (And.intro hq hw)
  clear hB hq hw
  go_enter Tryz.func14, Tryz.ntmps14
  go_wp2_with fail
  refine (disk_new_ok E q 2 _ ⟨by omega, by omega⟩ HQ.out.2).mono ?_
  rintro e w1 ⟨d, rfl, h1⟩
  have H1 := Aside.mk h1
  clear h1
  go_wp2_with fail
  refine (fresh_ok E _ _ H1.out).mono ?_
  rintro e w2 ⟨rfl, h2⟩
  have H2 := Aside.mk h2
  clear h2 H1
  rw [show freshA.val = .agg #[.int .i64 0, .int .i64 1, .int .i64 0, .int .i64 1, .int .i64 0, .int .i64 (-9223372036854775808), .int .i64 (-9223372036854775808), .int .i64 0, .int .i64 1, .int .i64 0] from rfl]
  go_wp2_with fail
  refine (anchor_save E q d (Dk.new 2) freshA _ (by decide) HQ.out.1 H2.out).mono ?_
  rintro e w3 ⟨rfl, h3⟩
  rw [HB.out.save] at h3 ⊢
  dsimp only at h3 ⊢
  rw [show freshA.up.val = .agg #[.int .i64 1, .int .i64 1, .int .i64 0, .int .i64 1, .int .i64 0, .int .i64 (-9223372036854775808), .int .i64 (-9223372036854775808), .int .i64 0, .int .i64 1, .int .i64 0] from rfl]
  have h4 := h3.alloc (.cells #[.int .i64 1, .int .i64 1, .int .i64 0, .int .i64 1, .int .i64 0, .int .i64 (-9223372036854775808), .int .i64 (-9223372036854775808), .int .i64 0, .int .i64 1, .int .i64 0] 29)
  have H4 : Aside (Sat E (w3.alloc (.cells #[.int .i64 1, .int .i64 1, .int .i64 0, .int .i64 1, .int .i64 0, .int .i64 (-9223372036854775808), .int .i64 (-9223372036854775808), .int .i64 0, .int .i64 1, .int .i64 0] 29)) (HP.disk d B * (HP.pt w3.heap.size (.cells #[.int .i64 1, .int .i64 1, .int .i64 0, .int .i64 1, .int .i64 0, .int .i64 (-9223372036854775808), .int .i64 (-9223372036854775808), .int .i64 0, .int .i64 1, .int .i64 0] 29) * q))) := ⟨h4.perm (by ac_rfl)⟩
  clear h3 h4 H2
  go_wp2_with fail
  refine (anchor_load E _ d B _ HB.out.bytes (fun w h => HQ.out.1 w h.right) H4.out).mono ?_
  rintro e w5 ⟨rfl, h5⟩
  rw [HB.out.load]
  dsimp only
  rw [show freshA.up.val = .agg #[.int .i64 1, .int .i64 1, .int .i64 0, .int .i64 1, .int .i64 0, .int .i64 (-9223372036854775808), .int .i64 (-9223372036854775808), .int .i64 0, .int .i64 1, .int .i64 0] from rfl]
  have h6 := (h5.right.alloc (.cells #[.int .i64 1, .int .i64 1, .int .i64 0, .int .i64 1, .int .i64 0, .int .i64 (-9223372036854775808), .int .i64 (-9223372036854775808), .int .i64 0, .int .i64 1, .int .i64 0] 29)).right
  have k0 := h6.cell 0
  have k1 := h6.cell 1
  have k2 := h6.cell 2
  have k3 := h6.cell 3
  have k4 := h6.cell 4
  have k5 := h6.cell 5
  have k6 := h6.cell 6
  have k7 := h6.cell 7
  have k8 := h6.cell 8
  have k9 := h6.cell 9
  simp only [List.getElem?_toArray, List.getElem?_cons_zero, List.getElem?_cons_succ] at k0 k1 k2 k3 k4 k5 k6 k7 k8 k9
  have H7 := Aside.mk h6
  clear h5 h6 H4
  go_wp2
  go_ret
  exact ⟨rfl, H7.out.right⟩
end Go.Proofs.YtmjnnbnbdcadbaaGreatDoor
/- A step's extent: its own bytes, cut or filled up. -/
namespace Go.Proofs.YtmjnnbnbdcadbaaGreatDoor
open Go.RowKit HP
set_option linter.unusedSimpArgs false
set_option linter.unusedVariables false

set_option maxHeartbeats 1000000 in
set_option maxRecDepth 100000 in
theorem full_ok (E : Env) (q : HP) (s : StepV) (w : World) (hl : s.b.l.length ≤ s.b.cap) (hq : ∀ E w, Sat E w q → Cells w s.b.A (b8s s.b.l)) (hw : Sat E w q) :
    Calls Tryz.prog 52 #[.agg s.vals.toArray] w fun e w' => ∃ g, e = .returned (.slice (some ⟨g, 0, none⟩) 128 128) ∧ Sat E w' (HP.row 5 1 (.slice (some ⟨g, 0, none⟩) 128 128) 128 (b8s (fullOf s.b.l)) * q) := by
  unfold StepV.vals Sl.val
  go_enter Tryz.func52, Tryz.ntmps52
  have h1 := hw.alloc (.cells #[.int .i64 s.op, .int .i64 s.i, .int .i64 s.at_, .int .i64 s.n, .string s.name, .slice s.b.A s.b.l.length s.b.cap, .int .u8 s.mask, .slice s.kept.A s.kept.l.length s.kept.cap] 37)
  have HH := Aside.mk (And.intro h1 (And.intro hl hq))
  clear hw h1 hl hq
  go_wp2_with (first
    | (refine wpList_make_row (n := 128) slB8 rfl rfl rfl rfl rfl HH.out.1 (by unfold maxLen; omega) (by omega) (fun g w2 hw2 => ?_); have g5 := (hw2.s2).cell 5; simp only [List.getElem?_toArray, List.getElem?_cons_zero, List.getElem?_cons_succ] at g5; have HW2 := Aside.mk hw2; clear hw2)
    | (at_builtin; fail)
    | (refine wpList_copy_sat Tryz.underlying34 (by kernel_rfl) rfl rfl rfl rfl HW2.out (b8s_length _) (HH.out.2.2 _ _ HW2.out.right.right) (b8s_one _) (fun w3 hw3 => ?_); have HW3 := Aside.mk hw3; clear hw3))
  go_ret
  refine ⟨g, rfl, ?_⟩
  have h9 := HW3.out.drop2
  rw [full_cells] at h9
  exact h9
end Go.Proofs.YtmjnnbnbdcadbaaGreatDoor
/- The listed table: what the condition gives a walk; the door's own heap meets it. -/
namespace Go.Proofs.YtmjnnbnbdcadbaaGreatDoor
open Go.ChangeShapes Go.WideShapes Go.ChangeAt Go.WideMaps Go.WideElems Go.RowKit HP
set_option linter.unusedVariables false

def laidAll : List (String × DataW Unit) := [("dryrot/crc.quarter", Rows.laid_dryrot_crc_quarter)]
theorem gQuarter : Tryz.prog.globalNamed "dryrot/crc.quarter" = some 0 := by kernel_rfl
theorem tQuarter : (Tryz.prog.globals[0]?).map (·.type) = some 259 := by kernel_rfl
theorem door_met (os : Os) (args : Array Value) : laidMetH Tryz.prog laidAll ((World.doorLaid Tryz.prog 400 os).forCall (fun _ _ => 0) ⟨#[], args, []⟩).memory :=
  laidMetH_of_parts3 (fuel := 8) (laidMet_of_run' 8 (by kernel_rfl) (by kernel_rfl)) (by kernel_rfl) (by kernel_rfl)
theorem quarter_of_laid {W : World} (h : laidMetH Tryz.prog laidAll W) : Quarter W := by
  rw [MakeChecks.laidMetH_plain _ _ _ (by kernel_rfl)] at h
  obtain ⟨ps, ⟨g0, t0, cs0, f0, p0, q0, hg0, ht0, hv0, hd0, _, _⟩, _, _⟩ := h
  obtain rfl := Option.some.inj (gQuarter.symm.trans hg0)
  obtain rfl := Option.some.inj (tQuarter.symm.trans ht0)
  obtain ⟨xs, m1, rfl, hx1, hlen, hn3, hel⟩ := DataW.trod_array Tryz.underlying259 hd0
  have c3 : Tryz.prog.cellsOf 205 = 1 := by kernel_rfl
  simp only [Prod.mk.injEq, DataW.agg.injEq, Rows.laid_dryrot_crc_quarter] at hx1
  intro i hi
  have hi' := hel i hi
  rw [c3, Nat.mul_one] at hi'
  have hxl : i < xs.length := by omega
  rw [List.getElem?_eq_getElem hxl] at hi'
  obtain ⟨k, e1, e2, _⟩ := DataW.trod_int Tryz.underlying205 hi'
  have e3 : (xs.map (·.1))[i]? = some (DataW.lit (.int .u32 k)) := by
    rw [List.getElem?_map, List.getElem?_eq_getElem hxl]
    simp [e2]
  rw [← hx1.1] at e3
  have hk : k = quarterN i := by
    match i, hi with
    | 0, _ => simpa [quarterN] using e3.symm
    | 1, _ => simpa [quarterN] using e3.symm
    | 2, _ => simpa [quarterN] using e3.symm
    | 3, _ => simpa [quarterN] using e3.symm
  have e4 := World.var?_cell hg0 hv0 i
  have e5 : cs0.toList[i]? = some (.int .u32 k) := by
    have := congrArg (fun l => l[0]?) e1
    simpa [List.getElem?_take] using this
  rw [Array.getElem?_toList, hk] at e5
  rw [← e5, ← e4]
end Go.Proofs.YtmjnnbnbdcadbaaGreatDoor
/- What the laws' cards share. -/
namespace Go.Proofs.YtmjnnbnbdcadbaaGreatDoor
open Go.ChangeShapes Go.WideShapes Go.ChangeAt Go.RowKit HP
set_option linter.unusedVariables false

theorem old_carry {E : Env} {W w : World} (h : Sat E w (HP.old W)) : ∀ k, k < W.heap.size → w.heap[k]? = W.heap[k]? := fun k hk => Sat.old_block (p := HP.emp) (by rw [HP.mul_emp]; exact h) k hk
theorem quarter_old {E : Env} {W w : World} (hQ : Quarter W) (h : Sat E w (HP.old W)) : Quarter w := fun i hi => by
  rw [World.cell?_of_block (w := W) (old_carry h _ (World.block_lt_of_cell? W _ (hQ i hi)))]
  exact hQ i hi
theorem trodAll_five {H : Type} {enc : TypeId × Value → H} {P : Program} {w : World} {base : Nat} {spare : Nat → Bool} {held : Bool} {t t' t'' t3 t4 : TypeId} {args : Array Value} {ds : List (DataW H)} {ps : List MemPlace} (h : DataW.TrodAll enc P w base spare held [t, t', t'', t3, t4] args.toList ds ps) :
    ∃ v v' v'' v3 v4 d d' d'' d3 d4 p p' p'' p3 p4, args = #[v, v', v'', v3, v4] ∧ ds = [d, d', d'', d3, d4] ∧ ps = p ++ p' ++ p'' ++ p3 ++ p4 ∧ DataW.Trod enc P w base spare held t v d p ∧ DataW.Trod enc P w base spare held t' v' d' p' ∧ DataW.Trod enc P w base spare held t'' v'' d'' p'' ∧ DataW.Trod enc P w base spare held t3 v3 d3 p3 ∧ DataW.Trod enc P w base spare held t4 v4 d4 p4 := by
  obtain ⟨v, vs, d, ds', p, q, hargs, rfl, rfl, hd, hrest⟩ := trodAll_cons h
  obtain ⟨v', vs', d', ds'', p', q', rfl, rfl, rfl, hd', hrest'⟩ := trodAll_cons hrest
  obtain ⟨v'', vs'', d'', ds''', p'', q'', rfl, rfl, rfl, hd'', hrest''⟩ := trodAll_cons hrest'
  obtain ⟨v3, vs3, d3, ds3, p3, q3, rfl, rfl, rfl, hd3, hrest3⟩ := trodAll_cons hrest''
  obtain ⟨v4, vs4, d4, ds4, p4, q4, rfl, rfl, rfl, hd4, hrest4⟩ := trodAll_cons hrest3
  obtain ⟨rfl, rfl, rfl⟩ := trodAll_nil hrest4
  exact ⟨v, v', v'', v3, v4, d, d', d'', d3, d4, p, p', p'', p3, p4, by cases args; simp_all, rfl, by simp, hd, hd', hd'', hd3, hd4⟩
theorem rdB_at : (rdSl (rdInt .u8)).At Tryz.prog 34 := rdSl_at (n := 1) Tryz.underlying34 (by kernel_rfl) (rdInt_at Tryz.underlying5)
end Go.Proofs.YtmjnnbnbdcadbaaGreatDoor
/- An anchor as an argument. -/
namespace Go.Proofs.YtmjnnbnbdcadbaaGreatDoor
open Go.ChangeShapes Go.WideShapes Go.ChangeAt Go.RowKit HP
set_option linter.unusedVariables false

def rdAnch : Rd Anch := rdMap (rdPair (rdInt .i64) (rdPair (rdInt .i64) (rdPair (rdInt .i64) (rdPair (rdInt .i64) (rdPair (rdInt .i64) (rdPair (rdInt .i64) (rdPair (rdInt .i64) (rdPair (rdInt .i64) (rdPair (rdInt .i64) (rdPair (rdInt .i64) rdEnd)))))))))) (fun x => (⟨x.1, x.2.1, x.2.2.1, x.2.2.2.1, x.2.2.2.2.1, x.2.2.2.2.2.1, x.2.2.2.2.2.2.1, x.2.2.2.2.2.2.2.1, x.2.2.2.2.2.2.2.2.1, x.2.2.2.2.2.2.2.2.2.1⟩ : Anch)) (fun s => (s.seq, s.gen, s.lsn, s.seg, s.ext, s.flo, s.new, s.keep, s.next, s.cur, ())) (fun a => rfl)
theorem rdAnch_at : rdAnch.At Tryz.prog 29 :=
  rdStruct_at Tryz.underlying29 (total := 1 + (1 + (1 + (1 + (1 + (1 + (1 + (1 + (1 + (1 + 0)))))))))) (by kernel_rfl) (rdPair_fs rfl (by kernel_rfl) (rdInt_at Tryz.underlying3) (rdPair_fs rfl (by kernel_rfl) (rdInt_at Tryz.underlying3) (rdPair_fs rfl (by kernel_rfl) (rdInt_at Tryz.underlying3) (rdPair_fs rfl (by kernel_rfl) (rdInt_at Tryz.underlying3) (rdPair_fs rfl (by kernel_rfl) (rdInt_at Tryz.underlying3) (rdPair_fs rfl (by kernel_rfl) (rdInt_at Tryz.underlying3) (rdPair_fs rfl (by kernel_rfl) (rdInt_at Tryz.underlying3) (rdPair_fs rfl (by kernel_rfl) (rdInt_at Tryz.underlying3) (rdPair_fs rfl (by kernel_rfl) (rdInt_at Tryz.underlying3) (rdPair_fs rfl (by kernel_rfl) (rdInt_at Tryz.underlying3) (rdEnd_fs _))))))))))) _ _ _
theorem anch_ok {W : World} {a : Anch} (h : rdAnch.ok W a) : a.Ok := by
  obtain ⟨h0, h1, h2, h3, h4, h5, h6, h7, h8, h9, -⟩ := h
  exact ⟨wf64_of h0, wf64_of h1, wf64_of h2, wf64_of h3, wf64_of h4, wf64_of h5, wf64_of h6, wf64_of h7, wf64_of h8, wf64_of h9⟩
end Go.Proofs.YtmjnnbnbdcadbaaGreatDoor
