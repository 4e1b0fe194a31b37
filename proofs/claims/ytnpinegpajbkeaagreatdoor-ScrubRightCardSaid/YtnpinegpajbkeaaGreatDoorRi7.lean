/- Texts of one claim, one behind the other: StAt, StPa, StMe, Trm, StF, StMf, MendP, PairM, AnchA, EqB, CopP. -/
import Derived.Test.YtnpinegpajbkeaaGreatDoorRi6
import Derived.Test.YtnpinegpajbkeaaGreatDoorProg
import Derived.BigQuiet
import Derived.Deep.QuietTactic
import Derived.Deep.Draws
set_option linter.unusedSimpArgs false
set_option linter.unusedVariables false
namespace Go.Proofs.YtnpinegpajbkeaaGreatDoor
open Go.RowKit HP
def atP (A : Dk) (x : ByteArray) (gen i : Int) (k : Nat) : List Int × Bool := if (slotOf A x gen i k).2 = true then ((slotOf A x gen i k).1, true) else (slotZ, false)
set_option maxHeartbeats 4000000 in
set_option maxRecDepth 100000 in
theorem stripe_at_plain (E : Env) (q : HP) (b : Nat) (A : Dk) (x : ByteArray) (gen i : Int) (G : List Int) (R : List Bool) (n k : Nat) (w : World) (hk : k < 4) (hG : Looked A x gen i 4 G R n) (hp : (slotOf A x gen i k).2 = true ∨ 1 < n) (hw : Sat E w (HP.pt b (.cells (gCells G R n).toArray 115) * q)) :
    Calls Tryz.prog 71 #[.pointer (some ⟨b, 0, none⟩), .int .i64 k] w fun e w' => e = .returned (.tuple #[.agg (b8s (atP A x gen i k).1).toArray, .bool (atP A x gen i k).2]) ∧ Sat E w' (HP.pt b (.cells (gCells G R n).toArray 115) * q) := by
  have h0 := hw.alloc (.cells Tryz.zeroCells100 100)
  have g1 : (w.alloc (.cells Tryz.zeroCells100 100)).cell? ⟨b, 424 + k, none⟩ = some (.bool (slotOf A x gen i k).2) := by
    rw [h0.s2.cell (424 + k)]
    exact gCells_right hG.len (hG.right k hk)
  have g2 : (w.alloc (.cells Tryz.zeroCells100 100)).cell? ⟨b, 428, none⟩ = some (.int .i64 n) := by
    rw [h0.s2.cell 428]
    exact gCells_bad n hG.len hG.rlen
  have hk2 : (k : Int) < 4 := by omega
  obtain ⟨Z, hZ⟩ : ∃ Z, Z = Tryz.zeroCells100 := ⟨_, rfl⟩
  have HZ : Aside (Z = (b8s slotZ).toArray) := ⟨by rw [hZ]; exact zero_slot.symm⟩
  have HZ9 := Aside.mk hZ
  rw [← hZ] at h0 g1 g2
  have h1 := h0
  rw [HZ.out] at h1
  have hSl : (slotOf A x gen i k).1.length = 106 := readS_length _ _ _ _ _
  by_cases hr : (slotOf A x gen i k).2 = true
  · have HT : Aside (atP A x gen i k = ((slotOf A x gen i k).1, true)) := ⟨by unfold atP; rw [if_pos hr]⟩
    rw [hr] at g1
    obtain ⟨w4, hr4, h4⟩ := run_store_slot (Z := slotZ) (S := (slotOf A x gen i k).1) (List.length_replicate ..) hSl h1
    have rl4 := run_load_slot hSl h4
    have rl : (loadVar 100 ⟨b, k * 106, none⟩).run Tryz.prog (w.alloc (.cells Z 100)) = .ok (.agg (b8s (slotOf A x gen i k).1).toArray) (w.alloc (.cells Z 100)) := run_loadAgg (P := Tryz.prog) agSlot (by rw [b8s_length]; exact hSl) (Sat.ptCells (off := k * 106) (l := b8s (slotOf A x gen i k).1) h0.s2 (by rw [b8s_length, hSl, Nat.mul_comm k 106, ← hG.slot k hk]; exact gCells_sec hG.len hk))
    rw [← HZ.out, HZ9.out] at hr4
    rw [HZ9.out] at g1 rl
    have H4 := Aside.mk h4.right
    clear h0 h1 h4 hG hp hw hr hSl g2
    generalize (slotOf A x gen i k).1 = S at *
    go_enter Tryz.func71, Tryz.ntmps71
    go_wp2_with (first | (refine wpList_load_run rfl rfl rfl rl ?_) | (refine wpList_store_run rfl rfl rfl rfl rfl hr4 ?_))
    refine bodyPost_ret (results_ct rfl rfl rl4) rfl ?_
    rw [HT.out]
    exact ⟨rfl, H4.out⟩
  · have HT : Aside (atP A x gen i k = (slotZ, false)) := ⟨by unfold atP; rw [if_neg hr]⟩
    have hn : 1 < n := by
      rcases hp with hp | hp
      · exact absurd hp hr
      · exact hp
    rw [Bool.not_eq_true] at hr
    rw [hr] at g1
    have hn2 : (1 : Int) < (n : Int) := by omega
    obtain ⟨w4, hr4, h4⟩ := run_store_slot (Z := slotZ) (S := slotZ) (List.length_replicate ..) (List.length_replicate ..) h1
    have rl4 := run_load_slot (S := slotZ) (List.length_replicate ..) h4
    rw [← HZ.out, HZ9.out] at hr4
    have H4 := Aside.mk h4.right
    clear h0 h1 h4 hG hp hw hr hSl
    rw [HZ9.out] at g1 g2
    go_enter Tryz.func71, Tryz.ntmps71
    go_wp2_with (first | (refine wpList_store_run rfl rfl rfl rfl rfl hr4 ?_))
    refine bodyPost_ret (results_ct rfl rfl rl4) rfl ?_
    rw [HT.out]
    exact ⟨rfl, H4.out⟩
def partEnd (E : Env) (q : HP) (r : Option (List Int)) (e : Ending) (w' : World) : Prop :=
  match r with
  | none => e = .returned (.tuple #[.slice none 0 0, .int .i64 50]) ∧ Sat E w' q
  | some l => ∃ v, e = .returned (.tuple #[v, .int .i64 0]) ∧ Sat E w' (HP.row 5 1 v l.length (b8s l) * q)
structure AtOk (E : Env) (A : Dk) (x : ByteArray) (gen : Int) (at_ : Nat → Nat → List Int × Bool) : Prop where
  call : ∀ (q' : HP) (b : Nat) (G : List Int) (R : List Bool) (n i k : Nat) (w : World), k < 3 → Looked A x gen (i : Int) 4 G R n → Sat E w (HP.pt b (.cells (gCells G R n).toArray 115) * q') →
    Calls Tryz.prog 71 #[.pointer (some ⟨b, 0, none⟩), .int .i64 k] w fun e w' => e = .returned (.tuple #[.agg (b8s (at_ i k).1).toArray, .bool (at_ i k).2]) ∧ Sat E w' (HP.pt b (.cells (gCells G R n).toArray 115) * q')
  len : ∀ i k, (at_ i k).1.length = 106
  bytes : ∀ i k, k < 3 → Bytes (at_ i k).1
theorem run_store_grp {E : Env} {q : HP} {w : World} {g : Nat} {G : List Int} {R : List Bool} {n : Nat} (hG : G.length = 424) (hR : R.length = 4) (h : Sat E w (HP.pt g (.cells Tryz.zeroCells115 115) * q)) :
    ∃ w', (storeVar 115 ⟨g, 0, none⟩ (.agg (gCells G R n).toArray)).run Tryz.prog w = .ok () w' ∧ Sat E w' (HP.pt g (.cells (gCells G R n).toArray 115) * q) := by
  rw [← zero_grp] at h
  have hr2 := run_storeAgg agGrp (g := g) (off := 0) (cs := gCells G R n) h.get (gCells_length n hG hR) (by rw [List.size_toArray, gCells_length 0 (List.length_replicate ..) (List.length_replicate ..)]; exact Nat.le_refl _) (gCells_one G R n)
  have h3 := h.splice (splice (gCells (List.replicate 424 0) (List.replicate 4 false) 0).toArray.toList 0 (gCells G R n))
  have e3 : splice (gCells (List.replicate 424 0) (List.replicate 4 false) 0).toArray.toList 0 (gCells G R n) = gCells G R n := by
    unfold splice
    rw [List.take_zero, List.nil_append, Nat.zero_add, List.drop_of_length_le (by rw [show (gCells (List.replicate 424 0) (List.replicate 4 false) 0).toArray.toList.length = 429 from gCells_length 0 (List.length_replicate ..) (List.length_replicate ..), gCells_length n hG hR]; exact Nat.le_refl _), List.append_nil]
  rw [e3] at h3 hr2
  exact ⟨_, hr2, h3⟩
theorem run_store_zero {E : Env} {q : HP} {w : World} {g : Nat} {S : List Int} (hS : S.length = 106) (h : Sat E w (HP.pt g (.cells Tryz.zeroCells100 100) * q)) :
    ∃ w', (storeVar 100 ⟨g, 0, none⟩ (.agg (b8s S).toArray)).run Tryz.prog w = .ok () w' ∧ Sat E w' (HP.pt g (.cells (b8s S).toArray 100) * q) := by
  rw [← zero_slot] at h
  exact run_store_slot (List.length_replicate ..) hS h
theorem badN_right {A : Dk} {x : ByteArray} {gen i : Int} : ∀ k, (∀ j, j < k → (slotOf A x gen i j).2 = true) → badN A x gen i k = 0
  | 0, _ => rfl
  | k + 1, h => by
    rw [badN, badN_right k (fun j hj => h j (by omega)), h k (by omega)]
    rfl
def sliceLenT : Value → Nat
  | .slice _ n _ => n
  | _ => 0
set_option maxHeartbeats 1000000 in
set_option maxRecDepth 100000 in
theorem trimR_ok (E : Env) (q : HP) (g o : Nat) (l : List Int) (n c : Nat) (w : World) (hl : l.length = n) (hnc : n ≤ c) (hcm : c ≤ 1000000) (hq : ∀ w, Sat E w q → Cells w (some ⟨g, o, none⟩) (b8s l)) (hw : Sat E w q) :
    Calls Tryz.prog 146 #[.slice (some ⟨g, o, none⟩) n c, .int .u8 0] w fun e w' => (∃ m, e = .returned (.slice (some ⟨g, o, none⟩) m c) ∧ m ≤ n ∧ (∀ j, m ≤ j → j < n → l[j]? = some 0) ∧ (0 < m → l[m - 1]? ≠ some 0)) ∧ Sat E w' q := by
  have HQ := Aside.mk (And.intro hq (And.intro hw hl))
  clear hq hw hl
  go_enter Tryz.func146, Tryz.ntmps146
  go_wp2
  go_loopw [0] (fun v0 wr => ∃ m : Nat, v0 = .slice (some ⟨g, o, none⟩) m c ∧ m ≤ n ∧ Aside (∀ j, m ≤ j → j < n → l[j]? = some 0) ∧ Aside (Sat E wr q)) (fun v _ => sliceLenT v)
  case atStart => exact ⟨n, rfl, Nat.le_refl _, ⟨fun j h1 h2 => by omega⟩, ⟨HQ.out.2.1⟩⟩
  case round =>
    obtain ⟨m, rfl, hm, HZ, HS⟩ := hrel
    rcases Nat.eq_zero_or_pos m with h0 | h0
    · subst h0
      go_wp2
      go_ret
      exact ⟨⟨0, rfl, Nat.zero_le _, HZ.out, fun h => absurd h (Nat.lt_irrefl _)⟩, HS.out⟩
    · obtain ⟨k, rfl⟩ : ∃ k, m = k + 1 := ⟨m - 1, by omega⟩
      have hkl : k < l.length := by rw [HQ.out.2.2]; omega
      have hx := List.getElem?_eq_getElem hkl
      obtain ⟨x, hxe⟩ : ∃ x, x = l[k] := ⟨_, rfl⟩
      rw [← hxe] at hx
      clear hxe hkl
      have hc : wr.cell? ⟨g, o + k, none⟩ = some (.int .u8 x) := by
        have := (HQ.out.1 _ HS.out).some_ k (.int .u8 x) (by unfold b8s; rw [List.getElem?_map, hx]; rfl)
        rwa [addr_add] at this
      have HX := Aside.mk hx
      have hk1 : k + 1 ≤ c := by omega
      have hk2 : (0 : Int) ≤ (k : Int) := by omega
      have hk3 : (k : Int) < (k : Int) + 1 := by omega
      clear hx
      by_cases hz : x = 0
      · subst hz
        have HZ2 : Aside (∀ j, k ≤ j → j < n → l[j]? = some 0) := ⟨fun j h1 h2 => by
          rcases Nat.eq_or_lt_of_le h1 with e | e
          · subst e; exact HX.out
          · exact HZ.out j e h2⟩
        clear HZ
        go_wp2
        go_roundw
        case rel => exact ⟨k, rfl, by omega, HZ2, HS⟩
        case measure => simp [sliceLenT]
      · go_wp2
        go_ret
        exact ⟨⟨k + 1, rfl, hm, HZ.out, fun _ h => hz (by have := HX.out.symm.trans h; simpa using this)⟩, HS.out⟩
set_option maxHeartbeats 1000000 in
set_option maxRecDepth 100000 in
theorem trimL_ok (E : Env) (q : HP) (g o : Nat) (l : List Int) (n m c : Nat) (w : World) (hl : l.length = n) (hmn : m ≤ n) (hmc : m ≤ c) (hcm : c ≤ 1000000) (hlast : 0 < m → l[m - 1]? ≠ some 0) (hq : ∀ w, Sat E w q → Cells w (some ⟨g, o, none⟩) (b8s l)) (hw : Sat E w q) :
    Calls Tryz.prog 145 #[.slice (some ⟨g, o, none⟩) m c, .int .u8 0] w fun e w' => (∃ A r d, e = .returned (.slice A r d) ∧ (r = 0 ↔ m = 0)) ∧ Sat E w' q := by
  have HQ := Aside.mk (And.intro hq (And.intro hw (And.intro hl hlast)))
  clear hq hw hl hlast
  go_enter Tryz.func145, Tryz.ntmps145
  rcases Nat.eq_zero_or_pos m with h0 | h0
  · subst h0
    go_wp2
    go_loopw [0] (fun v0 wr => v0 = .slice (some ⟨g, o, none⟩) 0 c ∧ Aside (Sat E wr q)) (fun v _ => 0)
    case atStart => exact ⟨rfl, ⟨HQ.out.2.1⟩⟩
    case round =>
      obtain ⟨rfl, HS⟩ := hrel
      go_wp2
      go_ret
      first | exact ⟨⟨none, 0, rfl⟩, HS.out⟩ | exact ⟨⟨none, 0, 0, rfl, Iff.rfl⟩, HS.out⟩
  · go_wp2
    go_loopw [0] (fun v0 wr => ∃ i r d : Nat, v0 = .slice (some ⟨g, o + i, none⟩) r d ∧ r ≤ d ∧ d ≤ c ∧ 0 < r ∧ Aside (r + i = m) ∧ Aside (Sat E wr q)) (fun v _ => sliceLenT v)
    case atStart => exact ⟨0, m, c, rfl, hmc, Nat.le_refl _, h0, ⟨rfl⟩, ⟨HQ.out.2.1⟩⟩
    case round =>
      obtain ⟨i, r, d, rfl, hrd, hdc, hr0, HI, HS⟩ := hrel
      have hil : i < l.length := by rw [HQ.out.2.2.1]; have := HI.out; omega
      have hx := List.getElem?_eq_getElem hil
      obtain ⟨x, hxe⟩ : ∃ x, x = l[i] := ⟨_, rfl⟩
      rw [← hxe] at hx
      clear hxe hil
      have hc : wr.cell? ⟨g, o + i, none⟩ = some (.int .u8 x) := by
        have := (HQ.out.1 _ HS.out).some_ i (.int .u8 x) (by unfold b8s; rw [List.getElem?_map, hx]; rfl)
        rwa [addr_add] at this
      have HX := Aside.mk hx
      have hr1 : (0 : Int) < (r : Int) := by omega
      clear hx
      by_cases hz : x = 0
      · subst hz
        have hr2 : 2 ≤ r := by
          rcases Nat.lt_or_ge r 2 with h | h
          · have hm1 : m - 1 = i := by have := HI.out; omega
            exact absurd (by rw [hm1]; exact HX.out) (HQ.out.2.2.2 h0)
          · exact h
        obtain ⟨s, rfl⟩ : ∃ s, r = s + 1 := ⟨r - 1, by omega⟩
        obtain ⟨e, rfl⟩ : ∃ e, d = e + 1 := ⟨d - 1, by omega⟩
        have he0 : ¬ e = 0 := by omega
        have he1 : ¬ e + 1 = 1 := by omega
        have hI2 : Aside (s + (i + 1) = m) := ⟨by have := HI.out; omega⟩
        clear HI
        go_wp2
        go_roundw
        case rel => exact ⟨i + 1, s, e, by congr 1, by omega, by omega, by omega, hI2, HS⟩
        case measure => simp [sliceLenT]
      · have hr3 : ¬ (r : Int) = 0 := by omega
        go_wp2
        go_ret
        exact ⟨⟨_, _, _, rfl, by omega⟩, HS.out⟩
set_option maxHeartbeats 1000000 in
set_option maxRecDepth 100000 in
theorem trim0_ok (E : Env) (q : HP) (g o : Nat) (l : List Int) (n c : Nat) (w : World) (hl : l.length = n) (hnc : n ≤ c) (hcm : c ≤ 1000000) (hq : ∀ w, Sat E w q → Cells w (some ⟨g, o, none⟩) (b8s l)) (hw : Sat E w q) :
    Calls Tryz.prog 121 #[.slice (some ⟨g, o, none⟩) n c, .string ⟨#[0]⟩] w fun e w' => (∃ A r d, e = .returned (.slice A r d) ∧ (r = 0 ↔ ∀ x ∈ l, x = 0)) ∧ Sat E w' q := by
  have HQ := Aside.mk (And.intro hq (And.intro hw hl))
  clear hq hw hl
  go_enter Tryz.func121, Tryz.ntmps121
  rcases Nat.eq_zero_or_pos n with h0 | h0
  · subst h0
    go_wp2
    go_ret
    refine ⟨⟨_, _, _, rfl, ?_⟩, HQ.out.2.1⟩
    have : l = [] := List.eq_nil_of_length_eq_zero HQ.out.2.2
    simp [this]
  · have hn0 : ¬ (n : Int) = 0 := by omega
    have hneq : ¬ (⟨#[0]⟩ : ByteArray) = ⟨#[]⟩ := by decide
    go_wp2
    refine region_R [3, 6] [] (fun _ => True) #[false, false, false, false, false, false, false, false] (by kernel_rfl) rfl rfl ?_
    refine wpR_rd 0 #[true, false, false, false, false, false, false, false] rfl onlyN_noPanic (by kernel_rfl) (fun K hK => ?_); (go_simp; try go_bits); refine hK _ ?_; clear hK K
    refine wpR_rd 1 #[true, true, false, false, false, false, false, false] rfl onlyN_noPanic (by kernel_rfl) (fun K hK => ?_); (go_simp; try go_bits); refine hK _ ?_; clear hK K
    refine wpR_rd 2 #[true, true, true, false, false, false, false, false] rfl onlyN_noPanic (by kernel_rfl) (fun K hK => ?_); (go_simp; try go_bits); refine hK _ ?_; clear hK K
    refine wpR_pu 4 #[true, true, true, false, true, false, false, false] rfl onlyN_noPanic (by kernel_rfl) (fun K hK => ?_); (go_simp; try go_bits); refine hK _ ?_; clear hK K
    refine wpR_pu 5 #[true, true, true, false, true, true, false, false] rfl onlyN_noPanic (by kernel_rfl) (fun K hK => ?_); (go_simp; try go_bits); refine hK _ ?_; clear hK K
    refine wpR_eff #[true, true, true, true, true, true, false, false] (i := 3) rfl (by kernel_rfl) (fun K hK => ?_)
    go_simp
    refine (trimR_ok E q g o l n c _ HQ.out.2.2 hnc hcm HQ.out.1 HQ.out.2.1.drew).mono ?_
    rintro e w1 ⟨⟨m, rfl, hmn, hz, hlast⟩, h1⟩
    refine hK _ _ ?_
    clear hK K
    refine wpR_eff #[true, true, true, true, true, true, true, false] (i := 6) rfl (by kernel_rfl) (fun K hK => ?_)
    go_simp
    refine (trimL_ok E q g o l n m c _ HQ.out.2.2 hmn (by omega) hcm hlast HQ.out.1 h1).mono ?_
    rintro e w2 ⟨⟨A, r, d, rfl, hrm⟩, h2⟩
    have HR : Aside (r = 0 ↔ ∀ x ∈ l, x = 0) := ⟨by
      rw [hrm]
      constructor
      · intro h x hx
        obtain ⟨j, hj⟩ := List.getElem?_of_mem hx
        have hjl := (List.getElem?_eq_some_iff.1 hj).1
        have := hz j (by omega) (by rw [← HQ.out.2.2]; exact hjl)
        rw [this] at hj
        exact (Option.some.inj hj).symm
      · intro h
        rcases Nat.eq_zero_or_pos m with e | e
        · exact e
        · have hml : m - 1 < l.length := by rw [HQ.out.2.2]; omega
          have h3 := List.getElem?_eq_getElem hml
          rw [h _ (List.getElem_mem hml)] at h3
          exact absurd h3 (hlast e)⟩
    have H2 := Aside.mk h2
    refine hK _ _ ?_
    clear hK K h1 h2 hrm hz hlast
    refine wpR_rd 7 #[true, true, true, true, true, true, true, true] rfl onlyN_noPanic (by kernel_rfl) (fun K hK => ?_); (go_simp; try go_bits); refine hK _ ?_; clear hK K
    refine wpR_done (by kernel_rfl) ?_ _
    simp only [OnlyN]
    go_wp2
    go_ret
    exact ⟨⟨A, r, d, rfl, HR.out⟩, H2.out⟩
theorem run_index_four (w : World) (G : List Int) (k : Nat) (h : G.length = 424) (hk : k < 4) : (Instr.index 102 (.agg (b8s G).toArray) (.int .i64 (k : Int))).run Tryz.prog w = .ok (.agg (b8s (sec G k)).toArray) w := by
  have e0 : (0 : Int) ≤ (k : Int) ∧ (k : Int) < 4 := by omega
  have e6 : (sizeOf 100).run Tryz.prog w = .ok 106 w := by kernel_rfl
  have e7 : (isAgg 100).run Tryz.prog w = .ok true w := by kernel_rfl
  have e8 : List.take 106 (List.drop (k * 106) (b8s G)) = b8s (sec G k) := by
    unfold sec b8s
    rw [List.map_take, List.map_drop, Nat.mul_comm]
  simp [Instr.index, run_underlying Tryz.underlying102, asIntOf, e0, e6, e7, e8, hk, part]
theorem agFourS : AgTy Tryz.prog 102 424 := ⟨⟨_, Tryz.underlying102, rfl⟩, by kernel_rfl⟩
theorem run_slot_from (w : World) (b s0 : Nat) (h : s0 ≤ 105) : (Instr.sliceAt 100 (.pointer (some ⟨b, 0, none⟩)) (some (.int .i64 (1 + (s0 : Int)))) none none).run Tryz.prog w = .ok (.slice (some ⟨b, (if s0 = 105 then 0 else 1 + s0), none⟩) (105 - s0) (105 - s0)) w := by
  have f2 : 0 ≤ 1 + (s0 : Int) ∧ 1 + (s0 : Int) ≤ 106 := by omega
  have e6 : (sizeOf 5).run Tryz.prog w = .ok 1 w := by kernel_rfl
  have e10 : max (1 + (s0 : Int)) 0 = 1 + (s0 : Int) := by omega
  have e11 : (1 + (s0 : Int)).toNat = 1 + s0 := by omega
  have e12 : 106 - (1 + s0) = 105 - s0 := by omega
  by_cases h5 : s0 = 105
  · subst h5
    simp [Instr.sliceAt, run_underlying Tryz.underlying100, Instr.sureAddr, Instr.sliceBounds, Instr.sliceBound, asIntOf, e6]
  · have e5 : ¬ 106 = 1 + s0 := by omega
    simp [Instr.sliceAt, run_underlying Tryz.underlying100, Instr.sureAddr, Instr.sliceBounds, Instr.sliceBound, asIntOf, f2, e5, e6, e10, e11, e12, h5, Addr.add_lit]
theorem run_slotC {E : Env} {q : HP} {w : World} {g : Nat} {S : List Int} {C : Array Value} (hC : C = (b8s S).toArray) (hS : S.length = 106) (h : Sat E w (HP.pt g (.cells C 100) * q)) : (loadVar 100 ⟨g, 0, none⟩).run Tryz.prog w = .ok (.agg C) w := by
  subst hC
  exact run_load_slot hS h
theorem run_storeC {E : Env} {q : HP} {w : World} {g : Nat} {Z S : List Int} {C : Array Value} (hC : C = (b8s S).toArray) (hS : S.length = 106) (hZ : Z.length = 106) (h : Sat E w (HP.pt g (.cells (b8s Z).toArray 100) * q)) :
    ∃ w', (storeVar 100 ⟨g, 0, none⟩ (.agg C)).run Tryz.prog w = .ok () w' ∧ Sat E w' (HP.pt g (.cells C 100) * q) := by
  subst hC
  exact run_store_slot hZ hS h
set_option maxHeartbeats 8000000 in
set_option maxRecDepth 100000 in
theorem stripe_at (E : Env) (q : HP) (b : Nat) (A : Dk) (x : ByteArray) (gen i : Int) (G : List Int) (R : List Bool) (n k : Nat) (w : World) (hk : k < 4) (hG : Looked A x gen i 4 G R n) (hby : ∀ j, j < 4 → Bytes (slotsL A x gen i j)) (hw : Sat E w (HP.pt b (.cells (gCells G R n).toArray 115) * q)) :
    Calls Tryz.prog 71 #[.pointer (some ⟨b, 0, none⟩), .int .i64 k] w fun e w' => e = .returned (.tuple #[.agg (b8s (atF A x gen i k).1).toArray, .bool (atF A x gen i k).2]) ∧ Sat E w' (HP.pt b (.cells (gCells G R n).toArray 115) * q) := by
  by_cases hp : (slotOf A x gen i k).2 = true ∨ 1 < n
  · have e : atF A x gen i k = atP A x gen i k := by
      unfold atF atP
      by_cases h : (slotOf A x gen i k).2 = true
      · rw [if_pos h, if_pos h]
      · rw [if_neg h, if_neg h, if_pos (by rw [← hG.bad]; exact hp.resolve_left h)]
    rw [e]
    exact stripe_at_plain E q b A x gen i G R n k w hk hG hp hw
  have hr : (slotOf A x gen i k).2 = false := by rw [← Bool.not_eq_true]; exact fun h => hp (.inl h)
  have hn : ¬ 1 < n := fun h => hp (.inr h)
  clear hp
  have HAT : Aside (atF A x gen i k = (missP A x gen i k, decide (k = 3) || fineS (missP A x gen i k))) := ⟨by
    unfold atF
    rw [if_neg (by rw [hr]; decide), if_neg (by rw [← hG.bad]; exact hn)]⟩
  have h0 := hw.alloc (.cells Tryz.zeroCells100 100)
  have g1 : (w.alloc (.cells Tryz.zeroCells100 100)).cell? ⟨b, 424 + k, none⟩ = some (.bool false) := by
    rw [h0.s2.cell (424 + k), ← hr]
    exact gCells_right hG.len (hG.right k hk)
  have g2 : (w.alloc (.cells Tryz.zeroCells100 100)).cell? ⟨b, 428, none⟩ = some (.int .i64 n) := by
    rw [h0.s2.cell 428]
    exact gCells_bad n hG.len hG.rlen
  have hk2 : (k : Int) < 4 := by omega
  have hn2 : ¬ (1 : Int) < (n : Int) := by omega
  have h1 := h0.alloc (.cells Tryz.zeroCells100 100)
  rw [show (w.alloc (.cells Tryz.zeroCells100 100)).heap.size = w.heap.size + 1 by simp] at h1
  have ld4 : (loadVar 102 ⟨b, 0, none⟩).run Tryz.prog ((w.alloc (.cells Tryz.zeroCells100 100)).alloc (.cells Tryz.zeroCells100 100)) = .ok (.agg (b8s G).toArray) ((w.alloc (.cells Tryz.zeroCells100 100)).alloc (.cells Tryz.zeroCells100 100)) :=
    run_loadAgg (P := Tryz.prog) agFourS (by rw [b8s_length]; exact hG.len) (Sat.ptCells (off := 0) (l := b8s G) h1.s3 (by unfold gCells; rw [List.drop_zero, List.take_left]))
  obtain ⟨CG, hCG⟩ : ∃ CG, CG = (gCells G R n).toArray := ⟨_, rfl⟩
  rw [← hCG] at h1 ⊢
  obtain ⟨C4, hC4⟩ : ∃ C4, C4 = (b8s G).toArray := ⟨_, rfl⟩
  have HIX : Aside (∀ (w : World) (j : Nat), j < 4 → (Instr.index 102 (.agg C4) (.int .i64 (j : Int))).run Tryz.prog w = .ok (.agg (b8s (slotsL A x gen i j)).toArray) w) := ⟨fun w j hj => by rw [hC4, run_index_four w G j hG.len hj, hG.slot j hj]; rfl⟩
  rw [← hC4] at ld4
  obtain ⟨Z, hZ⟩ : ∃ Z, Z = Tryz.zeroCells100 := ⟨_, rfl⟩
  have HZ : Aside (Z = (b8s slotZ).toArray) := ⟨by rw [hZ]; exact zero_slot.symm⟩
  have HZ9 := Aside.mk hZ
  rw [← hZ] at h1
  have H1 : Aside (Sat E ((w.alloc (.cells Z 100)).alloc (.cells Z 100)) (HP.pt (w.heap.size + 1) (.cells (b8s (xorO (slotsL A x gen i) k 0)).toArray 100) * (HP.pt w.heap.size (.cells Z 100) * (HP.pt b (.cells CG 115) * q)))) := ⟨by
    show Sat E _ (HP.pt (w.heap.size + 1) (.cells (b8s slotZ).toArray 100) * _)
    rw [← HZ.out]
    exact h1⟩
  have HSLen : Aside (∀ j, (slotsL A x gen i j).length = 106) := ⟨slotsL_length A x gen i⟩
  have HBY := Aside.mk hby
  have HMS : Aside (missP A x gen i k = xorO (slotsL A x gen i) k 4) := ⟨rfl⟩
  generalize missP A x gen i k = M at *
  generalize slotsL A x gen i = SL at *
  clear hG hw h0 h1 hC4 hCG hr hn hby hZ
  rw [HZ9.out] at H1
  go_enter Tryz.func71, Tryz.ntmps71
  go_wp2_with (first | (refine wpList_load_run rfl rfl rfl ld4 ?_))
  rw [← HZ9.out] at H1
  clear g1 g2 ld4
  go_loopw [31] (fun v31 wr => ∃ j : Nat, j ≤ 4 ∧ v31 = .int .i64 j ∧ Aside (Sat E wr (HP.pt (w.heap.size + 1) (.cells (b8s (xorO SL k j)).toArray 100) * (HP.pt w.heap.size (.cells Z 100) * (HP.pt b (.cells CG 115) * q))))) (fun i _ => 4 - (intOf i).toNat)
  case atStart => exact ⟨0, by omega, rfl, ⟨by rw [← HZ9.out]; exact H1.out⟩⟩
  case round =>
    clear H1
    obtain ⟨j, hj, rfl, HS⟩ := hrel
    by_cases hlt : j < 4
    · have hlt2 : (j : Int) < 4 := by omega
      have ix := HIX.out wr j hlt
      have hL := HSLen.out j
      obtain ⟨w3, hr3, h3⟩ := run_store_slot (Z := slotZ) (S := SL j) (List.length_replicate ..) hL (by have h := HS.out.alloc (.cells (b8s slotZ).toArray 100); exact h)
      rw [← HZ.out] at hr3
      have ld3 := run_load_slot hL h3
      have hX := xorO_length HSLen.out k j
      have H3 := Aside.mk (And.intro h3 (And.intro hL hX))
      have HXS : Aside (xorO SL k (j + 1) = if j = k then xorO SL k j else zipX (xorO SL k j) (SL j)) := ⟨rfl⟩
      obtain ⟨X1, hX1⟩ : ∃ X1, X1 = xorO SL k (j + 1) := ⟨_, rfl⟩
      have HX1 := Aside.mk hX1
      rw [← hX1] at HXS
      clear hX1
      generalize xorO SL k j = X0 at *
      obtain ⟨CJ, hCJ⟩ : ∃ CJ, CJ = (b8s (SL j)).toArray := ⟨_, rfl⟩
      have HCJ := Aside.mk hCJ
      rw [← hCJ] at ix hr3 ld3
      rw [HZ9.out] at hr3
      clear h3 hL hX hCJ HS
      by_cases hjk : j = k
      · subst hjk
        rw [if_pos rfl] at HXS
        go_wp2_with (first | (refine wpList_store_run rfl rfl rfl rfl rfl hr3 ?_))
        go_roundw
        case rel => exact ⟨j + 1, by omega, by push_cast; rfl, ⟨by rw [← HX1.out, HXS.out]; exact H3.out.1.right⟩⟩
        case measure => simp [intOf]; omega
      · have hjk2 : ¬ (j : Int) = (k : Int) := by omega
        have hjk3 : ((j : Int) == (k : Int)) = false := by rw [beq_eq_false_iff_ne]; exact hjk2
        rw [if_neg hjk] at HXS
        go_wp2_with (first | (refine wpList_store_run rfl rfl rfl rfl rfl hr3 ?_) | (refine wpList_load_run rfl rfl rfl ld3 ?_))
        rw [HCJ.out]
        refine (stripe_mix E _ (w.heap.size + 1) 0 100 X0 (SL j) _ H3.out.2.1 (by rw [H3.out.2.2]; omega) H3.out.1.s2).mono ?_
        rintro e w5 ⟨rfl, h5⟩
        rw [mix_zip H3.out.2.2 H3.out.2.1, ← HXS.out, HX1.out] at h5
        have H5 := Aside.mk h5.drop2
        clear h5 hr3 ld3
        go_wp2
        go_roundw
        case rel => exact ⟨j + 1, by omega, by push_cast; rfl, H5⟩
        case measure => simp [intOf]; omega
    · obtain rfl : j = 4 := by omega
      have hML : (xorO SL k 4).length = 106 := xorO_length HSLen.out k 4
      have hMB : Bytes (xorO SL k 4) := by
        have h4 : xorO SL k 4 = xorO (fun j => if j < 4 then SL j else List.replicate 106 0) k 4 := xorO_ext k 4 fun j hj _ => by rw [if_pos hj]
        rw [h4]
        refine xorO_bytes (fun j => ?_) k 4
        split
        · rename_i h; exact HBY.out j h
        · exact fun x hx => by rw [List.eq_of_mem_replicate hx]; omega
      rw [← HMS.out] at HS hML hMB
      obtain ⟨S, hSe⟩ : ∃ S, S = M := ⟨_, rfl⟩
      rw [← hSe] at HS hML hMB HAT
      clear hSe HMS HBY HIX HSLen
      have HSL := Aside.mk hML
      obtain ⟨CS, hCS⟩ : ∃ CS, CS = (b8s S).toArray := ⟨_, rfl⟩
      have HCS := Aside.mk hCS
      rw [← hCS, HZ.out] at HS
      by_cases hk3 : k = 3
      · subst hk3
        have ld6 := run_slotC HCS.out HSL.out HS.out
        obtain ⟨w9, hr9, h9⟩ := run_storeC HCS.out HSL.out (List.length_replicate ..) (HS.out.perm (by ac_rfl : _ = HP.pt w.heap.size (.cells (b8s slotZ).toArray 100) * (HP.pt (w.heap.size + 1) (.cells CS 100) * (HP.pt b (.cells CG 115) * q))))
        have rl9 := run_slotC HCS.out HSL.out h9
        have H9 := Aside.mk h9.right.right
        clear h9 hML hMB hCS
        go_wp2_with (first | (refine wpList_load_run rfl rfl rfl ld6 ?_) | (refine wpList_store_run rfl rfl rfl rfl rfl hr9 ?_))
        refine bodyPost_ret (results_ct rfl rfl rl9) rfl ?_
        rw [HAT.out, HCS.out]
        exact ⟨rfl, H9.out⟩
      · have hk32 : ¬ (k : Int) = 3 := by omega
        have hk33 : ((k : Int) == 3) = false := by rw [beq_eq_false_iff_ne]; exact hk32
        have hx0 := getD_byte hMB 0
        have hhd : S.headD 0 = S.getD 0 0 := by cases S <;> rfl
        obtain ⟨s0, hs0⟩ : ∃ s0 : Nat, (s0 : Int) = S.getD 0 0 := ⟨(S.getD 0 0).toNat, by omega⟩
        have hs255 : s0 ≤ 255 := by omega
        have g8 : wr.drew.cell? ⟨(w.heap.size + 1), 0, none⟩ = some (.int .u8 (s0 : Int)) := by rw [HS.out.drew.cell 0, hCS, hs0]; exact b8s_getD (by omega)
        have HSD := Aside.mk HS.out.drew
        have HLD := Aside.mk (run_slotC HCS.out HSL.out HS.out.drew)
        have HFI : Aside (fineS S = (decide (s0 ≤ 105) && (S.drop (1 + s0)).all fun x => decide (x = 0))) := ⟨by
          unfold fineS
          rw [hhd, ← hs0, Int.toNat_natCast]
          congr 1
          exact decide_eq_decide.2 (by omega)⟩
        rw [decide_eq_false hk3, Bool.false_or] at HAT
        clear HS hML hMB hCS hx0 hhd hs0
        by_cases h105 : s0 ≤ 105
        · have h105b : (s0 : Int) ≤ 105 := by omega
          have hmin : (if (105 : Int) < (s0 : Int) then 105 else (s0 : Int)) = (s0 : Int) := by rw [if_neg (by omega)]
          obtain ⟨o2, ho2⟩ : ∃ o2, o2 = (if s0 = 105 then 0 else 1 + s0) := ⟨_, rfl⟩
          have sl := run_slot_from wr.drew (w.heap.size + 1) s0 h105
          rw [← ho2] at sl
          have HTL : Aside ((S.drop (1 + s0)).length = 105 - s0) := ⟨by rw [List.length_drop, HSL.out]; omega⟩
          have HTC : Aside (∀ W', Sat E W' (HP.pt (w.heap.size + 1) (.cells CS 100) * (HP.pt w.heap.size (.cells (b8s slotZ).toArray 100) * (HP.pt b (.cells CG 115) * q))) → Cells W' (some ⟨w.heap.size + 1, o2, none⟩) (b8s (S.drop (1 + s0)))) := ⟨fun W' h => by
            by_cases h5 : s0 = 105
            · rw [List.drop_of_length_le (by rw [HSL.out]; omega)]
              exact Cells.nil _ _
            · rw [ho2, if_neg h5]
              rw [HCS.out] at h
              exact Sat.ptCells (off := 1 + s0) (l := b8s (S.drop (1 + s0))) h (by unfold b8s; rw [List.length_map, ← List.map_drop, List.take_of_length_le (by rw [List.length_map]; exact Nat.le_refl _)])⟩
          clear ho2
          go_wp2
          refine region_R [12, 16] [12] (fun W => (loadVar 100 ⟨w.heap.size + 1, 0, none⟩).run Tryz.prog W = .ok (.agg CS) W) #[false, false, false, false, false, false, false, false, false, false, false, false, false, false, false, false, false, false] (by kernel_rfl) rfl rfl ?_
          refine wpR_held (i := 0) (v := .agg CS) #[true, false, false, false, false, false, false, false, false, false, false, false, false, false, false, false, false, false] rfl onlyN_noPanic (by kernel_rfl) HLD.out (.inl ⟨rfl, fun w' hT => exec_load rfl rfl hT⟩) ?_
          simp only [Act.put, List.setIfInBounds_toArray, List.set_cons_zero, List.set_cons_succ]
          refine wpR_rd 1 #[true, true, false, false, false, false, false, false, false, false, false, false, false, false, false, false, false, false] rfl onlyN_noPanic (by kernel_rfl) (fun K hK => ?_); (go_simp; try go_bits); refine hK _ ?_; clear hK K
          refine wpR_rd 2 #[true, true, true, false, false, false, false, false, false, false, false, false, false, false, false, false, false, false] rfl onlyN_noPanic (by kernel_rfl) (fun K hK => ?_); (go_simp; try go_bits); refine hK _ ?_; clear hK K
          refine wpR_rd 3 #[true, true, true, true, false, false, false, false, false, false, false, false, false, false, false, false, false, false] rfl onlyN_noPanic (by kernel_rfl) (fun K hK => ?_); (go_simp; try go_bits); refine hK _ ?_; clear hK K
          refine wpR_rd 4 #[true, true, true, true, true, false, false, false, false, false, false, false, false, false, false, false, false, false] rfl onlyN_noPanic (by kernel_rfl) (fun K hK => ?_); (go_simp; try go_bits); refine hK _ ?_; clear hK K
          refine wpR_rd 5 #[true, true, true, true, true, true, false, false, false, false, false, false, false, false, false, false, false, false] rfl onlyN_noPanic (by kernel_rfl) (fun K hK => ?_); (go_simp; try go_bits); refine hK _ ?_; clear hK K
          refine wpR_rd 6 #[true, true, true, true, true, true, true, false, false, false, false, false, false, false, false, false, false, false] rfl onlyN_noPanic (by kernel_rfl) (fun K hK => ?_); (go_simp; try go_bits); refine hK _ ?_; clear hK K
          refine wpR_rd 7 #[true, true, true, true, true, true, true, true, false, false, false, false, false, false, false, false, false, false] rfl onlyN_noPanic (by kernel_rfl) (fun K hK => ?_); (go_simp; try go_bits); refine hK _ ?_; clear hK K
          refine wpR_rd 8 #[true, true, true, true, true, true, true, true, true, false, false, false, false, false, false, false, false, false] rfl onlyN_noPanic (by kernel_rfl) (fun K hK => ?_); (go_simp; try go_bits); refine hK _ ?_; clear hK K
          refine wpR_rd 9 #[true, true, true, true, true, true, true, true, true, true, false, false, false, false, false, false, false, false] rfl onlyN_noPanic (by kernel_rfl) (fun K hK => ?_); (go_simp; try go_bits); refine hK _ ?_; clear hK K
          refine wpR_rd 10 #[true, true, true, true, true, true, true, true, true, true, true, false, false, false, false, false, false, false] rfl onlyN_noPanic (by kernel_rfl) (fun K hK => ?_); (go_simp; try go_bits); refine hK _ ?_; clear hK K
          refine wpR_rd 11 #[true, true, true, true, true, true, true, true, true, true, true, true, false, false, false, false, false, false] rfl onlyN_noPanic (by kernel_rfl) (fun K hK => ?_); (go_simp; try go_bits); refine hK _ ?_; clear hK K
          refine wpR_keep #[true, true, true, true, true, true, true, true, true, true, true, true, true, false, false, false, false, false] (i := 12) rfl (by kernel_rfl) (fun K hK => ?_)
          go_simp
          refine (trim0_ok E _ (w.heap.size + 1) o2 (S.drop (1 + s0)) (105 - s0) (105 - s0) _ HTL.out (Nat.le_refl _) (by omega) HTC.out HSD.out).mono ?_
          rintro e wt ⟨⟨At, rt, dt, rfl, hrt⟩, ht⟩
          have HRT := Aside.mk hrt
          have HT0 := Aside.mk ht
          refine hK _ _ (run_slotC HCS.out HSL.out ht) ?_
          clear hK K ht hrt g8 sl HSD
          rcases Nat.eq_zero_or_pos rt with hz | hz
          · subst hz
            refine wpR_pu 13 #[true, true, true, true, true, true, true, true, true, true, true, true, true, true, false, false, false, false] rfl onlyN_noPanic (by kernel_rfl) (fun K hK => ?_); (go_simp; try go_bits); refine hK _ ?_; clear hK K
            refine wpR_pu 14 #[true, true, true, true, true, true, true, true, true, true, true, true, true, true, true, false, false, false] rfl onlyN_noPanic (by kernel_rfl) (fun K hK => ?_); (go_simp; try go_bits); refine hK _ ?_; clear hK K
            refine wpR_pu 15 #[true, true, true, true, true, true, true, true, true, true, true, true, true, true, true, true, false, false] rfl onlyN_noPanic (by kernel_rfl) (fun K hK => ?_); (go_simp; try go_bits); refine hK _ ?_; clear hK K
            refine wpR_eff #[true, true, true, true, true, true, true, true, true, true, true, true, true, true, true, true, true, false] (i := 16) rfl (by kernel_rfl) (fun K hK => ?_)
            obtain ⟨w9, hr9, h9⟩ := run_storeC HCS.out HSL.out (List.length_replicate ..) (HT0.out.perm (by ac_rfl : _ = HP.pt w.heap.size (.cells (b8s slotZ).toArray 100) * (HP.pt (w.heap.size + 1) (.cells CS 100) * (HP.pt b (.cells CG 115) * q))))
            have HR9 := Aside.mk h9.drop2
            have rl9 := run_slotC HCS.out HSL.out h9
            clear h9
            refine Eq.mpr (if_pos (by rfl)) ?_; refine wp_store_run rfl rfl rfl rfl hr9 ?_; refine hK _ _ ?_; clear hK K hr9
            refine wpR_rd 17 #[true, true, true, true, true, true, true, true, true, true, true, true, true, true, true, true, true, true] rfl onlyN_noPanic (by kernel_rfl) (fun K hK => ?_); (go_simp; try go_bits); refine hK _ ?_; clear hK K
            refine wpR_done (by kernel_rfl) ?_ _
            simp only [OnlyN]
            have hall : ((S.drop (1 + s0)).all fun x => decide (x = 0)) = true := by rw [List.all_eq_true]; exact fun x hx => decide_eq_true (HRT.out.1 rfl x hx)
            go_wp2
            refine bodyPost_ret (results_ct rfl rfl rl9) rfl ?_
            rw [HAT.out, HFI.out, decide_eq_true h105, hall, HCS.out]
            exact ⟨rfl, HR9.out.right⟩
          · have hz2 : ¬ (rt : Int) = 0 := by omega
            have hz3 : ((rt : Int) == 0) = false := by rw [beq_eq_false_iff_ne]; exact hz2
            refine wpR_pu 13 #[true, true, true, true, true, true, true, true, true, true, true, true, true, true, false, false, false, false] rfl onlyN_noPanic (by kernel_rfl) (fun K hK => ?_); (go_simp; try go_bits); refine hK _ ?_; clear hK K
            refine wpR_pu 14 #[true, true, true, true, true, true, true, true, true, true, true, true, true, true, true, false, false, false] rfl onlyN_noPanic (by kernel_rfl) (fun K hK => ?_); (go_simp; try go_bits); refine hK _ ?_; clear hK K
            refine wpR_pu 15 #[true, true, true, true, true, true, true, true, true, true, true, true, true, true, true, true, false, false] rfl onlyN_noPanic (by kernel_rfl) (fun K hK => ?_); (go_simp; try go_bits); refine hK _ ?_; clear hK K
            refine wpR_eff #[true, true, true, true, true, true, true, true, true, true, true, true, true, true, true, true, true, false] (i := 16) rfl (by kernel_rfl) (fun K hK => ?_)
            obtain ⟨w9, hr9, h9⟩ := run_storeC HCS.out HSL.out (List.length_replicate ..) (HT0.out.perm (by ac_rfl : _ = HP.pt w.heap.size (.cells (b8s slotZ).toArray 100) * (HP.pt (w.heap.size + 1) (.cells CS 100) * (HP.pt b (.cells CG 115) * q))))
            have HR9 := Aside.mk h9.drop2
            have rl9 := run_slotC HCS.out HSL.out h9
            clear h9
            refine Eq.mpr (if_pos (by rfl)) ?_; refine wp_store_run rfl rfl rfl rfl hr9 ?_; refine hK _ _ ?_; clear hK K hr9
            refine wpR_rd 17 #[true, true, true, true, true, true, true, true, true, true, true, true, true, true, true, true, true, true] rfl onlyN_noPanic (by kernel_rfl) (fun K hK => ?_); (go_simp; try go_bits); refine hK _ ?_; clear hK K
            refine wpR_done (by kernel_rfl) ?_ _
            simp only [OnlyN]
            have hall : ((S.drop (1 + s0)).all fun x => decide (x = 0)) = false := by rw [← Bool.not_eq_true, List.all_eq_true]; exact fun h => absurd (HRT.out.2 fun x hx => of_decide_eq_true (h x hx)) (by omega)
            go_wp2
            refine bodyPost_ret (results_ct rfl rfl rl9) rfl ?_
            rw [HAT.out, HFI.out, decide_eq_true h105, hall, HCS.out]
            exact ⟨rfl, HR9.out.right⟩
        · have h105b : ¬ (s0 : Int) ≤ 105 := by omega
          have h105c : ((s0 : Int) ≤ 105) = False := eq_false h105b
          have h105d : decide ((s0 : Int) ≤ 105) = false := decide_eq_false h105b
          go_wp2
          refine region_R [12, 16] [12] (fun W => (loadVar 100 ⟨w.heap.size + 1, 0, none⟩).run Tryz.prog W = .ok (.agg CS) W) #[false, false, false, false, false, false, false, false, false, false, false, false, false, false, false, false, false, false] (by kernel_rfl) rfl rfl ?_
          refine wpR_held (i := 0) (v := .agg CS) #[true, false, false, false, false, false, false, false, false, false, false, false, false, false, false, false, false, false] rfl onlyN_noPanic (by kernel_rfl) HLD.out (.inl ⟨rfl, fun w' hT => exec_load rfl rfl hT⟩) ?_
          simp only [Act.put, List.setIfInBounds_toArray, List.set_cons_zero, List.set_cons_succ]
          refine wpR_rd 1 #[true, true, false, false, false, false, false, false, false, false, false, false, false, false, false, false, false, false] rfl onlyN_noPanic (by kernel_rfl) (fun K hK => ?_); (go_simp; try go_bits); refine hK _ ?_; clear hK K
          refine wpR_rd 2 #[true, true, true, false, false, false, false, false, false, false, false, false, false, false, false, false, false, false] rfl onlyN_noPanic (by kernel_rfl) (fun K hK => ?_); (go_simp; try go_bits); refine hK _ ?_; clear hK K
          refine wpR_rd 3 #[true, true, true, true, false, false, false, false, false, false, false, false, false, false, false, false, false, false] rfl onlyN_noPanic (by kernel_rfl) (fun K hK => ?_); (go_simp; try go_bits); refine hK _ ?_; clear hK K
          refine wpR_rd 4 #[true, true, true, true, true, false, false, false, false, false, false, false, false, false, false, false, false, false] rfl onlyN_noPanic (by kernel_rfl) (fun K hK => ?_); (go_simp; try go_bits); refine hK _ ?_; clear hK K
          refine wpR_rd 5 #[true, true, true, true, true, true, false, false, false, false, false, false, false, false, false, false, false, false] rfl onlyN_noPanic (by kernel_rfl) (fun K hK => ?_); (go_simp; try go_bits); refine hK _ ?_; clear hK K
          refine wpR_rd 6 #[true, true, true, true, true, true, true, false, false, false, false, false, false, false, false, false, false, false] rfl onlyN_noPanic (by kernel_rfl) (fun K hK => ?_); (go_simp; try go_bits); refine hK _ ?_; clear hK K
          refine wpR_rd 7 #[true, true, true, true, true, true, true, true, false, false, false, false, false, false, false, false, false, false] rfl onlyN_noPanic (by kernel_rfl) (fun K hK => ?_); (go_simp; try go_bits); refine hK _ ?_; clear hK K
          refine wpR_rd 8 #[true, true, true, true, true, true, true, true, true, false, false, false, false, false, false, false, false, false] rfl onlyN_noPanic (by kernel_rfl) (fun K hK => ?_); (go_simp; try go_bits); refine hK _ ?_; clear hK K
          refine wpR_rd 9 #[true, true, true, true, true, true, true, true, true, true, false, false, false, false, false, false, false, false] rfl onlyN_noPanic (by kernel_rfl) (fun K hK => ?_); (go_simp; try go_bits); refine hK _ ?_; clear hK K
          refine wpR_rd 10 #[true, true, true, true, true, true, true, true, true, true, true, false, false, false, false, false, false, false] rfl onlyN_noPanic (by kernel_rfl) (fun K hK => ?_); (go_simp; try go_bits); refine hK _ ?_; clear hK K
          refine wpR_rd 11 #[true, true, true, true, true, true, true, true, true, true, true, true, false, false, false, false, false, false] rfl onlyN_noPanic (by kernel_rfl) (fun K hK => ?_); (go_simp; try go_bits); refine hK _ ?_; clear hK K
          refine wpR_keep #[true, true, true, true, true, true, true, true, true, true, true, true, true, false, false, false, false, false] (i := 12) rfl (by kernel_rfl) (fun K hK => ?_)
          go_simp
          refine hK _ _ HLD.out ?_
          clear hK K
          refine wpR_pu 13 #[true, true, true, true, true, true, true, true, true, true, true, true, true, true, false, false, false, false] rfl onlyN_noPanic (by kernel_rfl) (fun K hK => ?_); (go_simp; try go_bits); refine hK _ ?_; clear hK K
          refine wpR_pu 14 #[true, true, true, true, true, true, true, true, true, true, true, true, true, true, true, false, false, false] rfl onlyN_noPanic (by kernel_rfl) (fun K hK => ?_); (go_simp; try go_bits); refine hK _ ?_; clear hK K
          refine wpR_pu 15 #[true, true, true, true, true, true, true, true, true, true, true, true, true, true, true, true, false, false] rfl onlyN_noPanic (by kernel_rfl) (fun K hK => ?_); (go_simp; try go_bits); refine hK _ ?_; clear hK K
          refine wpR_eff #[true, true, true, true, true, true, true, true, true, true, true, true, true, true, true, true, true, false] (i := 16) rfl (by kernel_rfl) (fun K hK => ?_)
          obtain ⟨w9, hr9, h9⟩ := run_storeC HCS.out HSL.out (List.length_replicate ..) (HSD.out.perm (by ac_rfl : _ = HP.pt w.heap.size (.cells (b8s slotZ).toArray 100) * (HP.pt (w.heap.size + 1) (.cells CS 100) * (HP.pt b (.cells CG 115) * q))))
          have HR9 := Aside.mk h9.drop2
          have rl9 := run_slotC HCS.out HSL.out h9
          clear h9
          refine Eq.mpr (if_pos (by rfl)) ?_; refine wp_store_run rfl rfl rfl rfl hr9 ?_; refine hK _ _ ?_; clear hK K hr9
          refine wpR_rd 17 #[true, true, true, true, true, true, true, true, true, true, true, true, true, true, true, true, true, true] rfl onlyN_noPanic (by kernel_rfl) (fun K hK => ?_); (go_simp; try go_bits); refine hK _ ?_; clear hK K
          refine wpR_done (by kernel_rfl) ?_ _
          simp only [OnlyN]
          go_wp2
          refine bodyPost_ret (results_ct rfl rfl rl9) rfl ?_
          rw [HAT.out, HFI.out, decide_eq_false h105, HCS.out]
          exact ⟨rfl, HR9.out.right⟩
set_option maxHeartbeats 4000000 in
set_option maxRecDepth 100000 in
theorem stripe_mend_arg (E : Env) (q : HP) (d : Nat) (A : Dk) (name : ByteArray) (gen i : Int) (w : World) (hi64 : wf64 i) (hi : i < 0 ∨ 2147483647 < i) (hw : Sat E w (HP.disk d A * q)) :
    Calls Tryz.prog 16 #[.pointer (some ⟨d, 0, none⟩), .string name, .int .i64 gen, .int .i64 i] w fun e w' => e = .returned (.tuple #[.bool false, .int .i64 1]) ∧ Sat E w' (HP.disk d A * q) := by
  have H := Aside.mk hw
  have hd : i < 0 ∨ (¬ i < 0 ∧ 2147483647 < i) := by omega
  clear hw hi
  rcases hd with h0 | ⟨h0, h1⟩
  all_goals
    go_enter Tryz.func16, Tryz.ntmps16
    go_wp2_with fail
    refine (stripe_none E q d A _ H.out).mono ?_
    rintro e w1 ⟨rfl, h1⟩
    have H1 := Aside.mk h1
    clear h1
    go_wp2
    go_ret2
    exact ⟨rfl, H1.out⟩
set_option maxHeartbeats 8000000 in
set_option maxRecDepth 100000 in
theorem stripe_mend (E : Env) (q : HP) (d : Nat) (A : Dk) (name : ByteArray) (gen i : Int) (w : World) (hname : name.size + 2 ≤ maxLen) (hi64 : wf64 i) (hby : ∀ k, k < 4 → ∀ (i : Int) c, A.cel (stripeF name k) i = some c → Bytes c.read)
    (hq : ∀ w, Sat E w q → Quarter w) (hw : Sat E w (HP.disk d A * q)) :
    Calls Tryz.prog 16 #[.pointer (some ⟨d, 0, none⟩), .string name, .int .i64 gen, .int .i64 i] w fun e w' => e = .returned (.tuple #[.bool (mendS A name gen i).1.1, .int .i64 (mendS A name gen i).1.2]) ∧ Sat E w' (HP.disk d (mendS A name gen i).2 * q) := by
  by_cases hi : i < 0 ∨ 2147483647 < i
  · have e : mendS A name gen i = ((false, 1), A) := by unfold mendS; rw [if_pos hi]
    rw [e]
    exact stripe_mend_arg E q d A name gen i w hi64 hi hw
  have HM : Aside (mendS A name gen i = mendK A name gen i (firstBad A name gen i)) := ⟨by unfold mendS; rw [if_neg hi]⟩
  generalize mendS A name gen i = RES at *
  have hbs : ∀ j, j < 4 → Bytes (slotsL A name gen i j) := fun j hj => readS_byt (hby j hj i)
  have HQ := Aside.mk (And.intro hq (And.intro hby (And.intro hbs (And.intro hw hname))))
  have i0 : ¬ i < 0 := fun h => hi (.inl h)
  have i1 : ¬ 2147483647 < i := fun h => hi (.inr h)
  clear hq hby hbs hw hname hi
  go_enter Tryz.func16, Tryz.ntmps16
  go_wp2_with fail
  refine (stripe_none E q d A _ HQ.out.2.2.2.1).mono ?_
  rintro e w1 ⟨rfl, h1⟩
  have H1 := Aside.mk h1
  clear h1
  go_wp2_with fail
  refine (stripe_look E q d A name gen i _ HQ.out.2.2.2.2 (fun k hk c => HQ.out.2.1 k hk _ c) HQ.out.1 H1.out).mono ?_
  intro e w3 h3
  obtain ⟨G, R, n, rfl, hG, h3⟩ := h3
  have h4 := h3.alloc (.cells Tryz.zeroCells115 115)
  obtain ⟨w5, hr5, h5⟩ := run_store_grp (n := n) hG.len hG.rlen h4
  have H5 := Aside.mk (And.intro h5 hG)
  obtain ⟨C, hC⟩ : ∃ C, C = (gCells G R n).toArray := ⟨_, rfl⟩
  rw [← hC] at hr5 ⊢
  clear h3 h4 h5 hG hC H1
  go_wp2_with (first | (refine wpList_store_run rfl rfl rfl rfl rfl hr5 ?_))
  refine (stripe_names E _ name _ HQ.out.2.2.2.2 H5.out.1).mono ?_
  rintro e w6 ⟨rfl, h6⟩
  obtain ⟨fa, hfae⟩ : ∃ fa, fa = name ++ dot0 := ⟨_, rfl⟩
  obtain ⟨fb, hfbe⟩ : ∃ fb, fb = name ++ dot1 := ⟨_, rfl⟩
  obtain ⟨fc, hfce⟩ : ∃ fc, fc = name ++ dot2 := ⟨_, rfl⟩
  obtain ⟨fd, hfde⟩ : ∃ fd, fd = name ++ dotP := ⟨_, rfl⟩
  have HF : Aside ((fa.size ≤ maxLen ∧ fb.size ≤ maxLen ∧ fc.size ≤ maxLen ∧ fd.size ≤ maxLen) ∧ stripeF name 0 = fa ∧ stripeF name 1 = fb ∧ stripeF name 2 = fc ∧ stripeF name 3 = fd) := ⟨by
    have h := dot_size name
    have hn := HQ.out.2.2.2.2
    rw [hfae, hfbe, hfce, hfde]
    exact ⟨⟨by rw [h.1]; exact hn, by rw [h.2.1]; exact hn, by rw [h.2.2.1]; exact hn, by rw [h.2.2.2]; exact hn⟩, rfl, rfl, rfl, rfl⟩⟩
  rw [← hfae, ← hfbe, ← hfce, ← hfde]
  have i0 : ∀ w, (Instr.index 104 (.agg #[.string fa, .string fb, .string fc, .string fd]) (.int .i64 0)).run Tryz.prog w = .ok (.string fa) w := fun w => by kernel_rfl
  have i1 : ∀ w, (Instr.index 104 (.agg #[.string fa, .string fb, .string fc, .string fd]) (.int .i64 1)).run Tryz.prog w = .ok (.string fb) w := fun w => by kernel_rfl
  have i2 : ∀ w, (Instr.index 104 (.agg #[.string fa, .string fb, .string fc, .string fd]) (.int .i64 2)).run Tryz.prog w = .ok (.string fc) w := fun w => by kernel_rfl
  have i3 : ∀ w, (Instr.index 104 (.agg #[.string fa, .string fb, .string fc, .string fd]) (.int .i64 3)).run Tryz.prog w = .ok (.string fd) w := fun w => by kernel_rfl
  clear hfae hfbe hfce hfde
  have H6 := Aside.mk (And.intro h6 H5.out.2)
  clear h6 H5 hr5
  obtain ⟨bG, hbG⟩ : ∃ bG, bG = w3.heap.size := ⟨_, rfl⟩
  rw [← hbG] at H6 ⊢
  clear hbG
  go_wp2
  go_loopw [34] (fun v34 wr => ∃ k : Nat, k ≤ 4 ∧ v34 = .int .i64 k ∧ Aside (∀ j, j < k → (slotOf A name gen i j).2 = true) ∧ Aside (Sat E wr (HP.pt bG (.cells (gCells G R n).toArray 115) * (HP.disk d A * q)))) (fun i _ => 4 - (intOf i).toNat)
  case atStart => exact ⟨0, by omega, rfl, ⟨fun j h => by omega⟩, ⟨H6.out.1⟩⟩
  case round =>
    obtain ⟨k, hk, rfl, HR, HS⟩ := hrel
    by_cases hlt : k < 4
    · obtain ⟨f, hf, hff, hix⟩ : ∃ f : ByteArray, f.size ≤ maxLen ∧ stripeF name k = f ∧ ∀ w, (Instr.index 104 (.agg #[.string fa, .string fb, .string fc, .string fd]) (.int .i64 (k : Int))).run Tryz.prog w = .ok (.string f) w := by
        have hc : k = 0 ∨ k = 1 ∨ k = 2 ∨ k = 3 := by omega
        rcases hc with h0 | h0 | h0 | h0 <;> subst h0
        · exact ⟨fa, HF.out.1.1, HF.out.2.1, i0⟩
        · exact ⟨fb, HF.out.1.2.1, HF.out.2.2.1, i1⟩
        · exact ⟨fc, HF.out.1.2.2.1, HF.out.2.2.2.1, i2⟩
        · exact ⟨fd, HF.out.1.2.2.2, HF.out.2.2.2.2, i3⟩
      have hlt2 : (k : Int) < 4 := by omega
      have hG := H6.out.2
      have g2 : wr.cell? ⟨bG, 424 + k, none⟩ = some (.bool (slotOf A name gen i k).2) := by
        rw [HS.out.cell (424 + k)]
        exact gCells_right hG.len (hG.right k hlt)
      have HAT := Aside.mk (stripe_at E (HP.disk d A * q) bG A name gen i G R n k wr hlt hG HQ.out.2.2.1 HS.out)
      have HFF := Aside.mk (And.intro hf hff)
      clear i0 i1 i2 i3 hG hf hff
      by_cases hr : (slotOf A name gen i k).2 = true
      · rw [hr] at g2
        have HR2 : Aside (∀ j, j < k + 1 → (slotOf A name gen i j).2 = true) := ⟨fun j hj => by
          by_cases e : j = k
          · rw [e]; exact hr
          · exact HR.out j (by omega)⟩
        clear hr HAT HR HFF
        go_wp2
        go_roundw
        case rel => exact ⟨k + 1, by omega, by push_cast; rfl, HR2, HS⟩
        case measure => simp [intOf]; omega
      · rw [Bool.not_eq_true] at hr
        rw [hr] at g2
        have hfb := firstBad_at hlt HR.out hr
        have hM := HM.out
        rw [hfb] at hM
        unfold mendK at hM
        dsimp only at hM
        have hAm := atF_miss hlt hr
        have hSl := atF_length A name gen i k
        have hSb := atF_byt hlt HQ.out.2.2.1
        obtain ⟨S, ok, hat⟩ : ∃ S ok, atF A name gen i k = (S, ok) := ⟨_, _, rfl⟩
        rw [hat] at HAT hM hAm hSl hSb
        dsimp only at HAT hM hAm hSl hSb
        clear hr hfb hat HR HS HM
        go_wp2_with fail
        refine HAT.out.mono ?_
        rintro e w7 ⟨rfl, h7⟩
        obtain ⟨w8, hr8, h8⟩ := run_store_zero hSl (h7.right.alloc (.cells Tryz.zeroCells100 100))
        have ld8 := run_load_slot hSl h8
        have H8 := Aside.mk h8
        obtain ⟨CS, hCS⟩ : ∃ CS, CS = (b8s S).toArray := ⟨_, rfl⟩
        rw [← hCS] at hr8 ld8 ⊢
        have HCS := Aside.mk hCS
        clear h7 h8 HAT hCS
        cases ok with
        | false =>
          rw [if_neg (by decide)] at hM
          have HM2 := Aside.mk hM
          clear hM hAm hSb
          go_wp2_with (first | (refine wpList_store_run rfl rfl rfl rfl rfl hr8 ?_))
          go_ret2
          rw [HM2.out]
          exact ⟨rfl, H8.out.right⟩
        | true =>
          rw [if_pos rfl] at hM
          obtain ⟨⟨hg0, hg1⟩, hh5⟩ := hAm rfl
          obtain ⟨gn, rfl⟩ : ∃ gn : Nat, gen = gn := ⟨gen.toNat, by omega⟩
          obtain ⟨ni, rfl⟩ : ∃ ni : Nat, i = ni := ⟨i.toNat, by omega⟩
          rw [Int.toNat_natCast, Int.toNat_natCast, HFF.out.2] at hM
          have HM2 := Aside.mk hM
          have HHD : Aside (k ≠ 3 → 0 ≤ S.headD 0 ∧ S.headD 0 ≤ 105) := ⟨fun hk3 => ⟨by
            cases S with
            | nil => exact Int.le_refl _
            | cons a l => exact (hSb a (List.mem_cons_self ..)).1, hh5 hk3⟩⟩
          have HSB := Aside.mk (And.intro hSl hSb)
          clear hM hAm hh5 hSb hSl
          go_wp2_with (first | (refine wpList_store_run rfl rfl rfl rfl rfl hr8 ?_) | (refine wpList_load_run rfl rfl rfl ld8 ?_))
          rw [HCS.out]
          refine (stripe_payload E _ k S w8 hlt HSB.out.1 HHD.out H8.out).mono ?_
          intro e w9 h9
          obtain ⟨Ap, cp, m, R9, rfl, hm, hm6, hmc, hcm, h9, hx9⟩ := h9
          have hpb : Bytes (payI k S) := fun x hx => by
            unfold payI at hx
            split at hx
            · exact HSB.out.2 x hx
            · exact HSB.out.2 x (List.mem_of_mem_drop (List.mem_of_mem_take hx))
          obtain ⟨p, hpe⟩ : ∃ p, p = payI k S := ⟨_, rfl⟩
          rw [← hpe] at hm hx9 hpb HM2
          have H9 := Aside.mk (And.intro h9 (And.intro hx9 (And.intro hm hpb)))
          clear h9 hx9 hpe hm hpb hr8 ld8 g2
          go_wp2_with fail
          refine (ext_frame E _ f ni gn Ap p m cp _ HFF.out.1 (by omega) hg1 H9.out.2.2.1 hm6 H9.out.2.2.2 (fun w h => ⟨HQ.out.1 _ h.right.right.right, H9.out.2.1 _ _ h⟩) H9.out.1).mono ?_
          rintro e w10 ⟨gx, rfl, h10⟩
          have H10 : Aside (Sat E w10 (HP.disk d A * (HP.pt gx (.cells (b8s (extI f ni gn p)).toArray 162) * (R9 * (HP.pt w7.heap.size (.cells (b8s S).toArray 100) * q))))) := ⟨h10.perm (by ac_rfl)⟩
          clear h10
          go_wp2_with fail
          refine (disk_write E _ d A f ni (some ⟨gx, 0, none⟩) (extI f ni gn p) 128 128 _ HFF.out.1 (extI_length (by rw [H9.out.2.2.1]; exact hm6)) (by decide) (fun w h => Sat.ptCells (off := 0) (l := b8s (extI f ni gn p)) h (by rw [List.drop_zero, List.take_length])) H10.out).mono ?_
          rintro e w11 ⟨rfl, h11⟩
          unfold mend1 at HM2
          obtain ⟨c1, A1, hA1⟩ : ∃ c1 A1, A.write f ni (extI f ni gn p) = (c1, A1) := ⟨_, _, rfl⟩
          rw [hA1] at h11 HM2 ⊢
          dsimp only at h11 HM2 ⊢
          have H11 := Aside.mk h11
          clear h11 hA1
          by_cases hc1 : c1 = 0
          · subst hc1
            rw [if_pos rfl] at HM2
            go_wp2_with fail
            refine (disk_sync E _ d A1 f _ HFF.out.1 H11.out).mono ?_
            rintro e w12 ⟨rfl, h12⟩
            obtain ⟨c2, A2, hA2⟩ : ∃ c2 A2, A1.sync f = (c2, A2) := ⟨_, _, rfl⟩
            rw [hA2] at h12 HM2 ⊢
            dsimp only at h12 HM2 ⊢
            have H12 := Aside.mk (And.intro h12 HM2.out)
            clear h12 hA2 HM2
            by_cases hc2 : c2 = 0
            · subst hc2
              go_wp2
              go_ret2
              rw [H12.out.2]
              exact ⟨rfl, (H12.out.1.perm (by ac_rfl : _ = HP.pt gx (.cells (b8s (extI f ni gn p)).toArray 162) * (R9 * (HP.pt w7.heap.size (.cells (b8s S).toArray 100) * (HP.disk d A2 * q))))).right.right.right⟩
            · have hc3 : (c2 == 0) = false := by rw [beq_eq_false_iff_ne]; exact hc2
              go_wp2
              go_ret2
              rw [H12.out.2, decide_eq_false hc2]
              exact ⟨rfl, (H12.out.1.perm (by ac_rfl : _ = HP.pt gx (.cells (b8s (extI f ni gn p)).toArray 162) * (R9 * (HP.pt w7.heap.size (.cells (b8s S).toArray 100) * (HP.disk d A2 * q))))).right.right.right⟩
          · have hc3 : (c1 == 0) = false := by rw [beq_eq_false_iff_ne]; exact hc1
            rw [if_neg hc1] at HM2
            have HM3 := HM2
            clear HM2
            go_wp2
            go_ret2
            rw [HM3.out]
            exact ⟨rfl, (H11.out.perm (by ac_rfl : _ = HP.pt gx (.cells (b8s (extI f ni gn p)).toArray 162) * (R9 * (HP.pt w7.heap.size (.cells (b8s S).toArray 100) * (HP.disk d A1 * q))))).right.right.right⟩
    · obtain rfl : k = 4 := by omega
      have hM := HM.out
      rw [firstBad_none HR.out] at hM
      unfold mendK at hM
      dsimp only at hM
      have HM2 := Aside.mk hM
      clear hM
      go_wp2
      go_ret2
      rw [HM2.out]
      exact ⟨rfl, HS.out.right⟩
def mendL (i g : Nat) (p : List Int) (wrote : Bool) (A : Dk) : List ByteArray → (Bool × Int) × Dk
  | [] => ((wrote, 0), A)
  | f :: r =>
    if readO A f i = extI f i g p then mendL i g p wrote A r
    else if (A.write f i (extI f i g p)).1 = 0 then
      if ((A.write f i (extI f i g p)).2.sync f).1 = 0 then mendL i g p true ((A.write f i (extI f i g p)).2.sync f).2 r
      else ((false, ((A.write f i (extI f i g p)).2.sync f).1), ((A.write f i (extI f i g p)).2.sync f).2)
    else ((false, (A.write f i (extI f i g p)).1), (A.write f i (extI f i g p)).2)
theorem mendL_cons (i g : Nat) (p : List Int) (wrote : Bool) (A : Dk) (f : ByteArray) (r : List ByteArray) : mendL i g p wrote A (f :: r) =
    if readO A f i = extI f i g p then mendL i g p wrote A r
    else if (A.write f i (extI f i g p)).1 = 0 then
      if ((A.write f i (extI f i g p)).2.sync f).1 = 0 then mendL i g p true ((A.write f i (extI f i g p)).2.sync f).2 r
      else ((false, ((A.write f i (extI f i g p)).2.sync f).1), ((A.write f i (extI f i g p)).2.sync f).2)
    else ((false, (A.write f i (extI f i g p)).1), (A.write f i (extI f i g p)).2) := rfl
def mendP (A : Dk) (name : ByteArray) (i : Int) : (Bool × Int) × Dk :=
  if (getP A name i).1 < 0 then ((false, 50), A) else mendL i.toNat (getP A name i).1.toNat (getP A name i).2 false A (halvesL name)
theorem openI_index {b : List Int} {f : ByteArray} {i : Int} {x : List Int × Nat} (h : openI b f i = some x) : 0 ≤ i ∧ i ≤ 2147483647 := by
  unfold openI at h
  split at h
  · cases h
  · rename_i h1
    omega
structure GotOk (i : Int) (st : Int × List Int) : Prop where
  place : 0 ≤ st.1 → 0 ≤ i ∧ i ≤ 2147483647
  gen : st.1 ≤ 4611686018427387904
  len : st.2.length ≤ 106
theorem getF_ok {A : Dk} {i : Int} {st : Int × List Int} {f : ByteArray} (h : GotOk i st) : GotOk i (getF A i st f) := by
  unfold getF
  cases A.cel f i with
  | none => exact h
  | some c =>
    dsimp only
    cases ho : openI c.read f i with
    | none => exact h
    | some x =>
      dsimp only
      split
      · exact h
      · have h1 := openI_gen (p := x.1) (g := x.2) ho
        exact ⟨fun _ => openI_index ho, h1.1, h1.2⟩
theorem getP_ok (A : Dk) (name : ByteArray) (i : Int) : GotOk i (getP A name i) := by
  unfold getP halvesL
  exact getF_ok (getF_ok ⟨fun h => absurd h (by show ¬ (0 : Int) ≤ -1; omega), by show (-1 : Int) ≤ _; omega, by show 0 ≤ 106; omega⟩)
theorem getF_byt {A : Dk} {i : Int} {st : Int × List Int} {f : ByteArray} (hs : Bytes st.2) (hb : ∀ c, A.cel f i = some c → Bytes c.read) : Bytes (getF A i st f).2 := by
  unfold getF
  cases hc : A.cel f i with
  | none => exact hs
  | some c =>
    dsimp only
    cases ho : openI c.read f i with
    | none => exact hs
    | some x =>
      dsimp only
      split
      · exact hs
      · have h := ho
        unfold openI at h
        split at h
        · cases h
        · split at h
          · cases h
          · split at h
            · cases h
            · simp only [Option.some.injEq] at h
              rw [← h]
              exact fun y hy => hb c hc y (List.mem_of_mem_drop (List.mem_of_mem_take hy))
theorem getP_byt {A : Dk} {name : ByteArray} {i : Int} (hb : ∀ f ∈ halvesL name, ∀ c, A.cel f i = some c → Bytes c.read) : Bytes (getP A name i).2 := by
  unfold getP halvesL
  exact getF_byt (getF_byt (fun x hx => by cases hx) (hb _ (List.mem_cons_self ..))) (hb _ (List.mem_cons_of_mem _ (List.mem_cons_self ..)))
theorem halves_ne (x : ByteArray) : x ++ dotA ≠ x ++ dotB := fun h => by
  have h1 : (x ++ dotA).data = (x ++ dotB).data := by rw [h]
  rw [ByteArray.data_append, ByteArray.data_append] at h1
  have h2 := congrArg Array.toList h1
  simp only [Array.toList_append, List.append_cancel_left_eq] at h2
  exact absurd h2 (by decide)
theorem write_at_ne {A : Dk} (hs : Sorted A.files) {f t : ByteArray} (ht : f ≠ t) (i : Int) (b : List Int) : (A.write f i b).2.at t = A.at t := by
  unfold Dk.write
  have hs2 : Sorted A.burnt.files := hs
  split
  · rfl
  · split
    · rfl
    · split
      · rfl
      · split
        · show (A.burnt.set f _).at t = _
          rw [at_set hs2, if_neg ht]; rfl
        · show (A.burnt.set f _).at t = _
          rw [at_set hs2, if_neg ht]; rfl
theorem sync_at_ne {A : Dk} (hs : Sorted A.files) {f t : ByteArray} (ht : f ≠ t) : (A.sync f).2.at t = A.at t := by
  unfold Dk.sync
  have hs2 : Sorted A.burnt.files := hs
  split
  · rfl
  · split
    · rfl
    · show (A.burnt.set f _).at t = _
      rw [at_set hs2, if_neg ht]; rfl
theorem write_sorted {A : Dk} (hs : Sorted A.files) (f : ByteArray) (i : Int) (b : List Int) : Sorted (A.write f i b).2.files := by
  unfold Dk.write
  have hs2 : Sorted A.burnt.files := hs
  split
  · exact hs
  · split
    · exact hs
    · split
      · exact hs
      · split
        · exact sorted_put f _ hs2
        · exact sorted_put f _ hs2
theorem sync_sorted {A : Dk} (hs : Sorted A.files) (f : ByteArray) : Sorted (A.sync f).2.files := by
  unfold Dk.sync
  have hs2 : Sorted A.burnt.files := hs
  split
  · exact hs
  · split
    · exact hs
    · exact sorted_put f _ hs2
theorem cel_of_at {A B : Dk} {t : ByteArray} (h : A.at t = B.at t) (i : Int) : A.cel t i = B.cel t i := by
  unfold Dk.cel
  rw [h]
theorem readO_of_none {A : Dk} {f : ByteArray} {i : Int} (h : A.cel f i = none) : readO A f i = [] := by unfold readO; rw [h]
theorem readO_of_some {A : Dk} {f : ByteArray} {i : Int} {c : Cel} (h : A.cel f i = some c) : readO A f i = c.read := by unfold readO; rw [h]
set_option maxHeartbeats 4000000 in
set_option maxRecDepth 100000 in
theorem pair_mend (E : Env) (q : HP) (d : Nat) (A : Dk) (name : ByteArray) (i : Int) (w : World) (hname : name.size + 2 ≤ maxLen) (hby : ∀ f ∈ halvesL name, ∀ c, A.cel f i = some c → Bytes c.read)
    (hq : ∀ w, Sat E w q → Quarter w) (hw : Sat E w (HP.disk d A * q)) :
    Calls Tryz.prog 97 #[.pointer (some ⟨d, 0, none⟩), .string name, .int .i64 i] w fun e w' => e = .returned (.tuple #[.bool (mendP A name i).1.1, .int .i64 (mendP A name i).1.2]) ∧ Sat E w' (HP.disk d (mendP A name i).2 * q) := by
  have hfa : (name ++ dotA).size ≤ maxLen := by rw [dotA_size]; exact hname
  have hfb : (name ++ dotB).size ≤ maxLen := by rw [dotB_size]; exact hname
  have HF : Aside (halvesL name = [name ++ dotA, name ++ dotB]) := ⟨rfl⟩
  have HNE := Aside.mk (halves_ne name)
  have HM : Aside (mendP A name i = if (getP A name i).1 < 0 then ((false, 50), A) else mendL i.toNat (getP A name i).1.toNat (getP A name i).2 false A (halvesL name)) := ⟨rfl⟩
  have HQ := Aside.mk (And.intro hq (And.intro hby hw))
  have HG := Aside.mk (And.intro (getP_ok A name i) (getP_byt hby))
  clear hq hby hw
  go_enter Tryz.func97, Tryz.ntmps97
  go_wp2_with fail
  refine (pair_get E q d A name i _ hname HQ.out.2.1 HQ.out.1 HQ.out.2.2).mono ?_
  rintro e w1 ⟨v, rfl, h1⟩
  obtain ⟨Av, cv, rfl, hcv, hcm⟩ := h1.row_slice
  obtain ⟨⟨G0, p⟩, hGp⟩ : ∃ r, r = getP A name i := ⟨_, rfl⟩
  rw [← hGp] at h1 HM HG ⊢
  clear hGp
  dsimp only at h1 HM HG ⊢
  have H1 := Aside.mk h1
  clear h1
  unfold getEnd
  by_cases hneg : G0 < 0
  · rw [if_pos (by exact hneg)]
    rw [if_pos hneg] at HM
    go_wp2
    go_ret2
    rw [HM.out]
    exact ⟨rfl, H1.out.right⟩
  · rw [if_neg (by exact hneg)]
    rw [if_neg hneg] at HM
    obtain ⟨i0, i1⟩ := HG.out.1.place (by show 0 ≤ G0; omega)
    obtain ⟨i, rfl⟩ := Int.eq_ofNat_of_zero_le i0
    obtain ⟨G, rfl⟩ := Int.eq_ofNat_of_zero_le (show 0 ≤ G0 by omega)
    rw [Int.toNat_natCast, Int.toNat_natCast] at HM
    have hG : (G : Int) ≤ 4611686018427387904 := HG.out.1.gen
    have hpl : p.length ≤ 106 := HG.out.1.len
    obtain ⟨n, hn⟩ : ∃ n, n = p.length := ⟨_, rfl⟩
    rw [← hn] at H1 hpl ⊢
    have HPL := Aside.mk (And.intro hn.symm HG.out.2)
    clear hn HG hneg hcv hcm
    go_wp2_with fail
    refine (pair_halves E _ name _ hname H1.out).mono ?_
    rintro e w2 ⟨rfl, h2⟩
    obtain ⟨fa, hfae⟩ : ∃ fa, fa = name ++ dotA := ⟨_, rfl⟩
    obtain ⟨fb, hfbe⟩ : ∃ fb, fb = name ++ dotB := ⟨_, rfl⟩
    rw [← hfae] at hfa HF HNE ⊢
    rw [← hfbe] at hfb HF HNE ⊢
    clear hfae hfbe
    have H2 : Aside (Sat E w2 (HP.disk d A * (HP.row 5 1 (.slice Av n cv) n (b8s p) * q))) := ⟨h2.s2⟩
    clear h2 H1
    have i0' : ∀ w, (Instr.index 195 (.agg #[.string fa, .string fb]) (.int .i64 0)).run Tryz.prog w = .ok (.string fa) w := fun w => by kernel_rfl
    have i1' : ∀ w, (Instr.index 195 (.agg #[.string fa, .string fb]) (.int .i64 1)).run Tryz.prog w = .ok (.string fb) w := fun w => by kernel_rfl
    go_wp2
    go_loopw [11, 33] (fun v11 v33 wr => ∃ (h : Nat) (wrote : Bool) (A' : Dk), h ≤ 2 ∧ v33 = .int .i64 h ∧ v11 = .bool wrote ∧ Aside (mendL i G p wrote A' ((halvesL name).drop h) = mendP A name i) ∧ Aside (∀ f ∈ (halvesL name).drop h, ∀ c, A'.cel f i = some c → Bytes c.read) ∧ Aside (Sat E wr (HP.disk d A' * (HP.row 5 1 (.slice Av n cv) n (b8s p) * q)))) (fun _ x _ => 2 - (intOf x).toNat)
    case atStart => exact ⟨0, false, A, by omega, rfl, rfl, ⟨HM.out.symm⟩, ⟨HQ.out.2.1⟩, H2⟩
    case round =>
      obtain ⟨h, wrote, A', hh, rfl, rfl, HL, HY, HS⟩ := hrel
      by_cases hlt : h < 2
      · obtain ⟨f, hf, hff, hne, hix⟩ : ∃ f : ByteArray, f.size ≤ maxLen ∧ (halvesL name).drop h = f :: (halvesL name).drop (h + 1) ∧ (∀ t ∈ (halvesL name).drop (h + 1), f ≠ t) ∧ ∀ w, (Instr.index 195 (.agg #[.string fa, .string fb]) (.int .i64 (h : Int))).run Tryz.prog w = .ok (.string f) w := by
          rw [HF.out]
          rcases Nat.lt_or_ge h 1 with h0 | h0
          · obtain rfl : h = 0 := by omega
            exact ⟨fa, hfa, rfl, fun t ht => by obtain rfl := List.mem_singleton.1 ht; exact HNE.out, i0'⟩
          · obtain rfl : h = 1 := by omega
            exact ⟨fb, hfb, rfl, fun t ht => (by cases ht), i1'⟩
        rw [hff] at HL HY
        have HNX := Aside.mk hne
        clear hff hne i0' i1'
        have hlt2 : (h : Int) < 2 := by omega
        have hIl : (extI f i G p).length = 128 := extI_length (by rw [HPL.out.1]; exact hpl)
        have hIb : Bytes (extI f i G p) := extI_bytes (by rw [HPL.out.1]; exact hpl) HPL.out.2
        have HX : Aside (mendL i G p wrote A' (f :: (halvesL name).drop (h + 1)) = if readO A' f i = extI f i G p then mendL i G p wrote A' ((halvesL name).drop (h + 1))
          else if (A'.write f i (extI f i G p)).1 = 0 then
            if ((A'.write f i (extI f i G p)).2.sync f).1 = 0 then mendL i G p true ((A'.write f i (extI f i G p)).2.sync f).2 ((halvesL name).drop (h + 1))
            else ((false, ((A'.write f i (extI f i G p)).2.sync f).1), ((A'.write f i (extI f i G p)).2.sync f).2)
          else ((false, (A'.write f i (extI f i G p)).1), (A'.write f i (extI f i G p)).2)) := ⟨rfl⟩
        rw [HL.out] at HX
        go_wp2_with fail
        refine (ext_frame E (HP.disk d A' * (HP.row 5 1 (.slice Av n cv) n (b8s p) * q)) f i G Av p n cv _ hf i1 hG HPL.out.1 hpl HPL.out.2 (fun w h => ⟨HQ.out.1 _ h.right.right, h.right.row_cells⟩) HS.out).mono ?_
        rintro e w3 ⟨gI, rfl, h3⟩
        obtain ⟨I, hIe⟩ : ∃ I, I = extI f i G p := ⟨_, rfl⟩
        rw [← hIe] at hIl hIb h3 HX
        clear hIe
        have HI := Aside.mk (And.intro hIl hIb)
        have H3 := Aside.mk h3.s2
        clear h3 hIl hIb HS HL
        go_wp2_with fail
        refine (disk_read_ok E _ d A' f i _ hf H3.out).mono ?_
        intro e w4 h4
        obtain ⟨Ar, nr, cr, er, hev, hrl, hbr, hcl, h5⟩ : ∃ (Ar : Option Addr) (nr cr : Nat) (er : Int), e = .returned (.tuple #[.slice Ar nr cr, .int .i64 er]) ∧ (readO A' f i).length = nr ∧ Bytes (readO A' f i) ∧ Cells w4 Ar (b8s (readO A' f i)) ∧ Sat E w4 (HP.disk d A' * (HP.pt gI (.cells (b8s I).toArray 162) * (HP.row 5 1 (.slice Av n cv) n (b8s p) * q))) := by
          unfold readEnd at h4
          cases hc : A'.cel f i with
          | none =>
            rw [hc] at h4
            rw [readO_of_none hc]
            exact ⟨none, 0, 0, 30, h4.1, rfl, (fun x hx => by cases hx), Cells.nil _ _, h4.2⟩
          | some cl =>
            rw [hc] at h4
            obtain ⟨vr, h4a, h4⟩ := h4
            obtain ⟨Ar, cr, rfl, -, -⟩ := h4.row_slice
            rw [readO_of_some hc]
            have hl128 := h4.row_cases.1
            rw [b8s_length] at hl128
            exact ⟨Ar, 128, cr, 0, h4a, hl128, HY.out f (List.mem_cons_self ..) cl hc, h4.row_cells, h4.right⟩
        subst hev
        obtain ⟨R, hR⟩ : ∃ R, R = readO A' f i := ⟨_, rfl⟩
        rw [← hR] at hrl hbr hcl HX
        have HR := Aside.mk (And.intro hrl (And.intro hbr hcl))
        have H5 := Aside.mk h5
        clear h4 h5 hR hrl hbr hcl H3
        go_wp2_with fail
        refine (bytesEq_ok Ar (some ⟨gI, 0, none⟩) R I nr 128 cr 128 _ HR.out.1 HI.out.1 HR.out.2.2 (Sat.ptCells (off := 0) H5.out.right (by rw [List.drop_zero, List.take_length])) HR.out.2.1 HI.out.2).mono ?_
        rintro e w5 ⟨rfl, rfl⟩
        clear HR
        by_cases hRI : R = I
        · rw [decide_eq_true hRI]
          rw [if_pos hRI] at HX
          have HZ := Aside.mk (H5.out.s2.right)
          have HY2 : Aside (∀ f ∈ (halvesL name).drop (h + 1), ∀ c, A'.cel f i = some c → Bytes c.read) := ⟨fun t ht => HY.out t (List.mem_cons_of_mem _ ht)⟩
          have HX2 := Aside.mk HX.out.symm
          clear hRI HX HY H5
          go_wp2
          go_roundw
          case rel => exact ⟨h + 1, wrote, A', by omega, by push_cast; rfl, rfl, HX2, HY2, HZ⟩
          case measure => simp [intOf]; omega
        · rw [decide_eq_false hRI]
          rw [if_neg hRI] at HX
          clear hRI
          have hso : Sorted A'.files := H5.out.disk_fine.sorted
          have HSO := Aside.mk hso
          clear hso
          go_wp2_with fail
          refine (disk_write E _ d A' f i (some ⟨gI, 0, none⟩) I 128 128 _ hf HI.out.1 (by unfold maxLen; omega) (fun w h => Sat.ptCells (off := 0) h (by rw [List.drop_zero, List.take_length])) H5.out).mono ?_
          rintro e w6 ⟨rfl, h6⟩
          have H6 := Aside.mk h6.drop2
          clear h6 H5
          by_cases hw0 : (A'.write f (i : Int) I).1 = 0
          · rw [hw0]
            rw [if_pos hw0] at HX
            have HY2 : Aside (∀ t ∈ (halvesL name).drop (h + 1), ∀ c, (A'.write f (i : Int) I).2.cel t i = some c → Bytes c.read) := ⟨fun t ht c hc => HY.out t (List.mem_cons_of_mem _ ht) c (by rw [← cel_of_at (write_at_ne HSO.out (HNX.out t ht) i I)]; exact hc)⟩
            have hso2 : Sorted (A'.write f (i : Int) I).2.files := H6.out.disk_fine.sorted
            have HSO2 := Aside.mk hso2
            clear hso2 hw0 HY HSO
            generalize (A'.write f (i : Int) I).2 = B at *
            go_wp2_with fail
            refine (disk_sync E _ d B f _ hf H6.out).mono ?_
            rintro e w7 ⟨rfl, h7⟩
            have H7 := Aside.mk h7
            clear h7 H6
            by_cases hs0 : (B.sync f).1 = 0
            · rw [hs0]
              rw [if_pos hs0] at HX
              have HY3 : Aside (∀ t ∈ (halvesL name).drop (h + 1), ∀ c, (B.sync f).2.cel t i = some c → Bytes c.read) := ⟨fun t ht c hc => HY2.out t ht c (by rw [← cel_of_at (sync_at_ne HSO2.out (HNX.out t ht)) i]; exact hc)⟩
              have HX2 := Aside.mk HX.out.symm
              clear hs0 HX HY2
              generalize (B.sync f).2 = C at *
              go_wp2
              go_roundw
              case rel => exact ⟨h + 1, true, C, by omega, by push_cast; rfl, rfl, HX2, HY3, H7⟩
              case measure => simp [intOf]; omega
            · rw [if_neg hs0] at HX
              obtain ⟨ec, hec⟩ : ∃ ec, ec = (B.sync f).1 := ⟨_, rfl⟩
              rw [← hec] at hs0 HX ⊢
              clear hec HY2
              go_wp2
              go_ret2
              rw [HX.out]
              exact ⟨rfl, H7.out.drop2⟩
          · rw [if_neg hw0] at HX
            obtain ⟨ec, hec⟩ : ∃ ec, ec = (A'.write f (i : Int) I).1 := ⟨_, rfl⟩
            rw [← hec] at hw0 HX ⊢
            clear hec HY
            go_wp2
            go_ret2
            rw [HX.out]
            exact ⟨rfl, H6.out.drop2⟩
      · obtain rfl : h = 2 := by omega
        rw [HF.out] at HL
        have HX : Aside (mendP A name i = ((wrote, 0), A')) := ⟨by rw [← HL.out]; rfl⟩
        clear HL i0' i1'
        go_wp2
        go_ret2
        rw [HX.out]
        exact ⟨rfl, HS.out.drop2⟩
def i8s (l : List Int) : List Value := l.map (Value.int .i64)
def nOk (lo n : Int) : Bool := decide (lo ≤ n) && decide (n ≤ 4611686018427387904)
def btw (lo : Int) (l : List Int) : Bool := l.all (nOk lo)
set_option maxHeartbeats 1000000 in
set_option maxRecDepth 100000 in
theorem btw_in (lo x : Int) (b : Nat) (w : World) (hb : w.cell? ⟨b, 0, none⟩ = some (.int .i64 lo)) :
    Calls Tryz.prog 138 #[.int .i64 x, .pointer (some ⟨b, 0, none⟩)] w fun e w' => e = .returned (.bool (!nOk lo x)) ∧ w' = w := by
  by_cases h1 : x < lo
  · have hr : nOk lo x = false := by unfold nOk; rw [decide_eq_false (by omega)]; rfl
    have HR := Aside.mk hr
    clear hr
    go_enter Tryz.func138, Tryz.ntmps138
    go_wp2
    go_ret
    rw [HR.out]
    exact ⟨rfl, rfl⟩
  · have hr : nOk lo x = decide (x ≤ 4611686018427387904) := by unfold nOk; rw [decide_eq_true (by omega)]; rfl
    by_cases h2 : 4611686018427387904 < x
    · have HR : Aside (nOk lo x = false) := ⟨by rw [hr, decide_eq_false (by omega)]⟩
      clear hr
      go_enter Tryz.func138, Tryz.ntmps138
      go_wp2
      go_ret
      rw [HR.out]
      exact ⟨rfl, rfl⟩
    · have HR : Aside (nOk lo x = true) := ⟨by rw [hr, decide_eq_true (by omega)]⟩
      clear hr
      go_enter Tryz.func138, Tryz.ntmps138
      go_wp2
      go_ret
      rw [HR.out]
      exact ⟨rfl, rfl⟩
theorem btw_take {lo : Int} {l : List Int} {k : Nat} {x : Int} (hx : l[k]? = some x) : btw lo (l.take (k + 1)) = (btw lo (l.take k) && nOk lo x) := by
  unfold btw
  rw [List.take_add_one, hx, List.all_append]
  simp
theorem btw_bad {lo : Int} {l : List Int} {k : Nat} {x : Int} (hx : l[k]? = some x) (h : nOk lo x = false) : btw lo l = false := by
  unfold btw
  rw [Bool.eq_false_iff]
  intro hn
  rw [List.all_eq_true] at hn
  have := hn x (List.mem_of_getElem? hx)
  rw [h] at this
  cases this
set_option maxHeartbeats 1000000 in
set_option maxRecDepth 100000 in
theorem index_fn (lo : Int) (g : Nat) (l : List Int) (n c b : Nat) (w : World) (hln : l.length = n) (hm : n ≤ 4611686018427387904) (hb : w.cell? ⟨b, 0, none⟩ = some (.int .i64 lo)) (hc : Cells w (some ⟨g, 0, none⟩) (i8s l)) :
    Calls Tryz.prog 160 #[.slice (some ⟨g, 0, none⟩) n c, .func (.func 138) #[] #[.pointer (some ⟨b, 0, none⟩)]] w fun e w' => (∃ i : Int, e = .returned (.int .i64 i) ∧ (if 0 ≤ i then btw lo l = false else btw lo l = true)) ∧ w' = w := by
  have HL := Aside.mk (And.intro hln hc)
  have Hb := Aside.mk hb
  clear hln hc hb
  go_enter Tryz.func160, Tryz.ntmps160
  go_wp2
  go_loopw [8] (fun v8 wr => ∃ k : Nat, k ≤ n ∧ v8 = .int .i64 k ∧ Aside (btw lo (l.take k) = true) ∧ wr = w) (fun i _ => n - (intOf i).toNat)
  case atStart => exact ⟨0, by omega, rfl, ⟨rfl⟩, rfl⟩
  case round =>
    obtain ⟨k, hk, rfl, HB, hwr⟩ := hrel
    subst wr
    by_cases hlt : k < n
    · have hlt2 : (k : Int) < n := by omega
      have hkl : k < l.length := by rw [HL.out.1]; exact hlt
      obtain ⟨x, hx⟩ : ∃ x, l[k]? = some x := ⟨_, List.getElem?_eq_getElem hkl⟩
      have gx : w.cell? ⟨g, k, none⟩ = some (.int .i64 x) := by
        have := HL.out.2.some_ k (.int .i64 x) (by unfold i8s; rw [List.getElem?_map, hx]; rfl)
        rw [addr_add, Nat.zero_add] at this
        exact this
      have HX := Aside.mk hx
      clear hx hkl
      cases hq : nOk lo x with
      | false =>
        have HQ : Aside (btw lo l = false) := ⟨btw_bad HX.out hq⟩
        go_wp2_with fail
        refine (btw_in lo x b _ Hb.out).mono ?_
        rintro e w1 ⟨rfl, hw1⟩
        subst w1
        rw [hq]
        go_wp2
        go_ret
        exact ⟨⟨_, rfl, by rw [if_pos (by omega)]; exact HQ.out⟩, rfl⟩
      | true =>
        have HQ : Aside (btw lo (l.take (k + 1)) = true) := ⟨by rw [btw_take HX.out, HB.out, hq]; rfl⟩
        go_wp2_with fail
        refine (btw_in lo x b _ Hb.out).mono ?_
        rintro e w1 ⟨rfl, hw1⟩
        subst w1
        rw [hq]
        go_wp2
        go_roundw
        case rel => exact ⟨k + 1, by omega, by push_cast; rfl, HQ, by first | rfl | trivial⟩
        case measure => simp [intOf]; omega
    · obtain rfl : k = n := by omega
      have HQ : Aside (btw lo l = true) := ⟨by have := HB.out; rwa [List.take_of_length_le (by rw [HL.out.1]; exact Nat.le_refl _)] at this⟩
      go_wp2
      go_ret
      exact ⟨⟨_, rfl, by rw [if_neg (by omega)]; exact HQ.out⟩, rfl⟩
set_option maxHeartbeats 1000000 in
set_option maxRecDepth 100000 in
theorem contains_fn (lo : Int) (g : Nat) (l : List Int) (n c b : Nat) (w : World) (hln : l.length = n) (hm : n ≤ 4611686018427387904) (hb : w.cell? ⟨b, 0, none⟩ = some (.int .i64 lo)) (hc : Cells w (some ⟨g, 0, none⟩) (i8s l)) :
    Calls Tryz.prog 137 #[.slice (some ⟨g, 0, none⟩) n c, .func (.func 138) #[] #[.pointer (some ⟨b, 0, none⟩)]] w fun e w' => e = .returned (.bool (!btw lo l)) ∧ w' = w := by
  have HI := Aside.mk (index_fn lo g l n c b w hln hm hb hc)
  clear hln hc hb
  go_enter Tryz.func137, Tryz.ntmps137
  go_wp2_with fail
  refine HI.out.mono ?_
  rintro e w1 ⟨⟨i, rfl, hi⟩, hw1⟩
  subst w1
  by_cases h0 : 0 ≤ i
  · rw [if_pos h0] at hi
    have HV := Aside.mk hi
    clear hi
    go_wp2
    go_ret
    rw [HV.out]
    exact ⟨rfl, rfl⟩
  · rw [if_neg h0] at hi
    have HV := Aside.mk hi
    clear hi
    go_wp2
    go_ret
    rw [HV.out]
    exact ⟨by show Ending.returned (Value.bool (decide (0 ≤ i))) = _; rw [decide_eq_false (by omega)]; rfl, rfl⟩
set_option maxHeartbeats 1000000 in
set_option maxRecDepth 100000 in
theorem between_ok (E : Env) (q : HP) (lo : Int) (g : Nat) (l : List Int) (n c : Nat) (w : World) (hln : l.length = n) (hm : n ≤ 4611686018427387904) (hq : ∀ w, Sat E w q → Cells w (some ⟨g, 0, none⟩) (i8s l)) (hw : Sat E w q) :
    Calls Tryz.prog 105 #[.int .i64 lo, .slice (some ⟨g, 0, none⟩) n c] w fun e w' => e = .returned (.bool (btw lo l)) ∧ Sat E w' q := by
  have h1 := hw.alloc (.cells #[.int .i64 lo] 3)
  have HI := Aside.mk (And.intro (contains_fn lo g l n c w.heap.size _ hln hm h1.cell1 (hq _ h1.right)) h1.right)
  clear hln hq hw h1
  go_enter Tryz.func105, Tryz.ntmps105
  go_wp2_with fail
  refine HI.out.1.mono ?_
  rintro e w1 ⟨rfl, hw1⟩
  subst w1
  go_wp2
  go_ret
  simp only [Bool.not_not]
  exact ⟨rfl, HI.out.2⟩
structure Anch where
  seq : Int
  gen : Int
  lsn : Int
  seg : Int
  ext : Int
  flo : Int
  new : Int
  keep : Int
  next : Int
  cur : Int
def Anch.l (a : Anch) : List Int := [a.seq, a.gen, a.lsn, a.seg, a.ext, a.flo, a.new, a.keep, a.next, a.cur]
def canA (a : Anch) : Bool := btw 1 [a.seq, a.gen, a.seg, a.next] && btw 0 [a.lsn, a.ext, a.keep, a.cur]
set_option maxHeartbeats 1000000 in
set_option maxRecDepth 100000 in
theorem can_ok (E : Env) (q : HP) (a : Anch) (w : World) (hw : Sat E w q) :
    Calls Tryz.prog 43 #[.agg #[.int .i64 a.seq, .int .i64 a.gen, .int .i64 a.lsn, .int .i64 a.seg, .int .i64 a.ext, .int .i64 a.flo, .int .i64 a.new, .int .i64 a.keep, .int .i64 a.next, .int .i64 a.cur]] w fun e w' => e = .returned (.bool (canA a)) ∧ Sat E w' q := by
  have h1 := (hw.alloc (.cells #[.int .i64 a.seq, .int .i64 a.gen, .int .i64 a.lsn, .int .i64 a.seg, .int .i64 a.ext, .int .i64 a.flo, .int .i64 a.new, .int .i64 a.keep, .int .i64 a.next, .int .i64 a.cur] 24))
  have h2 := h1.alloc (.cells #[.int .i64 a.seq, .int .i64 a.gen, .int .i64 a.seg, .int .i64 a.next] 3)
  have hz : (w.alloc (.cells #[.int .i64 a.seq, .int .i64 a.gen, .int .i64 a.lsn, .int .i64 a.seg, .int .i64 a.ext, .int .i64 a.flo, .int .i64 a.new, .int .i64 a.keep, .int .i64 a.next, .int .i64 a.cur] 24)).heap.size = w.heap.size + 1 := by simp
  rw [hz] at h2
  have H2 := Aside.mk h2
  have HC : Aside (canA a = (btw 1 [a.seq, a.gen, a.seg, a.next] && btw 0 [a.lsn, a.ext, a.keep, a.cur])) := ⟨rfl⟩
  clear hw h1 h2 hz
  go_enter Tryz.func43, Tryz.ntmps43
  go_wp2_with fail
  refine (between_ok E _ 1 (w.heap.size + 1) [a.seq, a.gen, a.seg, a.next] 4 4 _ rfl (by omega) (fun w h => Sat.ptCells (off := 0) (l := i8s [a.seq, a.gen, a.seg, a.next]) h rfl) H2.out).mono ?_
  rintro e w1 ⟨rfl, h3⟩
  cases hb : btw 1 [a.seq, a.gen, a.seg, a.next] with
  | false =>
    have H3 := Aside.mk h3.right.right
    rw [hb] at HC
    clear h3 hb H2
    go_wp2
    go_ret
    rw [HC.out]
    exact ⟨rfl, H3.out⟩
  | true =>
    have H3 := Aside.mk h3.right
    rw [hb] at HC
    have k0 := H3.out.cell 2
    have k1 := H3.out.cell 4
    have k2 := H3.out.cell 7
    have k3 := H3.out.cell 9
    simp only [List.getElem?_toArray, List.getElem?_cons_zero, List.getElem?_cons_succ] at k0 k1 k2 k3
    have H4 := Aside.mk (H3.out.alloc (.cells #[.int .i64 a.lsn, .int .i64 a.ext, .int .i64 a.keep, .int .i64 a.cur] 3))
    clear h3 hb H2
    go_wp2_with fail
    refine (between_ok E _ 0 w1.heap.size [a.lsn, a.ext, a.keep, a.cur] 4 4 _ rfl (by omega) (fun w h => Sat.ptCells (off := 0) (l := i8s [a.lsn, a.ext, a.keep, a.cur]) h rfl) H4.out).mono ?_
    rintro e w2 ⟨rfl, h5⟩
    have H5 := Aside.mk h5.right.right
    clear h5
    go_wp2
    go_ret
    rw [HC.out]
    exact ⟨rfl, H5.out⟩
set_option maxHeartbeats 1000000 in
set_option maxRecDepth 100000 in
theorem equalB_ok (A B : Option Addr) (xs ys : List Int) (c d : Nat) (w : World) (hx : Cells w A (xs.map (Value.int .u8))) (hy : Cells w B (ys.map (Value.int .u8))) (hxs : xs.length ≤ 9223372036854775806) :
    Calls Tryz.prog 37 #[.slice A xs.length c, .slice B ys.length d] w fun e w' => e = .returned (.bool (xs == ys)) ∧ ∃ n, w' = w.drewN n := by
  by_cases hlen : xs.length = ys.length
  · have hb : ((xs.length : Int) == (ys.length : Int)) = true := by rw [hlen]; simp
    have hb' : ((xs.length : Int) != (ys.length : Int)) = false := by simp [hlen]
    have HL := Aside.mk hlen
    clear hlen
    go_enter Tryz.func37, Tryz.ntmps37
    go_wp2
    go_loopw [13] (fun i wr => ∃ k : Nat, k ≤ xs.length ∧ i = .int .i64 k ∧ Aside (xs.take k = ys.take k) ∧ ∃ n, wr = w.drewN n) (fun i _ => xs.length - (intOf i).toNat)
    case atStart => exact ⟨0, Nat.zero_le _, rfl, ⟨rfl⟩, 0, rfl⟩
    case round =>
      obtain ⟨k, hk, rfl, HT, nd, rfl⟩ := hrel
      by_cases hlt : k < xs.length
      · have hlt2 : k < ys.length := by rw [← HL.out]; exact hlt
        obtain ⟨a, rfl, hcx⟩ := hx.at_ k (by simpa using hlt)
        obtain ⟨b, rfl, hcy⟩ := hy.at_ k (by simpa using hlt2)
        simp only [List.getElem_map] at hcx hcy
        have HN : Aside (∀ h1 h2, xs.take (k + 1) = ys.take (k + 1) ↔ xs[k]'h1 = ys[k]'h2) := ⟨fun h1 h2 => by
          rw [List.take_succ_eq_append_getElem h1, List.take_succ_eq_append_getElem h2, HT.out]
          constructor
          · intro h; exact List.singleton_inj.1 (List.append_cancel_left h)
          · intro h; rw [h]⟩
        have HV := HN.out hlt hlt2
        generalize xs[k] = x at hcx HV
        generalize ys[k] = y at hcy HV
        have HV' := Aside.mk HV
        clear HV HN
        have h0 : (0 : Int) ≤ (k : Int) := by omega
        have h1 : (k : Int) < (xs.length : Int) := by omega
        have h2 : (k : Int) < (ys.length : Int) := by omega
        by_cases hxy : x = y
        · subst hxy
          go_wp2
          go_quiet (fail)
          go_wp2
          go_roundw
          case rel => exact ⟨k + 1, by omega, by go_num, ⟨HV'.out.2 (by first | rfl | trivial)⟩, _, rfl⟩
          case measure => simp [intOf]; omega
        · have hne : (x != y) = true := by simpa using hxy
          have hne' : (x == y) = false := by simpa using hxy
          go_wp2
          go_quiet (fail)
          go_wp2
          go_ret
          have hne2 : ¬ xs = ys := fun e => hxy (HV'.out.1 (by rw [e]))
          exact ⟨ret_bool (by simpa using hne2), _, World.drewN_drewN _ _ _⟩
      · obtain rfl : k = xs.length := by omega
        have he : xs = ys := by
          have := HT.out
          rw [List.take_length, HL.out, List.take_length] at this
          exact this
        have HE : Aside ((xs == ys) = true) := ⟨by simp [he]⟩
        clear he
        go_wp2
        go_ret
        exact ⟨ret_bool HE.out.symm, _, rfl⟩
  · have hb : ((xs.length : Int) == (ys.length : Int)) = false := by simp; omega
    have hb' : ((xs.length : Int) != (ys.length : Int)) = true := by simp; omega
    have HE : Aside ((xs == ys) = false) := ⟨by
      have : ¬ xs = ys := fun e => hlen (by rw [e])
      simpa using this⟩
    clear hlen
    go_enter Tryz.func37, Tryz.ntmps37
    go_wp2
    go_ret
    exact ⟨ret_bool HE.out.symm, 0, rfl⟩
def leftN (L : List (MapEntry × Fil)) : Nat := (L.map fun x => x.2.cels.length).sum
structure Copied (A O : Dk) (L : List (MapEntry × Fil)) : Prop where
  room : O.room = A.room
  fuse : O.fuse = A.fuse
  sorted : Sorted O.files
  hit : ∀ x ∈ L, lk O.files x.2.name = none
  rest : ∀ s, (∀ x ∈ L, x.2.name ≠ s) → lk O.files s = lk A.files s
  size : sizeF O.files + leftN L = sizeF A.files
def copyK (O : Dk) (s : ByteArray) (l : List Cel) (k : Nat) : Dk := if k = 0 then O else O.set s (l.take k)
theorem leftZ_names {es : Array MapEntry} {seen : Array Nat} {fs : List Fil} (hn : (fs.map (·.name)).Nodup) (hl : es.toList.length = fs.length) : ((leftZ es seen fs).map fun x => x.2.name).Nodup := by
  have h1 : (leftZ es seen fs).Sublist (es.toList.zip fs) := List.filter_sublist
  have h2 := (h1.map fun x => x.2.name)
  have e : ((es.toList.zip fs).map fun x => x.2.name) = fs.map (·.name) := by
    rw [show (fun x : MapEntry × Fil => x.2.name) = (fun x : Fil => x.name) ∘ Prod.snd from rfl, ← List.map_map, List.map_snd_zip (by omega)]
  rw [e] at h2
  exact hn.sublist h2
theorem copied_start {A : Dk} {es : Array MapEntry} {clock : Nat} {fs : List Fil} (hv : View A es clock fs) : Copied A ⟨A.room, A.fuse, []⟩ (leftZ es #[] fs) := by
  have hlen : es.toList.length = fs.length := by simpa using congrArg List.length hv.map.2.1
  have hm := leftZ_start hlen
  refine ⟨rfl, rfl, List.Pairwise.nil, fun _ _ => rfl, fun s hs => ?_, ?_⟩
  · rw [← hv.same]
    unfold lkF
    rw [List.find?_eq_none.2 (fun f hf => ?_)]
    · rfl
    · rw [← hm] at hf
      obtain ⟨x, hx, rfl⟩ := List.mem_map.1 hf
      simpa using hs x hx
  · have e : sortF fs = A.files := sorted_ext (sortF_sorted fs) hv.fine.sorted fun s => by rw [sortF_lk, hv.same]
    have h2 := sortF_size hv.map.2.2.1
    rw [e] at h2
    have h3 : leftN (leftZ es #[] fs) = total fs := by
      unfold leftN total
      conv => rhs; rw [← hm]
      rw [List.map_map]
      rfl
    rw [h3, h2]
    show 0 + _ = _
    omega
theorem copied_end {A O : Dk} (h : Copied A O []) (hs : Sorted A.files) : O = A := by
  obtain ⟨r, f, fs⟩ := O
  obtain ⟨r2, f2, fs2⟩ := A
  obtain ⟨h1, h2, h3, -, h5, -⟩ := h
  simp only at h1 h2 h3 h5 hs
  subst h1
  subst h2
  rw [sorted_ext h3 hs (fun s => h5 s (by simp))]
theorem set_set {O : Dk} (hs : Sorted O.files) (s : ByteArray) (l l' : List Cel) : (O.set s l).set s l' = O.set s l' := by
  unfold Dk.set
  simp only [Dk.mk.injEq, true_and]
  refine sorted_ext (sorted_put _ _ (sorted_put _ _ hs)) (sorted_put _ _ hs) fun t => ?_
  rw [lk_put _ _ _ (sorted_put _ _ hs), lk_put _ _ _ hs, lk_put _ _ _ hs]
  split <;> rfl
structure CopyAt (A O : Dk) (s : ByteArray) (l : List Cel) (k : Nat) : Prop where
  at_ : (copyK O s l k).at s = l.take k
  free : k < l.length → 0 < (copyK O s l k).free
  room : (copyK O s l k).room = A.room
  next : ∀ c, l[k]? = some c → (copyK O s l k).set s ((copyK O s l k).at s ++ [c]) = copyK O s l (k + 1)
theorem copyAt {A O : Dk} {e : MapEntry} {f : Fil} {L L' : List (MapEntry × Fil)} (hA : (sizeF A.files : Int) ≤ A.room) (h : Copied A O L) (hp : L.Perm ((e, f) :: L')) {k : Nat} (hk : k ≤ f.cs.length) : CopyAt A O f.name f.cs k := by
  have hno : lk O.files f.name = none := h.hit (e, f) (hp.symm.subset (List.mem_cons_self ..))
  have hat0 : O.at f.name = [] := by unfold Dk.at; rw [hno]; rfl
  have hsz : sizeF O.files + f.cs.length ≤ sizeF A.files := by
    have h1 := h.size
    have h2 : leftN L = f.cels.length + leftN L' := by
      unfold leftN
      rw [(hp.map fun x => x.2.cels.length).sum_nat, List.map_cons, List.sum_cons]
    have h3 : f.cs.length = f.cels.length := by unfold Fil.cs; rw [List.length_map]
    omega
  have hat : (copyK O f.name f.cs k).at f.name = f.cs.take k := by
    unfold copyK
    split
    · rename_i h0
      subst h0
      rw [hat0, List.take_zero]
    · rw [at_set h.sorted, if_pos rfl]
  refine ⟨hat, fun hlt => ?_, ?_, fun c hc => ?_⟩
  · have hr := h.room
    unfold copyK Dk.free
    split
    · omega
    · rename_i h0
      have h2 := sizeF_put h.sorted f.name (f.cs.take k)
      rw [hno] at h2
      simp only [Option.getD_none, List.length_nil, List.length_take] at h2
      show 0 < O.room - (sizeF (putF O.files f.name (f.cs.take k)) : Int)
      omega
  · unfold copyK
    split
    · exact h.room
    · exact h.room
  · rw [hat]
    have ht : f.cs.take k ++ [c] = f.cs.take (k + 1) := by
      rw [List.take_add_one, hc]
      rfl
    rw [ht]
    unfold copyK
    rw [if_neg (show ¬ k + 1 = 0 by omega)]
    split
    · rfl
    · exact set_set h.sorted _ _ _
theorem copied_step {A O : Dk} {e : MapEntry} {f : Fil} {L L' : List (MapEntry × Fil)} (h : Copied A O L) (hp : L.Perm ((e, f) :: L')) (hn : (L.map fun x => x.2.name).Nodup) (hf : lk A.files f.name = some f.cs) (h0 : f.cs ≠ []) : Copied A (copyK O f.name f.cs f.cs.length) L' := by
  have hno : lk O.files f.name = none := h.hit (e, f) (hp.symm.subset (List.mem_cons_self ..))
  have hlen : ¬ f.cs.length = 0 := fun h => h0 (List.eq_nil_of_length_eq_zero h)
  have hc : copyK O f.name f.cs f.cs.length = O.set f.name f.cs := by
    unfold copyK
    rw [if_neg hlen, List.take_length]
  have hnd : (((e, f) :: L').map fun x => x.2.name).Nodup := (hp.map fun x => x.2.name).nodup hn
  rw [List.map_cons, List.nodup_cons] at hnd
  rw [hc]
  refine ⟨h.room, h.fuse, sorted_put _ _ h.sorted, fun x hx => ?_, fun s hs => ?_, ?_⟩
  · have hne : f.name ≠ x.2.name := fun he => hnd.1 (List.mem_map.2 ⟨x, hx, he.symm⟩)
    rw [lk_set h.sorted, if_neg hne]
    exact h.hit x (hp.symm.subset (List.mem_cons_of_mem _ hx))
  · rw [lk_set h.sorted]
    split
    · rename_i he
      subst he
      exact hf.symm
    · rename_i hne
      refine h.rest s fun x hx => ?_
      rcases List.mem_cons.1 (hp.subset hx) with rfl | hx2
      · exact hne
      · exact hs x hx2
  · have h1 := h.size
    have h2 : leftN L = f.cels.length + leftN L' := by
      unfold leftN
      rw [(hp.map fun x => x.2.cels.length).sum_nat, List.map_cons, List.sum_cons]
    have h3 : f.cs.length = f.cels.length := by unfold Fil.cs; rw [List.length_map]
    have h4 := sizeF_put h.sorted f.name f.cs
    rw [hno] at h4
    simp only [Option.getD_none, List.length_nil] at h4
    show sizeF (putF O.files f.name f.cs) + leftN L' = _
    omega
end Go.Proofs.YtnpinegpajbkeaaGreatDoor
