/- Texts of one claim, one behind the other: StOnA, StM, StAt, StPa, StT, StAw, StTwP, LeftZ, StMe, Trm. -/
import Derived.Test.YtnpinegpajbkeaaDoorOn6
import Derived.Lib.SlBytesConst
/- What the others tell of a stripe's slot is the slot. -/
namespace Go.Proofs.YtnpinegpajbkeaaDoor
open Go.RowKit HP
set_option linter.unusedSimpArgs false
set_option linter.unusedVariables false

theorem natL {a : List Int} (h : Bytes a) : ∃ n : List Nat, a = n.map (fun x : Nat => (x : Int)) ∧ ∀ x ∈ n, x < 256 := by
  refine ⟨a.map Int.toNat, ?_, fun x hx => ?_⟩
  · rw [List.map_map]
    conv => lhs; rw [← List.map_id a]
    refine List.map_congr_left fun x hx => ?_
    have := h x hx
    show x = ((x.toNat : Nat) : Int)
    omega
  · obtain ⟨y, hy, rfl⟩ := List.mem_map.1 hx
    have := h y hy
    omega
theorem xorB_nat {a b : Nat} (ha : a < 256) (hb : b < 256) : xorB (a : Int) (b : Int) = ((a ^^^ b : Nat) : Int) := by
  unfold xorB
  rw [u8_xor (a : Int) (b : Int) (by omega) (by omega) (by omega) (by omega)]
  rw [Int.toNat_natCast, Int.toNat_natCast]
theorem zipX_nat : ∀ {a b : List Nat}, (∀ x ∈ a, x < 256) → (∀ x ∈ b, x < 256) → zipX (a.map fun x : Nat => (x : Int)) (b.map fun x : Nat => (x : Int)) = (List.zipWith (· ^^^ ·) a b).map fun x : Nat => (x : Int)
  | [], _, _, _ => rfl
  | _ :: _, [], _, _ => rfl
  | x :: a, y :: b, ha, hb => by
    have ih := zipX_nat (a := a) (b := b) (fun z hz => ha z (List.mem_cons_of_mem _ hz)) (fun z hz => hb z (List.mem_cons_of_mem _ hz))
    unfold zipX at ih ⊢
    rw [List.map_cons, List.map_cons, List.zipWith_cons_cons, ih, xorB_nat (ha x List.mem_cons_self) (hb y List.mem_cons_self), List.zipWith_cons_cons, List.map_cons]
theorem zipN_lt {a b : List Nat} (ha : ∀ x ∈ a, x < 256) (hb : ∀ x ∈ b, x < 256) : ∀ x ∈ List.zipWith (· ^^^ ·) a b, x < 256 := by
  intro x hx
  obtain ⟨i, hi, rfl⟩ := List.mem_iff_getElem.1 hx
  rw [List.getElem_zipWith]
  rw [List.length_zipWith] at hi
  exact Nat.xor_lt_two_pow (n := 8) (ha _ (List.getElem_mem (by omega))) (hb _ (List.getElem_mem (by omega)))
theorem xor_four {a b c d : List Int} (ha : Bytes a) (hb : Bytes b) (hc : Bytes c) (la : a.length = 106) (lb : b.length = 106) (lc : c.length = 106) (hd : d = zipX (zipX (zipX (List.replicate 106 0) a) b) c) :
    zipX (zipX (zipX (List.replicate 106 0) b) c) d = a ∧ zipX (zipX (zipX (List.replicate 106 0) a) c) d = b ∧ zipX (zipX (zipX (List.replicate 106 0) a) b) d = c := by
  obtain ⟨a, rfl, ga⟩ := natL ha
  clear ha
  have ha := ga
  obtain ⟨b, rfl, gb⟩ := natL hb
  clear hb
  have hb := gb
  obtain ⟨c, rfl, gc⟩ := natL hc
  clear hc
  have hc := gc
  rw [List.length_map] at la lb lc
  have hz : (List.replicate 106 (0 : Int)) = (List.replicate 106 (0 : Nat)).map fun x : Nat => (x : Int) := by rw [List.map_replicate]; rfl
  have z0 : ∀ x ∈ List.replicate 106 (0 : Nat), x < 256 := fun x hx => by rw [List.eq_of_mem_replicate hx]; omega
  rw [hz] at hd ⊢
  have key : ∀ {p q : List Nat}, (∀ x ∈ p, x < 256) → (∀ x ∈ q, x < 256) → zipX (zipX ((List.replicate 106 (0 : Nat)).map fun x : Nat => (x : Int)) (p.map fun x : Nat => (x : Int))) (q.map fun x : Nat => (x : Int)) = (List.zipWith (· ^^^ ·) (List.zipWith (· ^^^ ·) (List.replicate 106 0) p) q).map fun x : Nat => (x : Int) := fun hp hq => by
    rw [zipX_nat z0 hp, zipX_nat (zipN_lt z0 hp) hq]
  have lt : ∀ {p q : List Nat}, (∀ x ∈ p, x < 256) → (∀ x ∈ q, x < 256) → ∀ x ∈ List.zipWith (· ^^^ ·) (List.zipWith (· ^^^ ·) (List.replicate 106 0) p) q, x < 256 := fun hp hq => zipN_lt (zipN_lt z0 hp) hq
  rw [key ha hb, zipX_nat (lt ha hb) hc] at hd
  have hdl := zipN_lt (lt ha hb) hc
  subst hd
  rw [key hb hc, key ha hc, key ha hb, zipX_nat (lt hb hc) hdl, zipX_nat (lt ha hc) hdl, zipX_nat (lt ha hb) hdl]
  refine ⟨?_, ?_, ?_⟩ <;> congr 1 <;> refine List.ext_getElem (by simp [List.length_zipWith, la, lb, lc]) fun i h1 h2 => ?_ <;> simp only [List.getElem_zipWith, List.getElem_replicate] <;> refine Nat.eq_of_testBit_eq fun j => ?_ <;> simp only [Nat.testBit_xor, Nat.zero_testBit] <;> cases a[i].testBit j <;> cases b[i].testBit j <;> cases c[i].testBit j <;> rfl
theorem slotT_length (l : List Int) (i k : Nat) : (slotT l i k).length = 106 := by
  unfold slotT
  split
  · exact parI_length l i 3
  · exact slotI_length (partI_le _ _)
theorem slotT_bytes {l : List Int} (hb : Bytes l) (i k : Nat) : Bytes (slotT l i k) := by
  unfold slotT
  split
  · exact parI_bytes hb i 3
  · exact slotI_bytes (partI_le _ _) (partI_bytes hb _)
/-- A slot is what the other three make. -/
theorem xorO_slotT {l : List Int} (hb : Bytes l) (i : Nat) {k : Nat} (hk : k < 4) : xorO (slotT l i) k 4 = slotT l i k := by
  have h3 : slotT l i 3 = zipX (zipX (zipX (List.replicate 106 0) (slotT l i 0)) (slotT l i 1)) (slotT l i 2) := rfl
  obtain ⟨e0, e1, e2⟩ := xor_four (slotT_bytes hb i 0) (slotT_bytes hb i 1) (slotT_bytes hb i 2) (slotT_length l i 0) (slotT_length l i 1) (slotT_length l i 2) h3
  have hc : k = 0 ∨ k = 1 ∨ k = 2 ∨ k = 3 := by omega
  rcases hc with rfl | rfl | rfl | rfl
  · exact e0
  · exact e1
  · exact e2
  · exact h3.symm
/-- A slot that a store made is whole. -/
theorem fineS_slotI {p : List Int} (h : p.length ≤ 105) : fineS (slotI p) = true := by
  unfold fineS
  rw [slotI_head]
  simp only [Bool.and_eq_true, decide_eq_true_eq, List.all_eq_true]
  refine ⟨by omega, fun x hx => ?_⟩
  unfold slotI at hx
  rw [Int.toNat_natCast, Nat.add_comm, List.drop_succ_cons, List.drop_left] at hx
  exact List.eq_of_mem_replicate hx
/-- With one slot of a group missing, it is read by the others. -/
theorem atF_one {B : Dk} {x : ByteArray} {gen : Nat} {l : List Int} {i k : Nat} (hb : Bytes l) (hk : k < 4) (hr : ∀ j, j < 4 → j ≠ k → slotOf B x gen i j = (slotT l i j, true)) (hm : (slotOf B x gen i k).2 = false) :
    badN B x gen i 4 = 1 ∧ atF B x gen i k = (slotT l i k, true) := by
  have hn : badN B x gen i 4 = 1 := by
    have hc : k = 0 ∨ k = 1 ∨ k = 2 ∨ k = 3 := by omega
    rcases hc with rfl | rfl | rfl | rfl <;> simp only [badN, hm]
    · rw [hr 1 (by omega) (by omega), hr 2 (by omega) (by omega), hr 3 (by omega) (by omega)]; rfl
    · rw [hr 0 (by omega) (by omega), hr 2 (by omega) (by omega), hr 3 (by omega) (by omega)]; rfl
    · rw [hr 0 (by omega) (by omega), hr 1 (by omega) (by omega), hr 3 (by omega) (by omega)]; rfl
    · rw [hr 0 (by omega) (by omega), hr 1 (by omega) (by omega), hr 2 (by omega) (by omega)]; rfl
  have he : missP B x gen i k = slotT l i k := by
    unfold missP
    rw [xorO_ext (g := slotT l i) k 4 fun j hj hne => by unfold slotsL; rw [hr j hj hne]]
    exact xorO_slotT hb i hk
  refine ⟨hn, ?_⟩
  unfold atF
  rw [if_neg (by rw [hm]; exact Bool.false_ne_true), if_neg (by omega), he]
  by_cases h3 : k = 3
  · rw [decide_eq_true h3]; rfl
  · rw [show fineS (slotT l i k) = true by unfold slotT; rw [if_neg h3]; exact fineS_slotI (partI_le _ _), Bool.or_true]
/-- Groups in which at most one slot is missing are read whole. -/
theorem atF_right1 {B : Dk} {x : ByteArray} {gen : Nat} {l : List Int} {i : Nat} (hb : Bytes l) (m : Nat) (hm : m < 4) (hr : ∀ j, j < 4 → j ≠ m → slotOf B x gen i j = (slotT l i j, true)) (ho : slotOf B x gen i m = (slotT l i m, true) ∨ (slotOf B x gen i m).2 = false) {k : Nat} (hk : k < 4) : atF B x gen i k = (slotT l i k, true) := by
  by_cases e : k = m
  · subst e
    rcases ho with h | h
    · unfold atF
      rw [h]; rfl
    · exact (atF_one hb hk hr h).2
  · unfold atF
    rw [hr k hk e]; rfl
end Go.Proofs.YtnpinegpajbkeaaDoor
/- stripe.look: the walk. -/
namespace Go.Proofs.YtnpinegpajbkeaaDoor
open Go.RowKit HP
set_option linter.unusedSimpArgs false
set_option linter.unusedVariables false

def lookEnd (E : Env) (q : HP) (A : Dk) (x : ByteArray) (gen i : Int) (e : Ending) (w' : World) : Prop := ∃ G R n, e = .returned (.agg (gCells G R n).toArray) ∧ Looked A x gen i 4 G R n ∧ Sat E w' q
set_option maxHeartbeats 4000000 in
set_option maxRecDepth 100000 in
theorem stripe_look (E : Env) (q : HP) (d : Nat) (A : Dk) (name : ByteArray) (gen i : Int) (w : World) (hname : name.size + 2 ≤ maxLen) (hby : ∀ k, k < 4 → ∀ c, A.cel (stripeF name k) i = some c → Bytes c.read)
    (hq : ∀ w, Sat E w q → Quarter w) (hw : Sat E w (HP.disk d A * q)) :
    Calls Tryd.prog 63 #[.pointer (some ⟨d, 0, none⟩), .string name, .int .i64 gen, .int .i64 i] w (lookEnd E (HP.disk d A * q) A name gen i) := by
  have h0 := (hw.alloc (.cells Tryd.zeroCells118 118)).alloc (.cells Tryd.zeroCells118 118)
  rw [show (w.alloc (.cells Tryd.zeroCells118 118)).heap.size = w.heap.size + 1 by simp] at h0
  have HQ := Aside.mk (And.intro hq hby)
  obtain ⟨Z, hZ⟩ : ∃ Z, Z = Tryd.zeroCells118 := ⟨_, rfl⟩
  have HZ : Aside (Z = (gCells (List.replicate 424 0) (List.replicate 4 false) 0).toArray) := ⟨by rw [hZ]; exact zero_grp.symm⟩
  rw [← hZ] at h0
  have H0 := Aside.mk h0
  have hfa : (name ++ dot0).size ≤ maxLen := by rw [(dot_size name).1]; exact hname
  have hfb : (name ++ dot1).size ≤ maxLen := by rw [(dot_size name).2.1]; exact hname
  have hfc : (name ++ dot2).size ≤ maxLen := by rw [(dot_size name).2.2.1]; exact hname
  have hfd : (name ++ dotP).size ≤ maxLen := by rw [(dot_size name).2.2.2]; exact hname
  have HF : Aside (stripeF name 0 = name ++ dot0 ∧ stripeF name 1 = name ++ dot1 ∧ stripeF name 2 = name ++ dot2 ∧ stripeF name 3 = name ++ dotP) := ⟨rfl, rfl, rfl, rfl⟩
  have HZ9 := Aside.mk hZ
  clear h0 hw hq hby
  go_enter Tryd.func63, Tryd.ntmps63
  go_wp2_with fail
  rw [← HZ9.out]
  refine (stripe_names E _ name _ hname H0.out).mono ?_
  rintro e w1 ⟨rfl, h1⟩
  obtain ⟨fa, hfae⟩ : ∃ fa, fa = name ++ dot0 := ⟨_, rfl⟩
  obtain ⟨fb, hfbe⟩ : ∃ fb, fb = name ++ dot1 := ⟨_, rfl⟩
  obtain ⟨fc, hfce⟩ : ∃ fc, fc = name ++ dot2 := ⟨_, rfl⟩
  obtain ⟨fd, hfde⟩ : ∃ fd, fd = name ++ dotP := ⟨_, rfl⟩
  rw [← hfae] at hfa HF ⊢
  rw [← hfbe] at hfb HF ⊢
  rw [← hfce] at hfc HF ⊢
  rw [← hfde] at hfd HF ⊢
  have i0 : ∀ w, (Instr.index 103 (.agg #[.string fa, .string fb, .string fc, .string fd]) (.int .i64 0)).run Tryd.prog w = .ok (.string fa) w := fun w => by kernel_rfl
  have i1 : ∀ w, (Instr.index 103 (.agg #[.string fa, .string fb, .string fc, .string fd]) (.int .i64 1)).run Tryd.prog w = .ok (.string fb) w := fun w => by kernel_rfl
  have i2 : ∀ w, (Instr.index 103 (.agg #[.string fa, .string fb, .string fc, .string fd]) (.int .i64 2)).run Tryd.prog w = .ok (.string fc) w := fun w => by kernel_rfl
  have i3 : ∀ w, (Instr.index 103 (.agg #[.string fa, .string fb, .string fc, .string fd]) (.int .i64 3)).run Tryd.prog w = .ok (.string fd) w := fun w => by kernel_rfl
  have H1 : Aside (∃ G R n, Looked A name gen i 0 G R n ∧ Sat E w1 (HP.pt (w.heap.size + 1) (.cells (gCells G R n).toArray 118) * (HP.pt w.heap.size (.cells Z 118) * (HP.disk d A * q)))) := ⟨_, _, _, looked_start A name gen i, by rw [← HZ.out]; exact h1⟩
  clear h1 hfae hfbe hfce hfde H0 hZ
  generalize w.heap.size + 1 = b at *
  generalize w.heap.size = r at *
  go_wp2
  go_loopw [14] (fun v14 wr => ∃ k : Nat, k ≤ 4 ∧ v14 = .int .i64 k ∧ Aside (∃ G R n, Looked A name gen i k G R n ∧ Sat E wr (HP.pt b (.cells (gCells G R n).toArray 118) * (HP.pt r (.cells Z 118) * (HP.disk d A * q))))) (fun i _ => 4 - (intOf i).toNat)
  case atStart => exact ⟨0, by omega, rfl, H1⟩
  case round =>
    clear H1
    obtain ⟨k, hk, rfl, HK⟩ := hrel
    by_cases hlt : k < 4
    · obtain ⟨f, hf, hff, hix⟩ : ∃ f : ByteArray, f.size ≤ maxLen ∧ stripeF name k = f ∧ ∀ w, (Instr.index 103 (.agg #[.string fa, .string fb, .string fc, .string fd]) (.int .i64 (k : Int))).run Tryd.prog w = .ok (.string f) w := by
        have hc : k = 0 ∨ k = 1 ∨ k = 2 ∨ k = 3 := by omega
        rcases hc with h0 | h0 | h0 | h0 <;> subst h0
        · exact ⟨fa, hfa, HF.out.1, i0⟩
        · exact ⟨fb, hfb, HF.out.2.1, i1⟩
        · exact ⟨fc, hfc, HF.out.2.2.1, i2⟩
        · exact ⟨fd, hfd, HF.out.2.2.2, i3⟩
      obtain ⟨G, R, n, hG, hS⟩ := HK.out
      have hby := HQ.out.2 k hlt
      have HST := Aside.mk (looked_step hG hlt)
      have hSl : (slotOf A name gen i k).1.length = 106 := readS_length _ _ _ _ _
      have hso : readS A f k gen i = slotOf A name gen i k := by unfold slotOf; rw [hff]
      have hn4 : n ≤ 4 := by
        have := hG.bad
        have := badN_le A name gen i k
        omega
      rw [hff] at hby
      have HG := Aside.mk (And.intro hG.len (And.intro hG.rlen (And.intro hSl (And.intro hso hby))))
      have hS2 : Sat E wr (HP.disk d A * (HP.pt b (.cells (gCells G R n).toArray 118) * (HP.pt r (.cells Z 118) * q))) := hS.perm (by ac_rfl)
      have HS := Aside.mk hS2
      clear hG hS hS2 hby hSl hso hff HK i0 i1 i2 i3
      have hlt2 : (k : Int) < 4 := by omega
      go_wp2_with fail
      refine (stripe_read E _ d A f k gen i _ hf hlt HG.out.2.2.2.2 (fun w h => HQ.out.1 w h.right.right) HS.out).mono ?_
      rintro e w3 ⟨rfl, h3⟩
      rw [HG.out.2.2.2.1]
      have hSl := HG.out.2.2.1
      generalize slotOf A name gen i k = so at *
      obtain ⟨S, rt⟩ := so
      dsimp only at *
      have h4 : Sat E w3 (HP.pt b (.cells (gCells G R n).toArray 118) * (HP.pt r (.cells Z 118) * (HP.disk d A * q))) := h3.perm (by ac_rfl)
      have hr4 := run_storeAgg agSlot (g := b) (off := 106 * k) (cs := b8s S) h4.get (by rw [b8s_length]; exact hSl) (by rw [List.size_toArray, gCells_length n HG.out.1 HG.out.2.1]; omega) (b8s_one S)
      have h5 := h4.splice (splice (gCells G R n).toArray.toList (106 * k) (b8s S))
      have e5 : splice (gCells G R n).toArray.toList (106 * k) (b8s S) = gCells (splS G k S) R n := gCells_spl HG.out.1 hlt hSl
      rw [e5] at h5 hr4
      rw [Nat.mul_comm] at hr4
      generalize World.setRow w3 b (gCells (splS G k S) R n).toArray = w5 at *
      have hG5 : (splS G k S).length = 424 := by rw [spl_length hSl (by have := HG.out.1; omega), HG.out.1]
      have g5 : w5.cell? ⟨b, 424 + k, none⟩ = some (.bool (R[k]'(by rw [HG.out.2.1]; exact hlt))) := by rw [h5.cell (424 + k)]; exact gCells_right hG5 (List.getElem?_eq_getElem _)
      generalize (R[k]'(by rw [HG.out.2.1]; exact hlt)) = ob at g5
      have t5 : w5.frozen? ⟨b, 424 + k, none⟩ = false := h5.thaw (424 + k)
      have h6 := h5.set (i := 424 + k) (.bool rt)
      rw [gCells_setR rt hG5 (by rw [HG.out.2.1]; exact hlt)] at h6
      have hR6 : (R.set k rt)[k]? = some rt := by rw [List.getElem?_set_self (by rw [HG.out.2.1]; exact hlt)]
      have hRl : (R.set k rt).length = 4 := by rw [List.length_set]; exact HG.out.2.1
      have g6 : (w5.setCell ⟨b, 424 + k, none⟩ (.bool rt)).cell? ⟨b, 424 + k, none⟩ = some (.bool rt) := by rw [h6.cell (424 + k)]; exact gCells_right hG5 hR6
      have g7 : (w5.setCell ⟨b, 424 + k, none⟩ (.bool rt)).cell? ⟨b, 428, none⟩ = some (.int .i64 n) := by rw [h6.cell 428]; exact gCells_bad n hG5 hRl
      have t7 : (w5.setCell ⟨b, 424 + k, none⟩ (.bool rt)).frozen? ⟨b, 428, none⟩ = false := h6.thaw 428
      have H6 := Aside.mk (And.intro h6 (And.intro hG5 hRl))
      clear h3 h4 h5 h6 e5 hG5 hR6 hRl hSl HS
      cases rt with
      | true =>
        simp only [if_true] at HST
        have H8 : Aside (∃ G R n, Looked A name gen i (k + 1) G R n ∧ Sat E (w5.setCell ⟨b, 424 + k, none⟩ (.bool true)) (HP.pt b (.cells (gCells G R n).toArray 118) * (HP.pt r (.cells Z 118) * (HP.disk d A * q)))) := ⟨_, _, _, HST.out, H6.out.1⟩
        clear HST H6 t7 g7 HG
        go_wp2_with (first | (refine wpList_store_run rfl rfl rfl rfl rfl hr4 ?_))
        go_roundw
        case rel => exact ⟨k + 1, by omega, by push_cast; rfl, H8⟩
        case measure => simp [intOf]; omega
      | false =>
        have H8 : Aside (∃ G' R' n', Looked A name gen i (k + 1) G' R' n' ∧ Sat E ((w5.setCell ⟨b, 424 + k, none⟩ (.bool false)).setCell ⟨b, 428, none⟩ (.int .i64 ((n + 1 : Nat) : Int))) (HP.pt b (.cells (gCells G' R' n').toArray 118) * (HP.pt r (.cells Z 118) * (HP.disk d A * q)))) := ⟨_, _, n + 1, HST.out, by
          have h := H6.out.1.set (i := 428) (.int .i64 ((n + 1 : Nat) : Int))
          rw [gCells_setN (n + 1) H6.out.2.1 H6.out.2.2] at h
          exact h⟩
        push_cast at H8
        clear HST H6 HG
        go_wp2_with (first | (refine wpList_store_run rfl rfl rfl rfl rfl hr4 ?_))
        go_roundw
        case rel => exact ⟨k + 1, by omega, by push_cast; rfl, H8⟩
        case measure => simp [intOf]; omega
    · obtain rfl : k = 4 := by omega
      obtain ⟨G, R, n, hG, hS⟩ := HK.out
      have rl := run_loadAgg (P := Tryd.prog) agGrp (gCells_length n hG.len hG.rlen) (Sat.ptCells (off := 0) (l := gCells G R n) hS (by rw [List.drop_zero, List.take_length]))
      have h2 := hS.s2
      rw [HZ.out] at h2
      have hr2 := run_storeAgg agGrp (g := r) (off := 0) (cs := gCells G R n) h2.get (gCells_length n hG.len hG.rlen) (by rw [List.size_toArray, gCells_length 0 (List.length_replicate ..) (List.length_replicate ..)]; exact Nat.le_refl _) (gCells_one G R n)
      have h3 := h2.splice (splice (gCells (List.replicate 424 0) (List.replicate 4 false) 0).toArray.toList 0 (gCells G R n))
      have e3 : splice (gCells (List.replicate 424 0) (List.replicate 4 false) 0).toArray.toList 0 (gCells G R n) = gCells G R n := by
        unfold splice
        rw [List.take_zero, List.nil_append, Nat.zero_add, List.drop_of_length_le (by rw [show (gCells (List.replicate 424 0) (List.replicate 4 false) 0).toArray.toList.length = 429 from gCells_length 0 (List.length_replicate ..) (List.length_replicate ..), gCells_length n hG.len hG.rlen]; exact Nat.le_refl _), List.append_nil]
      rw [e3] at h3 hr2
      generalize World.setRow wr r (gCells G R n).toArray = w4 at *
      have rl4 := run_loadAgg (P := Tryd.prog) agGrp (gCells_length n hG.len hG.rlen) (Sat.ptCells (off := 0) (l := gCells G R n) h3 (by rw [List.drop_zero, List.take_length]))
      have H3 := Aside.mk (And.intro h3 hG)
      clear hG hS h2 h3 e3 HK i0 i1 i2 i3
      obtain ⟨C, hC⟩ : ∃ C, C = (gCells G R n).toArray := ⟨_, rfl⟩
      rw [← hC] at rl hr2 rl4
      have HC := Aside.mk hC
      clear hC
      go_wp2_with (first | (refine wpList_load_run rfl rfl rfl rl ?_) | (refine wpList_store_run rfl rfl rfl rfl rfl hr2 ?_))
      refine bodyPost_ret (results_cell (t := 8) rfl rfl rl4) rfl ?_
      exact ⟨G, R, n, by rw [HC.out], H3.out.2, H3.out.1.right.right⟩
end Go.Proofs.YtnpinegpajbkeaaDoor
/- stripe.group.at, where nothing is to be mended. -/
namespace Go.Proofs.YtnpinegpajbkeaaDoor
open Go.RowKit HP
set_option linter.unusedSimpArgs false
set_option linter.unusedVariables false

def atP (A : Dk) (x : ByteArray) (gen i : Int) (k : Nat) : List Int × Bool := if (slotOf A x gen i k).2 = true then ((slotOf A x gen i k).1, true) else (slotZ, false)
set_option maxHeartbeats 4000000 in
set_option maxRecDepth 100000 in
theorem stripe_at_plain (E : Env) (q : HP) (b : Nat) (A : Dk) (x : ByteArray) (gen i : Int) (G : List Int) (R : List Bool) (n k : Nat) (w : World) (hk : k < 4) (hG : Looked A x gen i 4 G R n) (hp : (slotOf A x gen i k).2 = true ∨ 1 < n) (hw : Sat E w (HP.pt b (.cells (gCells G R n).toArray 118) * q)) :
    Calls Tryd.prog 64 #[.pointer (some ⟨b, 0, none⟩), .int .i64 k] w fun e w' => e = .returned (.tuple #[.agg (b8s (atP A x gen i k).1).toArray, .bool (atP A x gen i k).2]) ∧ Sat E w' (HP.pt b (.cells (gCells G R n).toArray 118) * q) := by
  have h0 := hw.alloc (.cells Tryd.zeroCells99 99)
  have g1 : (w.alloc (.cells Tryd.zeroCells99 99)).cell? ⟨b, 424 + k, none⟩ = some (.bool (slotOf A x gen i k).2) := by
    rw [h0.s2.cell (424 + k)]
    exact gCells_right hG.len (hG.right k hk)
  have g2 : (w.alloc (.cells Tryd.zeroCells99 99)).cell? ⟨b, 428, none⟩ = some (.int .i64 n) := by
    rw [h0.s2.cell 428]
    exact gCells_bad n hG.len hG.rlen
  have hk2 : (k : Int) < 4 := by omega
  obtain ⟨Z, hZ⟩ : ∃ Z, Z = Tryd.zeroCells99 := ⟨_, rfl⟩
  have HZ : Aside (Z = (b8s slotZ).toArray) := ⟨by rw [hZ]; exact zero_slot.symm⟩
  have HZ9 := Aside.mk hZ
  rw [← hZ] at h0 g1 g2
  have h1 := h0
  rw [HZ.out] at h1
  have hSl : (slotOf A x gen i k).1.length = 106 := readS_length _ _ _ _ _
  by_cases hr : (slotOf A x gen i k).2 = true
  · have HT : Aside (atP A x gen i k = ((slotOf A x gen i k).1, true)) := ⟨by unfold atP; rw [if_pos hr]⟩
    rw [hr] at g1
    obtain ⟨w4, hr4, h4⟩ := run_store_slot (Z := slotZ) (S := (slotOf A x gen i k).1) (List.length_replicate ..) hSl h1
    have rl4 := run_load_slot hSl h4
    have rl : (loadVar 99 ⟨b, k * 106, none⟩).run Tryd.prog (w.alloc (.cells Z 99)) = .ok (.agg (b8s (slotOf A x gen i k).1).toArray) (w.alloc (.cells Z 99)) := run_loadAgg (P := Tryd.prog) agSlot (by rw [b8s_length]; exact hSl) (Sat.ptCells (off := k * 106) (l := b8s (slotOf A x gen i k).1) h0.s2 (by rw [b8s_length, hSl, Nat.mul_comm k 106, ← hG.slot k hk]; exact gCells_sec hG.len hk))
    rw [← HZ.out, HZ9.out] at hr4
    rw [HZ9.out] at g1 rl
    have H4 := Aside.mk h4.right
    clear h0 h1 h4 hG hp hw hr hSl g2
    generalize (slotOf A x gen i k).1 = S at *
    go_enter Tryd.func64, Tryd.ntmps64
    go_wp2_with (first | (refine wpList_load_run rfl rfl rfl rl ?_) | (refine wpList_store_run rfl rfl rfl rfl rfl hr4 ?_))
    refine bodyPost_ret (results_ct rfl rfl rl4) rfl ?_
    rw [HT.out]
    exact ⟨rfl, H4.out⟩
  · have HT : Aside (atP A x gen i k = (slotZ, false)) := ⟨by unfold atP; rw [if_neg hr]⟩
    have hn : 1 < n := by
      rcases hp with hp | hp
      · exact absurd hp hr
      · exact hp
    rw [Bool.not_eq_true] at hr
    rw [hr] at g1
    have hn2 : (1 : Int) < (n : Int) := by omega
    obtain ⟨w4, hr4, h4⟩ := run_store_slot (Z := slotZ) (S := slotZ) (List.length_replicate ..) (List.length_replicate ..) h1
    have rl4 := run_load_slot (S := slotZ) (List.length_replicate ..) h4
    rw [← HZ.out, HZ9.out] at hr4
    have H4 := Aside.mk h4.right
    clear h0 h1 h4 hG hp hw hr hSl
    rw [HZ9.out] at g1 g2
    go_enter Tryd.func64, Tryd.ntmps64
    go_wp2_with (first | (refine wpList_store_run rfl rfl rfl rfl rfl hr4 ?_))
    refine bodyPost_ret (results_ct rfl rfl rl4) rfl ?_
    rw [HT.out]
    exact ⟨rfl, H4.out⟩
end Go.Proofs.YtnpinegpajbkeaaDoor
/- stripe.Part. -/
namespace Go.Proofs.YtnpinegpajbkeaaDoor
open Go.RowKit HP
set_option linter.unusedSimpArgs false
set_option linter.unusedVariables false

def partEnd (E : Env) (q : HP) (r : Option (List Int)) (e : Ending) (w' : World) : Prop :=
  match r with
  | none => e = .returned (.tuple #[.slice none 0 0, .int .i64 50]) ∧ Sat E w' q
  | some l => ∃ v, e = .returned (.tuple #[v, .int .i64 0]) ∧ Sat E w' (HP.row 5 1 v l.length (b8s l) * q)
/-- What the slots of a stripe are told as. -/
structure AtOk (E : Env) (A : Dk) (x : ByteArray) (gen : Int) (at_ : Nat → Nat → List Int × Bool) : Prop where
  call : ∀ (q' : HP) (b : Nat) (G : List Int) (R : List Bool) (n i k : Nat) (w : World), k < 3 → Looked A x gen (i : Int) 4 G R n → Sat E w (HP.pt b (.cells (gCells G R n).toArray 118) * q') →
    Calls Tryd.prog 64 #[.pointer (some ⟨b, 0, none⟩), .int .i64 k] w fun e w' => e = .returned (.tuple #[.agg (b8s (at_ i k).1).toArray, .bool (at_ i k).2]) ∧ Sat E w' (HP.pt b (.cells (gCells G R n).toArray 118) * q')
  len : ∀ i k, (at_ i k).1.length = 106
  bytes : ∀ i k, k < 3 → Bytes (at_ i k).1
theorem run_store_grp {E : Env} {q : HP} {w : World} {g : Nat} {G : List Int} {R : List Bool} {n : Nat} (hG : G.length = 424) (hR : R.length = 4) (h : Sat E w (HP.pt g (.cells Tryd.zeroCells118 118) * q)) :
    ∃ w', (storeVar 118 ⟨g, 0, none⟩ (.agg (gCells G R n).toArray)).run Tryd.prog w = .ok () w' ∧ Sat E w' (HP.pt g (.cells (gCells G R n).toArray 118) * q) := by
  rw [← zero_grp] at h
  have hr2 := run_storeAgg agGrp (g := g) (off := 0) (cs := gCells G R n) h.get (gCells_length n hG hR) (by rw [List.size_toArray, gCells_length 0 (List.length_replicate ..) (List.length_replicate ..)]; exact Nat.le_refl _) (gCells_one G R n)
  have h3 := h.splice (splice (gCells (List.replicate 424 0) (List.replicate 4 false) 0).toArray.toList 0 (gCells G R n))
  have e3 : splice (gCells (List.replicate 424 0) (List.replicate 4 false) 0).toArray.toList 0 (gCells G R n) = gCells G R n := by
    unfold splice
    rw [List.take_zero, List.nil_append, Nat.zero_add, List.drop_of_length_le (by rw [show (gCells (List.replicate 424 0) (List.replicate 4 false) 0).toArray.toList.length = 429 from gCells_length 0 (List.length_replicate ..) (List.length_replicate ..), gCells_length n hG hR]; exact Nat.le_refl _), List.append_nil]
  rw [e3] at h3 hr2
  exact ⟨_, hr2, h3⟩
theorem run_store_zero {E : Env} {q : HP} {w : World} {g : Nat} {S : List Int} (hS : S.length = 106) (h : Sat E w (HP.pt g (.cells Tryd.zeroCells99 99) * q)) :
    ∃ w', (storeVar 99 ⟨g, 0, none⟩ (.agg (b8s S).toArray)).run Tryd.prog w = .ok () w' ∧ Sat E w' (HP.pt g (.cells (b8s S).toArray 99) * q) := by
  rw [← zero_slot] at h
  exact run_store_slot (List.length_replicate ..) hS h
set_option maxHeartbeats 4000000 in
set_option maxRecDepth 100000 in
theorem stripe_part (E : Env) (q : HP) (d : Nat) (A : Dk) (name : ByteArray) (gen : Int) (fr0 size : Nat) (at_ : Nat → Nat → List Int × Bool) (w : World) (hname : name.size + 2 ≤ maxLen) (hf0 : fr0 ≤ 2147483647) (hsz : size ≤ 2147483647) (hby : ∀ k, k < 4 → ∀ (i : Int) c, A.cel (stripeF name k) i = some c → Bytes c.read)
    (hat : AtOk E A name gen at_) (hq : ∀ w, Sat E w q → Quarter w) (hw : Sat E w (HP.disk d A * q)) :
    Calls Tryd.prog 21 #[.pointer (some ⟨d, 0, none⟩), .string name, .int .i64 gen, .int .i64 fr0, .int .i64 size] w (partEnd E (HP.disk d A * q) (partM at_ (fr0 + size) fr0 (fr0 + size) [])) := by
  have HQ := Aside.mk (And.intro hq (And.intro hby (And.intro hat hw)))
  obtain ⟨en, hen⟩ : ∃ en, en = fr0 + size := ⟨_, rfl⟩
  have hsum : (fr0 : Int) + (size : Int) = (en : Int) := by omega
  have hen2 : en ≤ 4294967294 := by omega
  have hfe : fr0 ≤ en := by omega
  rw [← hen]
  clear hq hby hat hw hen
  go_enter Tryd.func21, Tryd.ntmps21
  go_wp2_with fail
  refine (stripe_none E q d A _ HQ.out.2.2.2).mono ?_
  rintro e w1 ⟨rfl, h1⟩
  have H1 := Aside.mk (h1.row_nil 5 1 none)
  clear h1
  go_wp2
  go_loopw [3, 12] (fun v3 v12 wr => ∃ (fr c : Nat) (out : List Int), v3 = .int .i64 fr ∧ fr ≤ en ∧ en ≤ fr + c ∧ out.length ≤ fr ∧ Aside (partM at_ c fr en out = partM at_ en fr0 en []) ∧ Aside (Sat E wr (HP.row 5 1 v12 out.length (b8s out) * (HP.disk d A * q)))) (fun i _ _ => en - (intOf i).toNat)
  case atStart => exact ⟨fr0, en, [], rfl, hfe, by omega, by simp, ⟨rfl⟩, H1⟩
  case round =>
    clear H1
    obtain ⟨fr, c, out, rfl, hfr, hc, hol, HM, HS⟩ := hrel
    by_cases hlt : fr < en
    · have hlt2 : (fr : Int) < (en : Int) := by omega
      obtain ⟨c, rfl⟩ : ∃ c2, c = c2 + 1 := ⟨c - 1, by omega⟩
      obtain ⟨e0, he0⟩ : ∃ e0, e0 = fr / 105 := ⟨_, rfl⟩
      obtain ⟨sk, hsk⟩ : ∃ sk, sk = fr % 105 := ⟨_, rfl⟩
      obtain ⟨gi, hgi⟩ : ∃ gi, gi = e0 / 3 := ⟨_, rfl⟩
      obtain ⟨kk, hkk⟩ : ∃ kk, kk = e0 % 3 := ⟨_, rfl⟩
      obtain ⟨nn, hnn⟩ : ∃ nn, nn = min (105 - sk) (en - fr) := ⟨_, rfl⟩
      have x1 : (fr : Int).tdiv 105 = (e0 : Int) := by rw [Int.tdiv_eq_ediv_of_nonneg (by omega)]; omega
      have x2 : (fr : Int).tmod 105 = (sk : Int) := by rw [Int.tmod_eq_emod_of_nonneg (by omega)]; omega
      have x3 : (e0 : Int).tdiv 3 = (gi : Int) := by rw [Int.tdiv_eq_ediv_of_nonneg (by omega)]; omega
      have x4 : (e0 : Int).tmod 3 = (kk : Int) := by rw [Int.tmod_eq_emod_of_nonneg (by omega)]; omega
      have y1 : (if (en : Int) - (fr : Int) < 105 - (sk : Int) then (en : Int) - (fr : Int) else 105 - (sk : Int)) = (nn : Int) := by split <;> omega
      have hk3 : kk < 3 := by omega
      have hsk5 : sk < 105 := by omega
      have hnn5 : sk + nn ≤ 105 := by omega
      have hnn0 : 0 < nn := by omega
      have hnne : fr + nn ≤ en := by omega
      have he00 : (e0 : Int) ≤ 4294967294 := by omega
      have hgi0 : (gi : Int) ≤ 4294967294 := by omega
      have HP1 : Aside (partM at_ (c + 1) fr en out = if (at_ gi kk).2 = true ∧ ((sk + nn : Nat) : Int) ≤ (at_ gi kk).1.headD 0 then partM at_ c (fr + nn) en (out ++ ((at_ gi kk).1.drop (1 + sk)).take nn) else none) := ⟨by
        conv => lhs; unfold partM
        rw [if_pos hlt, hnn, hkk, hgi, hsk, he0]⟩
      rw [HM.out] at HP1
      obtain ⟨AV, cV, rfl, hcV, hmV⟩ := HS.out.row_slice
      obtain ⟨no, hno⟩ : ∃ no, no = out.length := ⟨_, rfl⟩
      rw [← hno] at HS hol hcV ⊢
      have HNO := Aside.mk hno
      have hnom : (no : Int) ≤ 4294967294 := by omega
      clear HM he0 hsk hgi hkk hnn hno
      go_wp2_with fail
      refine (stripe_look E (HP.row 5 1 (.slice AV no cV) no (b8s out) * q) d A name gen gi _ hname (fun k hk c => HQ.out.2.1 k hk _ c) (fun w h => HQ.out.1 w h.right) HS.out.s2).mono ?_
      intro e w3 h3
      obtain ⟨G, R, n, rfl, hG, h3⟩ := h3
      have h4 := h3.alloc (.cells Tryd.zeroCells118 118)
      obtain ⟨w5, hr5, h5⟩ := run_store_grp (n := n) hG.len hG.rlen h4
      have HC := Aside.mk (HQ.out.2.2.1.call _ _ _ _ _ _ _ w5 hk3 hG h5)
      obtain ⟨C, hC⟩ : ∃ C, C = (gCells G R n).toArray := ⟨_, rfl⟩
      rw [← hC] at hr5 HC ⊢
      clear h3 h4 h5 hG hC HS x1 x2
      go_wp2_with (first | (refine wpList_store_run rfl rfl rfl rfl rfl hr5 ?_))
      refine HC.out.mono ?_
      rintro e w6 ⟨rfl, h6⟩
      have hSl := HQ.out.2.2.1.len gi kk
      have hSb := HQ.out.2.2.1.bytes gi kk hk3
      generalize at_ gi kk = so at *
      obtain ⟨S, ok⟩ := so
      dsimp only at *
      obtain ⟨w8, hr8, h8⟩ := run_store_zero hSl (h6.right.alloc (.cells Tryd.zeroCells99 99))
      have hx0 := getD_byte hSb 0
      have g8 : w8.cell? ⟨w6.heap.size, 0, none⟩ = some (.int .u8 (S.getD 0 0)) := by rw [h8.cell 0]; exact b8s_getD (by omega)
      have hhd : S.headD 0 = S.getD 0 0 := by cases S <;> rfl
      rw [hhd] at HP1
      have H8 := Aside.mk (And.intro h8 hSl)
      obtain ⟨x0, hx0e⟩ : ∃ x0, x0 = S.getD 0 0 := ⟨_, rfl⟩
      rw [← hx0e] at hx0 g8 HP1
      obtain ⟨C8, hC8⟩ : ∃ C8, C8 = (b8s S).toArray := ⟨_, rfl⟩
      rw [← hC8] at hr8 ⊢
      clear h6 h8 hSl hSb hhd hx0e hC8 HC hr5
      by_cases hc : ok = true ∧ ((sk + nn : Nat) : Int) ≤ x0
      · rw [if_pos hc] at HP1
        obtain ⟨rfl, hc2⟩ := hc
        have hc3 : (sk : Int) + nn ≤ x0 := by omega
        have hc4 : ¬ x0 < (sk : Int) + nn := by omega
        have sl := run_slot_slice w8 w6.heap.size (1 + (sk : Int)) (1 + (sk : Int) + (nn : Int)) (by omega) (by omega) (by omega) (by omega)
        rw [show (1 + (sk : Int) + (nn : Int) - (1 + (sk : Int))).toNat = nn by omega, show (106 : Nat) - (1 + (sk : Int)).toNat = 105 - sk by omega, show (1 + (sk : Int)).toNat = 1 + sk by omega] at sl
        have hlS : ((S.drop (1 + sk)).take nn).length = nn := by rw [List.length_take, List.length_drop, H8.out.2]; omega
        have h9 : Sat E w8 (HP.row 5 1 (.slice AV no cV) no (b8s out) * (HP.disk d A * (HP.pt w6.heap.size (.cells (b8s S).toArray 99) * q))) := H8.out.1.perm (by ac_rfl)
        have H9 := Aside.mk (And.intro h9 (And.intro (Sat.ptCells (off := 1 + sk) (l := b8s ((S.drop (1 + sk)).take nn)) H8.out.1 (by unfold b8s; rw [List.length_map, hlS, ← List.map_drop, ← List.map_take])) (show (b8s ((S.drop (1 + sk)).take nn)).length = nn * 1 by rw [b8s_length, hlS, Nat.mul_one])))
        generalize (S.drop (1 + sk)).take nn = T at *
        clear h9 H8 hc2
        go_wp2_with (first | (refine wpList_store_run rfl rfl rfl rfl rfl hr8 ?_) | (at_builtin; refine wpList_append_row slB8 rfl rfl (by rfl) (by rfl) H9.out.1 H9.out.2.1 H9.out.2.2 (b8s_one _) (by unfold maxLen; omega) (by omega) (fun v5 w5 hw5 => ?_); obtain ⟨A5, c5, rfl, -, -⟩ := hw5.row_slice; have HW5 := Aside.mk hw5; clear hw5))
        have HF : Aside (Sat E w5 (HP.row 5 1 (.slice A5 (no + nn) c5) (out ++ T).length (b8s (out ++ T)) * (HP.disk d A * q))) := ⟨by
          rw [List.length_append, b8s_append, hlS, ← HNO.out]
          exact (HW5.out.perm (by ac_rfl : _ = HP.pt w6.heap.size (.cells (b8s S).toArray 99) * (HP.row 5 1 (.slice A5 (no + nn) c5) (no + nn) (b8s out ++ b8s T) * (HP.disk d A * q)))).right⟩
        refine ⟨⟨fr + nn, c, out ++ T, by push_cast; rfl, hnne, by omega, by rw [List.length_append, hlS, ← HNO.out]; omega, ⟨HP1.out.symm⟩, HF⟩, ?_⟩
        simp only [intOf]
        omega
      · rw [if_neg hc] at HP1
        have HX : Aside (partM at_ en fr0 en [] = none) := ⟨HP1.out⟩
        have HF : Aside (Sat E w8 (HP.disk d A * q)) := ⟨(H8.out.1.perm (by ac_rfl : _ = HP.pt w6.heap.size (.cells (b8s S).toArray 99) * (HP.row 5 1 (.slice AV no cV) no (b8s out) * (HP.disk d A * q)))).right.right⟩
        clear H8 HP1
        cases ok with
        | false =>
          clear hc
          go_wp2_with (first | (refine wpList_store_run rfl rfl rfl rfl rfl hr8 ?_))
          go_ret2
          rw [HX.out]
          exact ⟨rfl, HF.out⟩
        | true =>
          have hc4 : x0 < (sk : Int) + nn := by
            have : ¬ ((sk + nn : Nat) : Int) ≤ x0 := fun h => hc ⟨rfl, h⟩
            omega
          clear hc
          go_wp2_with (first | (refine wpList_store_run rfl rfl rfl rfl rfl hr8 ?_))
          go_ret2
          rw [HX.out]
          exact ⟨rfl, HF.out⟩
    · obtain rfl : fr = en := by omega
      have HX : Aside (partM at_ fr fr0 fr [] = some out) := ⟨by
        rw [← HM.out]
        cases c with
        | zero => rfl
        | succ c => unfold partM; rw [if_neg (Nat.lt_irrefl _)]⟩
      have hnl : ¬ (fr : Int) < (fr : Int) := by omega
      clear HM
      go_wp2
      go_ret2
      rw [HX.out]
      exact ⟨_, rfl, HS.out⟩
end Go.Proofs.YtnpinegpajbkeaaDoor
/- stripe.Store: the walk. -/
namespace Go.Proofs.YtnpinegpajbkeaaDoor
open Go.RowKit HP
set_option linter.unusedSimpArgs false
set_option linter.unusedVariables false

theorem run_make_big {E : Env} {q : HP} {w : World} (h : Sat E w q) (n : Nat) (hn : n ≤ 600000000000) (kl kc : IntKind) :
    ∃ w', (Instr.makeSlice 97 (.int kl n) (.int kc n)).run Tryd.prog w = .ok (.slice (some ⟨w.heap.size, 0, none⟩) n n) w' ∧ Sat E w' (HP.pt w.heap.size (.cells (b8s (List.replicate (424 * n) 0)).toArray 101) * q) := by
  have hinf := info_four
  cases hi : Tryd.prog.info? 101 with
  | none => rw [hi] at hinf; cases hinf
  | some i =>
    rw [hi] at hinf
    simp only [Option.map_some, Option.some.injEq, Prod.mk.injEq] at hinf
    obtain ⟨hz0, hs, hb⟩ := hinf
    cases hz : i.zero with
    | none => rw [hz] at hz0; cases hz0
    | some z =>
      rw [hz] at hz0
      simp only [Option.map_some, Option.some.injEq] at hz0
      have hr := run_make (P := Tryd.prog) w 97 101 i z Tryd.underlying97 hi hz kl kc n n (by omega) (Int.le_refl _) (by rw [hb]; omega) (by omega)
      rw [Int.toNat_natCast, hs, hz0, made_groups] at hr
      exact ⟨_, hr, h.alloc _⟩
set_option maxHeartbeats 4000000 in
set_option maxRecDepth 100000 in
theorem stripe_store (E : Env) (q : HP) (d : Nat) (A : Dk) (name : ByteArray) (gen : Nat) (Ap : Option Addr) (l : List Int) (m c : Nat) (w : World) (hname : name.size + 2 ≤ maxLen) (hgen : (gen : Int) ≤ 4611686018427387904) (hlm : l.length = m) (hmc : m ≤ c) (hcm : c ≤ maxLen) (hm9 : m ≤ 140737488351232) (hl : Bytes l)
    (hq : ∀ w, Sat E w q → Quarter w ∧ Cells w Ap (b8s l)) (hw : Sat E w (HP.disk d A * q)) :
    Calls Tryd.prog 17 #[.pointer (some ⟨d, 0, none⟩), .string name, .int .i64 gen, .slice Ap m c] w fun e w' => e = .returned (.int .i64 (storeS A name gen l).1) ∧ Sat E w' (HP.disk d (storeS A name gen l).2 * q) := by
  have HS : Aside (storeS A name gen l = if (dropS A name).1 = 0 then wrT (dropS A name).2 gen (fsS name l) else dropS A name) := ⟨rfl⟩
  have HQ := Aside.mk (And.intro hq (And.intro hl (And.intro hlm (And.intro hw (And.intro hname hcm)))))
  clear hq hl hlm hw hcm
  go_enter Tryd.func17, Tryd.ntmps17
  go_wp2_with fail
  refine (stripe_none E q d A _ HQ.out.2.2.2.1).mono ?_
  rintro e w1 ⟨rfl, h1⟩
  have H1 := Aside.mk h1
  clear h1
  go_wp2_with fail
  refine (stripe_drop E q d A name _ hname H1.out).mono ?_
  rintro e w2 ⟨rfl, h2⟩
  have H2 := Aside.mk h2
  clear h2 H1 hname
  by_cases h0 : (dropS A name).1 = 0
  · rw [if_pos h0] at HS
    rw [h0]
    generalize (dropS A name).2 = B at *
    clear h0
    go_wp2_with fail
    refine (stripe_groups m _ (by unfold wf64; omega)).mono ?_
    rintro e w3 ⟨rfl, hw3⟩
    subst w3
    rw [groupsI_nat]
    obtain ⟨n, hn⟩ : ∃ n, n = groupsN m := ⟨_, rfl⟩
    have hn9 : n ≤ 600000000000 := by
      have := groupsN_bounds m
      omega
    rw [← hn]
    have HN := Aside.mk hn
    clear hn
    obtain ⟨w4, hmk, h4⟩ := run_make_big H2.out n hn9 .i64 .i64
    have H4 : Aside (∃ G, Grp l n G 0 0 ∧ Sat E w4 (HP.pt w2.heap.size (.cells (b8s G).toArray 101) * (HP.disk d B * q))) := ⟨_, grp_start l n, h4⟩
    clear h4 H2
    go_wp2_with (first | (refine wpList_make_run rfl rfl rfl rfl hmk ?_))
    clear hmk
    generalize w2.heap.size = bG at *
    go_loopw [45] (fun v45 wr => ∃ g : Nat, g ≤ n ∧ v45 = .int .i64 g ∧ Aside (∃ G, Grp l n G g 0 ∧ Sat E wr (HP.pt bG (.cells (b8s G).toArray 101) * (HP.disk d B * q)))) (fun i _ => n - (intOf i).toNat)
    case atStart => exact ⟨0, by omega, rfl, H4⟩
    case round =>
      clear H4
      obtain ⟨g, hg, rfl, HG⟩ := hrel
      by_cases hlt : g < n
      · have hlt2 : (g : Int) < n := by omega
        go_wp2
        go_loopw [48] (fun v48 w2 => ∃ k : Nat, k ≤ 3 ∧ v48 = .int .i64 k ∧ Aside (∃ G, Grp l n G g k ∧ Sat E w2 (HP.pt bG (.cells (b8s G).toArray 101) * (HP.disk d B * q)))) (fun i _ => 3 - (intOf i).toNat)
        case atStart => exact ⟨0, by omega, rfl, HG⟩
        case round =>
          clear HG
          obtain ⟨k, hk, rfl, HK⟩ := hrel
          by_cases hk3 : k < 3
          · have hk32 : (k : Int) < 3 := by omega
            obtain ⟨fr, hfr⟩ : ∃ fr, fr = min (105 * (3 * g + k)) m := ⟨_, rfl⟩
            obtain ⟨to, hto⟩ : ∃ to, to = min (fr + 105) m := ⟨_, rfl⟩
            have y1 : (if (m : Int) < 105 * (3 * (g : Int) + (k : Int)) then (m : Int) else 105 * (3 * (g : Int) + (k : Int))) = (fr : Int) := by split <;> omega
            have y2 : (if (m : Int) < (fr : Int) + 105 then (m : Int) else (fr : Int) + 105) = (to : Int) := by split <;> omega
            have y3 : fr ≤ to := by omega
            have y4 : to ≤ m := by omega
            have y5 : to ≤ c := by omega
            have y6 : to - fr ≤ 105 := by omega
            have HP : Aside ((l.drop fr).take (to - fr) = partI l (3 * g + k)) := ⟨by
              have := part_cut l (3 * g + k) m HQ.out.2.2.1
              rw [← hfr, ← hto] at this
              exact this⟩
            have sl := run_cut_bytes wr Ap m c fr to y3 y5
            have HC : Aside (∀ w', Sat E w' q → Cells w' (cutA Ap c fr) (b8s (partI l (3 * g + k)))) := ⟨fun w' h => by
              rw [← HP.out]
              exact cut_cells (HQ.out.1 w' h).2 y3 y5 (by rw [HQ.out.2.2.1]; exact y4)⟩
            have HPL : Aside ((partI l (3 * g + k)).length = to - fr) := ⟨by rw [← HP.out, List.length_take, List.length_drop, HQ.out.2.2.1]; omega⟩
            generalize cutA Ap c fr = A' at *
            obtain ⟨G, hG, hGS⟩ := HK.out
            have HG := Aside.mk hG
            have HGS := Aside.mk hGS
            clear hG hGS HK hfr hto
            go_wp2_with fail
            refine (stripe_of E _ A' (partI l (3 * g + k)) (to - fr) (c - fr) _ HPL.out y6 (fun w' h => HC.out w' h.right.right) HGS.out).mono ?_
            rintro e w5 ⟨rfl, h5⟩
            have hS := slotI_length (partI_le l (3 * g + k))
            have HGN := Aside.mk (grp_step HG.out hlt hk3)
            obtain ⟨S, hSe⟩ : ∃ S, S = slotI (partI l (3 * g + k)) := ⟨_, rfl⟩
            rw [← hSe] at hS HGN ⊢
            clear hSe
            have h6 := h5.alloc (.cells Tryd.zeroCells99 99)
            have r6 := run_storeAgg agSlot (g := w5.heap.size) (off := 0) (cs := b8s S) h6.get (by rw [b8s_length]; exact hS) (by rw [← zero_slot]; simp [b8s_length]) (b8s_one S)
            have h7 := h6.splice (splice Tryd.zeroCells99.toList 0 (b8s S))
            rw [splice_all hS] at h7 r6
            generalize World.setRow (w5.alloc (.cells Tryd.zeroCells99 99)) w5.heap.size (b8s S).toArray = w7 at *
            have HS7 := Aside.mk (And.intro hS h7)
            clear hS h7 h6 h5 sl y1 y2 HC HPL HP
            go_wp2_with (first | (refine wpList_store_run rfl rfl rfl rfl rfl r6 ?_))
            generalize w5.heap.size = bS at *
            have hgl := HG.out.len
            have e1 : g * 424 + k * 106 = 106 * (4 * g + k) := by omega
            have h8 : Sat E w7.drew (HP.pt bG (.cells (b8s G).toArray 101) * (HP.pt bS (.cells (b8s S).toArray 99) * (HP.disk d B * q))) := HS7.out.2.drew.perm (by ac_rfl)
            have rl := run_loadAgg (P := Tryd.prog) agSlot (by rw [b8s_length]; exact HS7.out.1) (Sat.ptCells (off := 0) (l := b8s S) HS7.out.2.drew (by rw [List.drop_zero, List.take_length]))
            have rst := run_storeAgg agSlot (g := bG) (off := 106 * (4 * g + k)) (cs := b8s S) h8.get (by rw [b8s_length]; exact HS7.out.1) (by simp [b8s_length]; omega) (b8s_one S)
            have h9 := h8.splice (splice (b8s G).toArray.toList (106 * (4 * g + k)) (b8s S))
            rw [splice_b8s G S _ HS7.out.1] at h9 rst
            rw [← e1] at rst
            generalize World.setRow w7.drew bG (b8s (splS G (4 * g + k) S)).toArray = w9 at *
            have H9 := Aside.mk h9
            clear h8 h9 e1
            have rl2 := run_loadAgg (P := Tryd.prog) agSlot (by rw [b8s_length]; exact HS7.out.1) (Sat.ptCells (off := 0) (l := b8s S) H9.out.drew.s2 (by rw [List.drop_zero, List.take_length]))
            have hmx := stripe_mix E _ bG (106 * (4 * g + 3)) 101 (splS G (4 * g + k) S) S w9.drew HS7.out.1 (by rw [spl_length HS7.out.1 (by omega)]; omega) H9.out.drew
            rw [show (⟨bG, 106 * (4 * g + 3), none⟩ : Addr) = ⟨bG, g * 424 + 318, none⟩ by congr 1; omega] at hmx
            obtain ⟨C, hC⟩ : ∃ C, C = (b8s S).toArray := ⟨_, rfl⟩
            rw [← hC] at rl rst rl2 hmx
            have HCC := Aside.mk hC
            clear hC
            have hk42 : (k : Int) < 4 := by omega
            refine region_R [6] [] (fun _ => True) #[false, false, false, false, false, false, false] (by kernel_rfl) rfl rfl ?_
            refine wpR_rd 0 #[true, false, false, false, false, false, false] rfl onlyN_noPanic (by kernel_rfl) (fun K hK => ?_); (go_simp; try go_bits); refine hK _ ?_; clear hK K
            refine wpR_rd 1 #[true, true, false, false, false, false, false] rfl onlyN_noPanic (by kernel_rfl) (fun K hK => ?_); (go_simp; try go_bits); refine hK _ ?_; clear hK K
            refine wpR_rd 2 #[true, true, true, false, false, false, false] rfl onlyN_noPanic (by kernel_rfl) (fun K hK => ?_); (go_simp; try go_bits); refine hK _ ?_; clear hK K
            refine wpR_read (i := 3) #[true, true, true, true, false, false, false] rfl onlyN_noPanic (by kernel_rfl) (.inl ⟨rfl, exec_load rfl rfl rl⟩) ?_
            simp only [Act.put, List.setIfInBounds_toArray, List.set_cons_zero, List.set_cons_succ]
            refine wpR_rd 4 #[true, true, true, true, true, false, false] rfl onlyN_noPanic (by kernel_rfl) (fun K hK => ?_); (go_simp; try go_bits); refine hK _ ?_; clear hK K
            refine wpR_rd 5 #[true, true, true, true, true, true, false] rfl onlyN_noPanic (by kernel_rfl) (fun K hK => ?_); (go_simp; try go_bits); refine hK _ ?_; clear hK K
            refine wpR_eff #[true, true, true, true, true, true, true] (i := 6) rfl (by kernel_rfl) (fun K hK => ?_)
            refine Eq.mpr (if_pos (by rfl)) ?_; refine wp_store_run rfl rfl rfl rfl rst ?_; refine hK _ _ ?_; clear hK K
            refine wpR_done (by kernel_rfl) ?_ _
            simp only [OnlyN]
            go_wp2
            refine region_R [5] [] (fun _ => True) #[false, false, false, false, false, false] (by kernel_rfl) rfl rfl ?_
            refine wpR_rd 0 #[true, false, false, false, false, false] rfl onlyN_noPanic (by kernel_rfl) (fun K hK => ?_); (go_simp; try go_bits); refine hK _ ?_; clear hK K
            refine wpR_rd 1 #[true, true, false, false, false, false] rfl onlyN_noPanic (by kernel_rfl) (fun K hK => ?_); (go_simp; try go_bits); refine hK _ ?_; clear hK K
            refine wpR_rd 2 #[true, true, true, false, false, false] rfl onlyN_noPanic (by kernel_rfl) (fun K hK => ?_); (go_simp; try go_bits); refine hK _ ?_; clear hK K
            refine wpR_rd 3 #[true, true, true, true, false, false] rfl onlyN_noPanic (by kernel_rfl) (fun K hK => ?_); (go_simp; try go_bits); refine hK _ ?_; clear hK K
            refine wpR_read (i := 4) #[true, true, true, true, true, false] rfl onlyN_noPanic (by kernel_rfl) (.inl ⟨rfl, exec_load rfl rfl rl2⟩) ?_
            simp only [Act.put, List.setIfInBounds_toArray, List.set_cons_zero, List.set_cons_succ]
            refine wpR_eff #[true, true, true, true, true, true] (i := 5) rfl (by kernel_rfl) (fun K hK => ?_)
            go_simp
            refine hmx.mono ?_
            rintro e w10 ⟨rfl, h10⟩
            have H10 := Aside.mk h10.drop2
            clear hmx h10 H9 rl rl2 rst
            refine hK _ _ ?_; clear hK K
            refine wpR_done (by kernel_rfl) ?_ _
            simp only [OnlyN]
            go_wp2
            go_roundw
            case rel => exact ⟨k + 1, by omega, by push_cast; rfl, ⟨_, HGN.out, H10.out⟩⟩
            case measure => simp [intOf]; omega
          · obtain rfl : k = 3 := by omega
            obtain ⟨G, hG, hGS⟩ := HK.out
            have HN2 : Aside (∃ G, Grp l n G (g + 1) 0 ∧ Sat E wr (HP.pt bG (.cells (b8s G).toArray 101) * (HP.disk d B * q))) := ⟨G, grp_next hG hlt, hGS⟩
            clear hG hGS HK
            go_wp2
            go_roundw
            case rel => exact ⟨g + 1, by omega, by push_cast; rfl, HN2⟩
            case measure => simp [intOf]; omega
      · obtain rfl : g = n := by omega
        obtain ⟨G, hG, hGS⟩ := HG.out
        have HG := Aside.mk hG
        have HGS := Aside.mk hGS
        clear hG hGS
        have hnm := HQ.out.2.2.2.2.1
        have hfa : (name ++ dot0).size ≤ maxLen := by rw [(dot_size name).1]; exact hnm
        have hfb : (name ++ dot1).size ≤ maxLen := by rw [(dot_size name).2.1]; exact hnm
        have hfc : (name ++ dot2).size ≤ maxLen := by rw [(dot_size name).2.2.1]; exact hnm
        have hfd : (name ++ dotP).size ≤ maxLen := by rw [(dot_size name).2.2.2]; exact hnm
        have HF : Aside (fsS name l = [(name ++ dot0, paysS l g 0), (name ++ dot1, paysS l g 1), (name ++ dot2, paysS l g 2), (name ++ dotP, paysS l g 3)]) := ⟨by unfold fsS; rw [HQ.out.2.2.1, ← HN.out]⟩
        go_wp2_with fail
        refine (stripe_names E _ name _ hnm HGS.out).mono ?_
        rintro e w5 ⟨rfl, h5⟩
        obtain ⟨fa, hfae⟩ : ∃ fa, fa = name ++ dot0 := ⟨_, rfl⟩
        obtain ⟨fb, hfbe⟩ : ∃ fb, fb = name ++ dot1 := ⟨_, rfl⟩
        obtain ⟨fc, hfce⟩ : ∃ fc, fc = name ++ dot2 := ⟨_, rfl⟩
        obtain ⟨fd, hfde⟩ : ∃ fd, fd = name ++ dotP := ⟨_, rfl⟩
        rw [← hfae] at hfa HF ⊢
        rw [← hfbe] at hfb HF ⊢
        rw [← hfce] at hfc HF ⊢
        rw [← hfde] at hfd HF ⊢
        have H5 := Aside.mk h5
        clear h5 HGS hfae hfbe hfce hfde hnm hg hlt HN
        have i0 : ∀ w, (Instr.index 103 (.agg #[.string fa, .string fb, .string fc, .string fd]) (.int .i64 0)).run Tryd.prog w = .ok (.string fa) w := fun w => by kernel_rfl
        have i1 : ∀ w, (Instr.index 103 (.agg #[.string fa, .string fb, .string fc, .string fd]) (.int .i64 1)).run Tryd.prog w = .ok (.string fb) w := fun w => by kernel_rfl
        have i2 : ∀ w, (Instr.index 103 (.agg #[.string fa, .string fb, .string fc, .string fd]) (.int .i64 2)).run Tryd.prog w = .ok (.string fc) w := fun w => by kernel_rfl
        have i3 : ∀ w, (Instr.index 103 (.agg #[.string fa, .string fb, .string fc, .string fd]) (.int .i64 3)).run Tryd.prog w = .ok (.string fd) w := fun w => by kernel_rfl
        have hg31 : g ≤ 600000000000 := hn9
        go_wp2
        go_loopw [84] (fun v84 wr => ∃ (h : Nat) (B' : Dk), h ≤ 4 ∧ v84 = .int .i64 h ∧ Aside (wrT B' gen ((fsS name l).drop h) = wrT B gen (fsS name l)) ∧ Aside (Sat E wr (HP.pt bG (.cells (b8s G).toArray 101) * (HP.disk d B' * q)))) (fun i _ => 4 - (intOf i).toNat)
        case atStart => exact ⟨0, B, by omega, rfl, ⟨rfl⟩, H5⟩
        case round =>
          clear H5
          obtain ⟨h, B', hh, rfl, HA, HX⟩ := hrel
          by_cases hlt : h < 4
          · obtain ⟨f, hf, hff, hix⟩ : ∃ f : ByteArray, f.size ≤ maxLen ∧ (fsS name l).drop h = (f, paysS l g h) :: (fsS name l).drop (h + 1) ∧ ∀ w, (Instr.index 103 (.agg #[.string fa, .string fb, .string fc, .string fd]) (.int .i64 (h : Int))).run Tryd.prog w = .ok (.string f) w := by
              rw [HF.out]
              have hc : h = 0 ∨ h = 1 ∨ h = 2 ∨ h = 3 := by omega
              rcases hc with h0 | h0 | h0 | h0 <;> subst h0
              · exact ⟨fa, hfa, rfl, i0⟩
              · exact ⟨fb, hfb, rfl, i1⟩
              · exact ⟨fc, hfc, rfl, i2⟩
              · exact ⟨fd, hfd, rfl, i3⟩
            rw [hff] at HA
            clear hff
            have hlt2 : (h : Int) < 4 := by omega
            have HW : Aside (wrT B' gen ((f, paysS l g h) :: (fsS name l).drop (h + 1)) = if (wrF B' f gen 0 (paysS l g h)).1 = 0 then wrT (wrF B' f gen 0 (paysS l g h)).2 gen ((fsS name l).drop (h + 1)) else wrF B' f gen 0 (paysS l g h)) := ⟨rfl⟩
            go_wp2
            go_loopw [90] (fun v90 w2 => ∃ (i : Nat) (B2 : Dk), i ≤ g ∧ v90 = .int .i64 i ∧ Aside (wrF B2 f gen i ((paysS l g h).drop i) = wrF B' f gen 0 (paysS l g h)) ∧ Aside (Sat E w2 (HP.pt bG (.cells (b8s G).toArray 101) * (HP.disk d B2 * q)))) (fun i _ => g - (intOf i).toNat)
            case atStart => exact ⟨0, B', by omega, rfl, ⟨rfl⟩, HX⟩
            case round =>
              clear HX
              obtain ⟨i, B2, hi, rfl, HB, HTT⟩ := hrel
              by_cases hin : i < g
              · have hpk := paysS_drop l g h hin
                obtain ⟨z1, z2, z3⟩ := grp_pay HG.out hin hlt
                have HZ := Aside.mk (And.intro z1 (And.intro (payS_length l i h) (payS_bytes HQ.out.2.1 i h)))
                have hgl := HG.out.len
                have rl := run_loadAgg (P := Tryd.prog) agSlot (a := ⟨bG, i * 424 + h * 106, none⟩) (cs := b8s (sec G (4 * i + h))) (by rw [b8s_length]; exact z3) (Sat.ptCells (off := i * 424 + h * 106) (l := b8s (sec G (4 * i + h))) HTT.out (by
                  rw [b8s_length, z3, show i * 424 + h * 106 = 106 * (4 * i + h) by omega]
                  unfold b8s sec
                  rw [List.map_take, List.map_drop]))
                have hin2 : (i : Int) < g := by omega
                rw [hpk] at HB
                clear hpk z1
                generalize sec G (4 * i + h) = S at *
                obtain ⟨p, hp⟩ : ∃ p, p = payS l i h := ⟨_, rfl⟩
                rw [← hp] at HB HZ
                clear hp
                have HN2 : Aside (wrF B2 f gen i (p :: (paysS l g h).drop (i + 1)) = if ¬ FrameOk i gen p.length then (1, B2) else if (B2.write f i (extI f i gen p)).1 = 0 then wrF (B2.write f i (extI f i gen p)).2 f gen (i + 1) ((paysS l g h).drop (i + 1)) else B2.write f i (extI f i gen p)) := ⟨rfl⟩
                rw [HB.out] at HN2
                have HS3 := Aside.mk (And.intro z3 z2)
                clear z2 z3 hgl
                go_wp2_with (first | (refine wpList_load_run rfl rfl rfl rl ?_))
                refine (stripe_payload E _ h S _ hlt HS3.out.1 HS3.out.2 HTT.out).mono ?_
                intro e w6 h6
                obtain ⟨Ap6, c6, m6, R6, rfl, hm6, hm106, hmc6, hcm6, hs6, hc6⟩ := h6
                rw [HZ.out.1] at hm6 hc6
                have H6 := Aside.mk (And.intro hs6 (And.intro hc6 hm6))
                clear hs6 hc6 hm6 rl HTT HS3
                by_cases hi31 : i ≤ 2147483647
                rotate_left
                · rw [if_pos (by
                    intro hn
                    have := hn.2.1
                    omega)] at HN2
                  have HX2 : Aside (storeS A name gen l = (1, B2)) := ⟨by rw [HS.out, ← HA.out, HW.out, HN2.out, if_neg (show ¬ (1 : Int) = 0 by decide)]⟩
                  have H9 : Aside (Sat E w6 (HP.disk d B2 * q)) := ⟨H6.out.1.right.right⟩
                  clear HN2 HB HA HW H6 HZ
                  go_wp2_with fail
                  refine (ext_frame_bad f i gen Ap6 m6 c6 _ (by intro hn; have := hn.2.1; omega)).mono ?_
                  rintro e w7 ⟨rfl, hw7⟩
                  subst w7
                  go_wp2
                  go_ret
                  rw [HX2.out]
                  exact ⟨rfl, H9.out⟩
                rw [if_neg (by
                  intro hn
                  exact hn ⟨by omega, by omega, by omega, hgen, HZ.out.2.1⟩)] at HN2
                go_wp2_with fail
                refine (ext_frame E _ f i gen Ap6 p m6 c6 _ hf (by omega) hgen H6.out.2.2 hm106 HZ.out.2.2 (fun w' h => ⟨(HQ.out.1 w' h.right.right.right).1, H6.out.2.1 w' _ h⟩) H6.out.1).mono ?_
                rintro e w7 ⟨gI, rfl, h7⟩
                have hIl : (extI f i gen p).length = 128 := extI_length HZ.out.2.1
                obtain ⟨I, hIe⟩ : ∃ I, I = extI f i gen p := ⟨_, rfl⟩
                rw [← hIe] at hIl h7 HN2
                clear hIe
                have H7 : Aside (Sat E w7 (HP.disk d B2 * (HP.pt gI (.cells (b8s I).toArray 136) * (HP.pt bG (.cells (b8s G).toArray 101) * q)))) := ⟨(h7.perm (by ac_rfl : _ = R6 * (HP.disk d B2 * (HP.pt gI (.cells (b8s I).toArray 136) * (HP.pt bG (.cells (b8s G).toArray 101) * q))))).right⟩
                have HIL := Aside.mk hIl
                clear h7 H6 hIl HZ hm106 hmc6 hcm6
                go_wp2_with fail
                refine (disk_write E _ d B2 f i (some ⟨gI, 0, none⟩) I 128 128 _ hf HIL.out (by unfold maxLen; omega) (fun w h => Sat.ptCells (off := 0) h (by rw [List.drop_zero, List.take_length])) H7.out).mono ?_
                rintro e w8 ⟨rfl, h8⟩
                have H8 : Aside (Sat E w8 (HP.pt bG (.cells (b8s G).toArray 101) * (HP.disk d (B2.write f (i : Int) I).2 * q))) := ⟨(h8.perm (by ac_rfl : _ = HP.pt gI (.cells (b8s I).toArray 136) * (HP.pt bG (.cells (b8s G).toArray 101) * (HP.disk d (B2.write f (i : Int) I).2 * q)))).right⟩
                clear h8 H7
                by_cases h0 : (B2.write f (i : Int) I).1 = 0
                · rw [h0]
                  rw [if_pos h0] at HN2
                  generalize (B2.write f (i : Int) I).2 = B3 at *
                  have HX2 : Aside (wrF B3 f gen (i + 1) ((paysS l g h).drop (i + 1)) = wrF B' f gen 0 (paysS l g h)) := ⟨by rw [HN2.out]⟩
                  clear HN2 h0 HB
                  go_wp2
                  go_roundw
                  case rel => exact ⟨i + 1, B3, by omega, by push_cast; rfl, HX2, H8⟩
                  case measure => simp [intOf]; omega
                · rw [if_neg h0] at HN2
                  have HX2 : Aside (storeS A name gen l = B2.write f (i : Int) I) := ⟨by rw [HS.out, ← HA.out, HW.out, HN2.out, if_neg h0]⟩
                  obtain ⟨ec, hec⟩ : ∃ ec, ec = (B2.write f (i : Int) I).1 := ⟨_, rfl⟩
                  rw [← hec] at h0 ⊢
                  have HE := Aside.mk hec
                  clear HN2 hec HB HA HW
                  go_wp2
                  go_ret
                  rw [HX2.out, ← HE.out]
                  exact ⟨rfl, H8.out.right⟩
              · obtain rfl : i = g := by omega
                have hpl : (paysS l i h).drop i = [] := List.drop_eq_nil_of_le (by unfold paysS; rw [List.length_map, List.length_range]; exact Nat.le_refl _)
                rw [hpl] at HB
                clear hpl
                have HB2 : Aside (wrF B' f gen 0 (paysS l i h) = B2.sync f) := ⟨by rw [← HB.out]; rfl⟩
                rw [HB2.out] at HW
                clear HB hix i0 i1 i2 i3
                go_wp2_with fail
                refine (disk_sync E (HP.pt bG (.cells (b8s G).toArray 101) * q) d B2 f _ hf (HTT.out.perm (by ac_rfl))).mono ?_
                rintro e w7 ⟨rfl, h7⟩
                have H7 : Aside (Sat E w7 (HP.pt bG (.cells (b8s G).toArray 101) * (HP.disk d (B2.sync f).2 * q))) := ⟨h7.perm (by ac_rfl)⟩
                clear h7 HTT
                by_cases h0 : (B2.sync f).1 = 0
                · rw [h0]
                  rw [if_pos h0] at HW
                  have HX2 : Aside (wrT (B2.sync f).2 gen ((fsS name l).drop (h + 1)) = wrT B gen (fsS name l)) := ⟨by rw [← HA.out, HW.out]⟩
                  generalize (B2.sync f).2 = B3 at *
                  clear HW HA HB2 h0
                  go_wp2
                  go_roundw
                  case rel => exact ⟨h + 1, B3, by omega, by push_cast; rfl, HX2, H7⟩
                  case measure => simp [intOf]; omega
                · rw [if_neg h0] at HW
                  have HX2 : Aside (storeS A name gen l = B2.sync f) := ⟨by rw [HS.out, ← HA.out, HW.out]⟩
                  obtain ⟨ec, hec⟩ : ∃ ec, ec = (B2.sync f).1 := ⟨_, rfl⟩
                  rw [← hec] at h0 ⊢
                  have HE := Aside.mk hec
                  clear hec HB2 HA HW
                  go_wp2
                  go_ret
                  rw [HX2.out, ← HE.out]
                  exact ⟨rfl, H7.out.right⟩
          · obtain rfl : h = 4 := by omega
            rw [HF.out] at HA
            have HX2 : Aside (storeS A name gen l = (0, B')) := ⟨by rw [HS.out, HF.out, ← HA.out]; rfl⟩
            clear HA i0 i1 i2 i3
            go_wp2
            go_ret
            rw [HX2.out]
            exact ⟨rfl, HX.out.right⟩
  · rw [if_neg h0] at HS
    obtain ⟨ec, hec⟩ : ∃ ec, ec = (dropS A name).1 := ⟨_, rfl⟩
    rw [← hec] at h0 ⊢
    have HE := Aside.mk hec
    clear hec
    go_wp2
    go_ret
    rw [HS.out, HE.out]
    exact ⟨rfl, H2.out⟩
end Go.Proofs.YtnpinegpajbkeaaDoor
/- A text is stored on a new disk in a stripe, and read: awake of layer 6; what slots are told as where nothing is to be mended. -/
namespace Go.Proofs.YtnpinegpajbkeaaDoor
open Go.RowKit HP
set_option linter.unusedSimpArgs false
set_option linter.unusedVariables false

theorem slotZ_bytes : Bytes slotZ := fun x hx => by rw [List.eq_of_mem_replicate hx]; omega
theorem readT_bytes (file : Nat) {p : List Int} (h : Bytes p) : Bytes (readT file p).1 := by
  unfold readT
  split
  · intro x hx
    rcases List.mem_append.1 hx with hx | hx
    · exact h x hx
    · rw [List.eq_of_mem_replicate hx]; omega
  · exact slotI_bytes (by rw [List.length_take]; omega) (fun x hx => h x (List.mem_of_mem_take hx))
theorem openI_bytesS {b : List Int} {f : ByteArray} {i : Int} {p : List Int} {g : Nat} (h : openI b f i = some (p, g)) (hb : Bytes b) : Bytes p := by
  unfold openI at h
  split at h
  · cases h
  · split at h
    · cases h
    · split at h
      · cases h
      · simp only [Option.some.injEq, Prod.mk.injEq] at h
        rw [← h.1]
        exact fun x hx => hb x (List.mem_of_mem_drop (List.mem_of_mem_take hx))
theorem readS_bytes {A : Dk} {f : ByteArray} {file : Nat} {gen i : Int} (hb : ∀ c, A.cel f i = some c → Bytes c.read) : Bytes (readS A f file gen i).1 := by
  unfold readS
  split
  · exact slotZ_bytes
  · rename_i c hc
    split
    · exact slotZ_bytes
    · rename_i x hx
      split
      · exact slotZ_bytes
      · exact readT_bytes file (openI_bytesS (p := x.1) (g := x.2) hx (hb c hc))
theorem atOk_plain {E : Env} {A : Dk} {x : ByteArray} {gen : Int} (hb : ∀ k, k < 4 → ∀ (i : Int) c, A.cel (stripeF x k) i = some c → Bytes c.read) (hp : ∀ i k : Nat, k < 3 → (slotOf A x gen i k).2 = true ∨ 1 < badN A x gen i 4) : AtOk E A x gen (fun i k => atP A x gen i k) := by
  refine ⟨fun q' b G R n i k w hk hG hw => stripe_at_plain E q' b A x gen i G R n k w (by omega) hG ?_ hw, fun i k => ?_, fun i k hk => ?_⟩
  · rcases hp i k hk with h | h
    · exact .inl h
    · exact .inr (by rw [hG.bad]; exact h)
  · unfold atP
    split
    · exact readS_length _ _ _ _ _
    · rfl
  · unfold atP
    split
    · exact readS_bytes (hb k (by omega) i)
    · exact slotZ_bytes
theorem stRead_at {E : Env} {B : Dk} {x : ByteArray} {gen : Nat} {l : List Int} (h : StRead B x gen l) : AtOk E B x gen (fun i k => atP B x gen i k) ∧ AtText l (fun i k => atP B x gen i k) ∧ ∀ i k, k < 3 → i < groupsN l.length → (atP B x gen i k).2 = true := by
  refine ⟨atOk_plain h.bytes fun i k hk => ?_, ⟨fun i k hk hr => ?_⟩, fun i k hk hi => ?_⟩
  · rcases Nat.lt_or_ge i (groupsN l.length) with hi | hi
    · exact .inl (by rw [h.right i k (by omega) hi])
    · exact .inr (by rw [badN_all 4 (fun j hj => by rw [h.none i j hj hi])]; decide)
  · unfold atP at hr ⊢
    split at hr
    · rename_i h2
      rw [if_pos h2]
      rcases Nat.lt_or_ge i (groupsN l.length) with hi | hi
      · rw [h.right i k (by omega) hi]
        unfold slotT
        rw [if_neg (by omega)]
      · rw [h.none i k (by omega) hi] at h2
        cases h2
    · cases hr
  · unfold atP
    rw [h.right i k (by omega) hi]
    rfl
end Go.Proofs.YtnpinegpajbkeaaDoor
/- StripeTwo, the plain part: two extents of a group turned. -/
namespace Go.Proofs.YtnpinegpajbkeaaDoor
open Go.RowKit HP
set_option linter.unusedSimpArgs false
set_option linter.unusedVariables false

/-- What becomes of a disk of which one byte of one extent is turned. -/
structure Rotted (A B : Dk) (f : ByteArray) (i : Nat) (I : List Int) : Prop where
  sorted : Sorted B.files
  turned : ∃ c, B.cel f i = some c ∧ c.read = I
  others : ∀ g (j : Int), g ≠ f ∨ j ≠ i → B.cel g j = A.cel g j
theorem cel_set_other {A : Dk} (hs : Sorted A.files) {f g : ByteArray} {k : Nat} {j : Int} {d : Cel} (h : g ≠ f ∨ j ≠ k) : (A.set f ((A.at f).set k d)).cel g j = A.cel g j := by
  unfold Dk.cel
  rw [at_set hs]
  by_cases e : f = g
  · subst e
    rw [if_pos rfl]
    have hj : j ≠ k := by
      rcases h with h | h
      · exact absurd rfl h
      · exact h
    split
    · rw [List.getElem?_set_ne (by omega)]
    · rfl
  · rw [if_neg e]
theorem rotted_of {A : Dk} {f : ByteArray} {k t : Nat} {m : Int} {I : List Int} (hs : Sorted A.files) (hc : A.cel f k = some (stl I)) (ht : t < 128) : (A.rot f k t m).1 = 0 ∧ Rotted A (A.rot f k t m).2 f k (xorAt I t m) := by
  rw [rot_at hc ht]
  exact ⟨rfl, sorted_put _ _ hs, ⟨_, cel_set_self hs hc, rfl⟩, fun g j h => cel_set_other hs h⟩
theorem stripeF_ne {x : ByteArray} (h : FourNames x) {j k : Nat} (hj : j < 4) (hk : k < 4) (e : j ≠ k) : stripeF x j ≠ stripeF x k := by
  have hp := h.ne
  simp only [List.pairwise_cons, List.mem_cons, List.not_mem_nil, or_false, forall_eq_or_imp, forall_eq, List.Pairwise.nil, and_true, false_implies, implies_true] at hp
  have cj : j = 0 ∨ j = 1 ∨ j = 2 ∨ j = 3 := by omega
  have ck : k = 0 ∨ k = 1 ∨ k = 2 ∨ k = 3 := by omega
  obtain ⟨⟨a, b, c⟩, ⟨d, e'⟩, f⟩ := hp
  rcases cj with rfl | rfl | rfl | rfl <;> rcases ck with rfl | rfl | rfl | rfl <;> first | exact absurd rfl e | (simp only [stripeF_0, stripeF_1, stripeF_2, stripeF_3]; first | assumption | exact Ne.symm (by assumption))
theorem readS_same {A B : Dk} {f : ByteArray} {file : Nat} {gen i : Int} (h : B.cel f i = A.cel f i) : readS B f file gen i = readS A f file gen i := by
  unfold readS
  rw [h]
theorem readS_turned {B : Dk} {f : ByteArray} {file : Nat} {gen i : Int} {c : Cel} (hc : B.cel f i = some c) (h : openI c.read f i = none) : readS B f file gen i = (slotZ, false) := by
  unfold readS
  rw [hc]
  dsimp only
  rw [h]
theorem badN_mono {A : Dk} {x : ByteArray} {gen i : Int} : ∀ k, badN A x gen i k ≤ badN A x gen i (k + 1) := fun k => by
  rw [badN]
  omega
theorem badN_two {A : Dk} {x : ByteArray} {gen i : Int} {f h : Nat} (hf : f < 4) (hh : h < 4) (e : f ≠ h) (bf : (slotOf A x gen i f).2 = false) (bh : (slotOf A x gen i h).2 = false) : 1 < badN A x gen i 4 := by
  have cf : f = 0 ∨ f = 1 ∨ f = 2 ∨ f = 3 := by omega
  have ch : h = 0 ∨ h = 1 ∨ h = 2 ∨ h = 3 := by omega
  rcases cf with rfl | rfl | rfl | rfl <;> rcases ch with rfl | rfl | rfl | rfl <;> first | exact absurd rfl e | (simp only [badN, bf, bh]; simp; try omega)
structure StTwo (B : Dk) (x : ByteArray) (gen : Nat) (l : List Int) (g f h : Nat) : Prop where
  bytes : ∀ k, k < 4 → ∀ (i : Int) c, B.cel (stripeF x k) i = some c → Bytes c.read
  bad : 1 < badN B x gen g 4
  ok : ∀ i k : Nat, k < 3 → (slotOf B x gen i k).2 = true ∨ 1 < badN B x gen i 4
  text : ∀ i k : Nat, k < 3 → (slotOf B x gen i k).2 = true → slotOf B x gen i k = (slotT l i k, true)
/-- Two bytes of two extents of one group are turned. -/
theorem stTwo_of {room : Int} {A : Dk} {x : ByteArray} {gen : Nat} {l : List Int} (N : FourNames x) (hA : StHas room x gen l A) (hg : gen ≤ 4611686018427387904) (hn : groupsN l.length ≤ 2147483647) (hb : Bytes l) {g f h s t : Nat} {m n : Int} (hgr : g < groupsN l.length) (hf : f < 4) (hh : h < 4) (e : f ≠ h) (hs : s < 128) (ht : t < 128) (hm : 0 < m) (hm2 : m ≤ 255) (hn1 : 0 < n) (hn2 : n ≤ 255) :
    (A.rot (stripeF x f) g s m).1 = 0 ∧ StTwo ((A.rot (stripeF x f) g s m).2.rot (stripeF x h) g t n).2 x gen l g f h := by
  have hR := stRead_of hA hg hn hb
  have ca : ∀ k, k < 4 → A.cel (stripeF x k) (g : Int) = some (stl (extI (stripeF x k) g gen (payS l g k))) := fun k hk => held_cel (hA.held k hk) (paysS_get l _ k hgr)
  have hne : stripeF x h ≠ stripeF x f := stripeF_ne N hh hf (Ne.symm e)
  obtain ⟨r1, R1⟩ := rotted_of (m := m) hA.sorted (ca f hf) hs
  refine ⟨r1, ?_⟩
  generalize (A.rot (stripeF x f) (g : Int) (s : Int) m).2 = B1 at *
  have cb : B1.cel (stripeF x h) (g : Int) = some (stl (extI (stripeF x h) g gen (payS l g h))) := by rw [R1.others _ _ (.inl hne)]; exact ca h hh
  obtain ⟨r2, R2⟩ := rotted_of (m := n) R1.sorted cb ht
  generalize (B1.rot (stripeF x h) (g : Int) (t : Int) n).2 = B2 at *
  obtain ⟨c1, hc1, hr1⟩ := R1.turned
  obtain ⟨c2, hc2, hr2⟩ := R2.turned
  have hc1' : B2.cel (stripeF x f) (g : Int) = some c1 := by rw [R2.others _ _ (.inl (Ne.symm hne))]; exact hc1
  have bf : slotOf B2 x gen g f = (slotZ, false) := readS_turned hc1' (by rw [hr1]; exact openI_xorAt (payS_length l g f) (payS_bytes hb g f) hs hm hm2)
  have bh : slotOf B2 x gen g h = (slotZ, false) := readS_turned hc2 (by rw [hr2]; exact openI_xorAt (payS_length l g h) (payS_bytes hb g h) ht hn1 hn2)
  have bad : 1 < badN B2 x gen g 4 := badN_two hf hh e (by rw [bf]) (by rw [bh])
  have same : ∀ k (j : Int), k < 4 → j ≠ g → B2.cel (stripeF x k) j = A.cel (stripeF x k) j := fun k j hk hj => by rw [R2.others _ _ (.inr hj), R1.others _ _ (.inr hj)]
  have hs2 : ∀ i j : Nat, j < 4 → i ≠ g → slotOf B2 x gen i j = slotOf A x gen i j := fun i j hj hi => readS_same (same j i hj (by omega))
  refine ⟨fun k hk j c hc => ?_, bad, fun i k hk => ?_, fun i k hk hr => ?_⟩
  · by_cases ej : j = g
    · subst ej
      by_cases ekh : k = h
      · subst ekh
        rw [hc2] at hc
        cases hc
        rw [hr2]
        exact xorAt_bytes (extI_bytes (payS_length l g k) (payS_bytes hb g k)) (by omega) hn2
      · by_cases ekf : k = f
        · subst ekf
          rw [hc1'] at hc
          cases hc
          rw [hr1]
          exact xorAt_bytes (extI_bytes (payS_length l g k) (payS_bytes hb g k)) (by omega) hm2
        · rw [R2.others _ _ (.inl (stripeF_ne N hk hh ekh)), R1.others _ _ (.inl (stripeF_ne N hk hf ekf))] at hc
          exact hR.bytes k hk _ c hc
    · rw [same k j hk ej] at hc
      exact hR.bytes k hk j c hc
  · by_cases ei : i = g
    · subst ei
      exact .inr bad
    · rcases Nat.lt_or_ge i (groupsN l.length) with hi | hi
      · left
        rw [hs2 i k (by omega) ei, hR.right i k (by omega) hi]
      · right
        rw [badN_all 4 (fun j hj => by rw [hs2 i j hj ei, hR.none i j hj hi])]
        decide
  · by_cases ei : i = g
    · subst ei
      by_cases ekh : k = h
      · subst ekh
        rw [bh] at hr
        cases hr
      · by_cases ekf : k = f
        · subst ekf
          rw [bf] at hr
          cases hr
        · have : slotOf B2 x gen i k = slotOf A x gen i k := readS_same (by rw [R2.others _ _ (.inl (stripeF_ne N (by omega) hh ekh)), R1.others _ _ (.inl (stripeF_ne N (by omega) hf ekf))])
          rw [this, hR.right i k (by omega) hgr]
    · rw [hs2 i k (by omega) ei] at hr ⊢
      rcases Nat.lt_or_ge i (groupsN l.length) with hi | hi
      · exact hR.right i k (by omega) hi
      · rw [hR.none i k (by omega) hi] at hr
        cases hr
theorem stTwo_at {E : Env} {B : Dk} {x : ByteArray} {gen : Nat} {l : List Int} {g f h : Nat} (T : StTwo B x gen l g f h) : AtOk E B x gen (fun i k => atP B x gen i k) ∧ AtText l (fun i k => atP B x gen i k) := by
  refine ⟨atOk_plain T.bytes T.ok, ⟨fun i k hk hr => ?_⟩⟩
  unfold atP at hr ⊢
  split at hr
  · rename_i h2
    rw [if_pos h2, T.text i k hk h2]
    unfold slotT
    rw [if_neg (by omega)]
  · cases hr
end Go.Proofs.YtnpinegpajbkeaaDoor
/- A disk's files that have not come yet, while they come in any order. -/
namespace Go.Proofs.YtnpinegpajbkeaaDoor
open Go.RowKit HP
set_option linter.unusedSimpArgs false
set_option linter.unusedVariables false

theorem putF_perm {α : Type} {s : ByteArray} {v : α} : ∀ {l : List (ByteArray × α)}, lk l s = none → (putF l s v).Perm ((s, v) :: l)
  | [], _ => List.Perm.refl _
  | (t, u) :: l, h => by
    rw [lk_cons] at h
    split at h
    · cases h
    · rename_i hne
      unfold putF
      rw [if_neg hne]
      split
      · exact List.Perm.refl _
      · exact ((putF_perm h).cons _).trans (List.Perm.swap _ _ _)
theorem sortF_perm {fs : List Fil} (hn : (fs.map (·.name)).Nodup) : (sortF fs).Perm (fs.map fun f => (f.name, f.cs)) := by
  induction fs with
  | nil => exact List.Perm.refl _
  | cons f fs ih =>
    simp only [List.map_cons, List.nodup_cons] at hn
    have h2 : lk (sortF fs) f.name = none := by
      rw [sortF_lk]
      unfold lkF
      rw [Option.map_eq_none_iff, List.find?_eq_none]
      intro x hx he
      simp only [decide_eq_true_eq] at he
      exact hn.1 (List.mem_map.2 ⟨x, hx, he⟩)
    exact (putF_perm h2).trans ((ih hn.2).cons _)
theorem files_perm {A : Dk} {es : Array MapEntry} {clock : Nat} {fs : List Fil} (hv : View A es clock fs) : (fs.map fun f => (f.name, f.cs)).Perm A.files := by
  have e : sortF fs = A.files := sorted_ext (sortF_sorted fs) hv.fine.sorted fun s => by rw [sortF_lk, hv.same]
  rw [← e]
  exact (sortF_perm hv.map.2.2.1).symm
/-- The files that have not come yet. -/
def leftZ (es : Array MapEntry) (seen : Array Nat) (fs : List Fil) : List (MapEntry × Fil) := (es.toList.zip fs).filter fun x => !seen.contains x.1.born
theorem filter_out {α : Type} {b : α → Nat} : ∀ {l : List α} {x : α} {p : α → Bool}, (l.map b).Nodup → x ∈ l → p x = true → (l.filter p).Perm (x :: l.filter fun y => p y && !(b y == b x))
  | [], x, p, _, h, _ => by cases h
  | y :: l, x, p, hn, hx, hp => by
    simp only [List.map_cons, List.nodup_cons] at hn
    by_cases e : y = x
    · subst e
      rw [List.filter_cons_of_pos hp, List.filter_cons_of_neg (by simp)]
      refine List.Perm.cons _ (List.Perm.of_eq ?_)
      refine List.filter_congr fun z hz => ?_
      have : b z ≠ b y := fun h => hn.1 (by rw [← h]; exact List.mem_map.2 ⟨z, hz, rfl⟩)
      simp [this]
    · have hxl : x ∈ l := by
        rcases List.mem_cons.1 hx with h | h
        · exact absurd h.symm e
        · exact h
      have hb : b y ≠ b x := fun h => hn.1 (by rw [h]; exact List.mem_map.2 ⟨x, hxl, rfl⟩)
      have ih := filter_out hn.2 hxl hp
      by_cases hpy : p y = true
      · rw [List.filter_cons_of_pos hpy, List.filter_cons_of_pos (by simp [hpy, hb])]
        exact (ih.cons _).trans (List.Perm.swap _ _ _)
      · rw [List.filter_cons_of_neg hpy, List.filter_cons_of_neg (by simp [hpy])]
        exact ih
theorem leftZ_step {es : Array MapEntry} {seen : Array Nat} {fs : List Fil} {j : Nat} {e : MapEntry} {f : Fil} (hn : (es.toList.map (·.born)).Nodup) (hl : es.toList.length = fs.length) (hj : es.toList[j]? = some e) (hf : fs[j]? = some f) (he : seen.contains e.born = false) :
    (leftZ es seen fs).Perm ((e, f) :: leftZ es (seen.push e.born) fs) := by
  have hm : ((es.toList.zip fs).map fun x => x.1.born) = es.toList.map (·.born) := by
    rw [show (fun x : MapEntry × Fil => x.1.born) = (fun x : MapEntry => x.born) ∘ Prod.fst from rfl, ← List.map_map, List.map_fst_zip (by omega)]
  have hmem : (e, f) ∈ es.toList.zip fs := List.mem_of_getElem? (i := j) (by rw [List.getElem?_zip_eq_some]; exact ⟨hj, hf⟩)
  have := filter_out (b := fun x : MapEntry × Fil => x.1.born) (p := fun x => !seen.contains x.1.born) (by rw [hm]; exact hn) hmem (by show (!seen.contains e.born) = true; rw [he]; rfl)
  refine this.trans (List.Perm.of_eq ?_)
  unfold leftZ
  congr 1
  refine List.filter_congr fun z _ => ?_
  rw [Array.contains_push]
  simp [Bool.not_or]
theorem leftZ_start {es : Array MapEntry} {fs : List Fil} (hl : es.toList.length = fs.length) : (leftZ es #[] fs).map (·.2) = fs := by
  unfold leftZ
  rw [List.filter_eq_self.2 (by simp), List.map_snd_zip (by omega)]
theorem leftZ_end {es : Array MapEntry} {seen : Array Nat} {fs : List Fil} (h : leftL es seen = []) : leftZ es seen fs = [] := by
  unfold leftZ
  rw [List.filter_eq_nil_iff]
  rintro ⟨e, f⟩ hx
  have he := (List.of_mem_zip hx).1
  have := List.filter_eq_nil_iff.1 h e he
  simpa using this
end Go.Proofs.YtnpinegpajbkeaaDoor
/- stripe.Mend where more than one extent of a group is not right. -/
namespace Go.Proofs.YtnpinegpajbkeaaDoor
open Go.RowKit HP
set_option linter.unusedSimpArgs false
set_option linter.unusedVariables false

theorem badN_right {A : Dk} {x : ByteArray} {gen i : Int} : ∀ k, (∀ j, j < k → (slotOf A x gen i j).2 = true) → badN A x gen i k = 0
  | 0, _ => rfl
  | k + 1, h => by
    rw [badN, badN_right k (fun j hj => h j (by omega)), h k (by omega)]
    rfl
set_option maxHeartbeats 4000000 in
set_option maxRecDepth 100000 in
theorem stripe_mend_lost (E : Env) (q : HP) (d : Nat) (A : Dk) (name : ByteArray) (gen : Int) (i : Nat) (w : World) (hname : name.size + 2 ≤ maxLen) (hi : i ≤ 2147483647) (hby : ∀ k, k < 4 → ∀ (i : Int) c, A.cel (stripeF name k) i = some c → Bytes c.read)
    (hbad : 1 < badN A name gen i 4) (hq : ∀ w, Sat E w q → Quarter w) (hw : Sat E w (HP.disk d A * q)) :
    Calls Tryd.prog 23 #[.pointer (some ⟨d, 0, none⟩), .string name, .int .i64 gen, .int .i64 i] w fun e w' => e = .returned (.tuple #[.bool false, .int .i64 50]) ∧ Sat E w' (HP.disk d A * q) := by
  have HQ := Aside.mk (And.intro hq (And.intro hby (And.intro hbad (And.intro hw hname))))
  clear hq hby hbad hw hname
  go_enter Tryd.func23, Tryd.ntmps23
  go_wp2_with fail
  refine (stripe_none E q d A _ HQ.out.2.2.2.1).mono ?_
  rintro e w1 ⟨rfl, h1⟩
  have H1 := Aside.mk h1
  clear h1
  go_wp2_with fail
  refine (stripe_look E q d A name gen i _ HQ.out.2.2.2.2 (fun k hk c => HQ.out.2.1 k hk _ c) HQ.out.1 H1.out).mono ?_
  intro e w3 h3
  obtain ⟨G, R, n, rfl, hG, h3⟩ := h3
  have h4 := h3.alloc (.cells Tryd.zeroCells118 118)
  obtain ⟨w5, hr5, h5⟩ := run_store_grp (n := n) hG.len hG.rlen h4
  have H5 := Aside.mk (And.intro h5 hG)
  obtain ⟨C, hC⟩ : ∃ C, C = (gCells G R n).toArray := ⟨_, rfl⟩
  rw [← hC] at hr5 ⊢
  clear h3 h4 h5 hG hC H1
  go_wp2_with (first | (refine wpList_store_run rfl rfl rfl rfl rfl hr5 ?_))
  refine (stripe_names E _ name _ HQ.out.2.2.2.2 H5.out.1).mono ?_
  rintro e w6 ⟨rfl, h6⟩
  obtain ⟨fa, hfae⟩ : ∃ fa, fa = name ++ dot0 := ⟨_, rfl⟩
  obtain ⟨fb, hfbe⟩ : ∃ fb, fb = name ++ dot1 := ⟨_, rfl⟩
  obtain ⟨fc, hfce⟩ : ∃ fc, fc = name ++ dot2 := ⟨_, rfl⟩
  obtain ⟨fd, hfde⟩ : ∃ fd, fd = name ++ dotP := ⟨_, rfl⟩
  rw [← hfae, ← hfbe, ← hfce, ← hfde]
  have i0 : ∀ w, (Instr.index 103 (.agg #[.string fa, .string fb, .string fc, .string fd]) (.int .i64 0)).run Tryd.prog w = .ok (.string fa) w := fun w => by kernel_rfl
  have i1 : ∀ w, (Instr.index 103 (.agg #[.string fa, .string fb, .string fc, .string fd]) (.int .i64 1)).run Tryd.prog w = .ok (.string fb) w := fun w => by kernel_rfl
  have i2 : ∀ w, (Instr.index 103 (.agg #[.string fa, .string fb, .string fc, .string fd]) (.int .i64 2)).run Tryd.prog w = .ok (.string fc) w := fun w => by kernel_rfl
  have i3 : ∀ w, (Instr.index 103 (.agg #[.string fa, .string fb, .string fc, .string fd]) (.int .i64 3)).run Tryd.prog w = .ok (.string fd) w := fun w => by kernel_rfl
  clear hfae hfbe hfce hfde
  have H6 := Aside.mk (And.intro h6 H5.out.2)
  clear h6 H5 hr5
  obtain ⟨bG, hbG⟩ : ∃ bG, bG = w3.heap.size := ⟨_, rfl⟩
  rw [← hbG] at H6 ⊢
  clear hbG
  go_wp2
  go_loopw [34] (fun v34 wr => ∃ k : Nat, k ≤ 4 ∧ v34 = .int .i64 k ∧ Aside (∀ j, j < k → (slotOf A name gen i j).2 = true) ∧ Aside (Sat E wr (HP.pt bG (.cells (gCells G R n).toArray 118) * (HP.disk d A * q)))) (fun i _ => 4 - (intOf i).toNat)
  case atStart => exact ⟨0, by omega, rfl, ⟨fun j h => by omega⟩, ⟨H6.out.1⟩⟩
  case round =>
    obtain ⟨k, hk, rfl, HR, HS⟩ := hrel
    by_cases hlt : k < 4
    · obtain ⟨f, hix⟩ : ∃ f : ByteArray, ∀ w, (Instr.index 103 (.agg #[.string fa, .string fb, .string fc, .string fd]) (.int .i64 (k : Int))).run Tryd.prog w = .ok (.string f) w := by
        have hc : k = 0 ∨ k = 1 ∨ k = 2 ∨ k = 3 := by omega
        rcases hc with h0 | h0 | h0 | h0 <;> subst h0
        · exact ⟨fa, i0⟩
        · exact ⟨fb, i1⟩
        · exact ⟨fc, i2⟩
        · exact ⟨fd, i3⟩
      have hlt2 : (k : Int) < 4 := by omega
      have hG := H6.out.2
      have g1 : ∀ w', Sat E w' (HP.pt bG (.cells (gCells G R n).toArray 118) * (HP.disk d A * q)) → w'.cell? ⟨bG, 424 + k, none⟩ = some (.bool (slotOf A name gen i k).2) := fun w' h => by
        rw [h.cell (424 + k)]
        exact gCells_right hG.len (hG.right k hlt)
      have g2 := g1 _ HS.out
      have HAT := Aside.mk (stripe_at_plain E (HP.disk d A * q) bG A name gen i G R n k wr hlt hG (.inr (by rw [hG.bad]; exact HQ.out.2.2.1)) HS.out)
      clear i0 i1 i2 i3 g1 hG
      by_cases hr : (slotOf A name gen i k).2 = true
      · rw [hr] at g2
        have HR2 : Aside (∀ j, j < k + 1 → (slotOf A name gen i j).2 = true) := ⟨fun j hj => by
          by_cases e : j = k
          · rw [e]; exact hr
          · exact HR.out j (by omega)⟩
        clear hr HAT HR
        go_wp2
        go_roundw
        case rel => exact ⟨k + 1, by omega, by push_cast; rfl, HR2, HS⟩
        case measure => simp [intOf]; omega
      · have HP2 : Aside (atP A name gen i k = (slotZ, false)) := ⟨by unfold atP; rw [if_neg hr]⟩
        rw [HP2.out] at HAT
        rw [Bool.not_eq_true] at hr
        rw [hr] at g2
        clear hr HP2 HR HS
        go_wp2_with fail
        refine HAT.out.mono ?_
        rintro e w7 ⟨rfl, h7⟩
        obtain ⟨w8, hr8, h8⟩ := run_store_zero (S := slotZ) (List.length_replicate ..) (h7.right.alloc (.cells Tryd.zeroCells99 99))
        have H8 := Aside.mk h8.right
        clear h7 h8
        generalize (b8s slotZ).toArray = Z at *
        go_wp2_with (first | (refine wpList_store_run rfl rfl rfl rfl rfl hr8 ?_))
        go_ret2
        exact ⟨rfl, H8.out⟩
    · obtain rfl : k = 4 := by omega
      have := badN_right (A := A) (x := name) (gen := gen) (i := i) 4 HR.out
      have := HQ.out.2.2.1
      omega
end Go.Proofs.YtnpinegpajbkeaaDoor
/- bytes.Trim of zero bytes: nothing is left just where all are zero. -/
namespace Go.Proofs.YtnpinegpajbkeaaDoor
open Go.RowKit HP
set_option linter.unusedSimpArgs false
set_option linter.unusedVariables false

def sliceLenT : Value → Nat
  | .slice _ n _ => n
  | _ => 0
set_option maxHeartbeats 1000000 in
set_option maxRecDepth 100000 in
theorem trimR_ok (E : Env) (q : HP) (g o : Nat) (l : List Int) (n c : Nat) (w : World) (hl : l.length = n) (hnc : n ≤ c) (hcm : c ≤ 1000000) (hq : ∀ w, Sat E w q → Cells w (some ⟨g, o, none⟩) (b8s l)) (hw : Sat E w q) :
    Calls Tryd.prog 105 #[.slice (some ⟨g, o, none⟩) n c, .int .u8 0] w fun e w' => (∃ m, e = .returned (.slice (some ⟨g, o, none⟩) m c) ∧ m ≤ n ∧ (∀ j, m ≤ j → j < n → l[j]? = some 0) ∧ (0 < m → l[m - 1]? ≠ some 0)) ∧ Sat E w' q := by
  have HQ := Aside.mk (And.intro hq (And.intro hw hl))
  clear hq hw hl
  go_enter Tryd.func105, Tryd.ntmps105
  go_wp2
  go_loopw [0] (fun v0 wr => ∃ m : Nat, v0 = .slice (some ⟨g, o, none⟩) m c ∧ m ≤ n ∧ Aside (∀ j, m ≤ j → j < n → l[j]? = some 0) ∧ Aside (Sat E wr q)) (fun v _ => sliceLenT v)
  case atStart => exact ⟨n, rfl, Nat.le_refl _, ⟨fun j h1 h2 => by omega⟩, ⟨HQ.out.2.1⟩⟩
  case round =>
    obtain ⟨m, rfl, hm, HZ, HS⟩ := hrel
    rcases Nat.eq_zero_or_pos m with h0 | h0
    · subst h0
      go_wp2
      go_ret
      exact ⟨⟨0, rfl, Nat.zero_le _, HZ.out, fun h => absurd h (Nat.lt_irrefl _)⟩, HS.out⟩
    · obtain ⟨k, rfl⟩ : ∃ k, m = k + 1 := ⟨m - 1, by omega⟩
      have hkl : k < l.length := by rw [HQ.out.2.2]; omega
      have hx := List.getElem?_eq_getElem hkl
      obtain ⟨x, hxe⟩ : ∃ x, x = l[k] := ⟨_, rfl⟩
      rw [← hxe] at hx
      clear hxe hkl
      have hc : wr.cell? ⟨g, o + k, none⟩ = some (.int .u8 x) := by
        have := (HQ.out.1 _ HS.out).some_ k (.int .u8 x) (by unfold b8s; rw [List.getElem?_map, hx]; rfl)
        rwa [addr_add] at this
      have HX := Aside.mk hx
      have hk1 : k + 1 ≤ c := by omega
      have hk2 : (0 : Int) ≤ (k : Int) := by omega
      have hk3 : (k : Int) < (k : Int) + 1 := by omega
      clear hx
      by_cases hz : x = 0
      · subst hz
        have HZ2 : Aside (∀ j, k ≤ j → j < n → l[j]? = some 0) := ⟨fun j h1 h2 => by
          rcases Nat.eq_or_lt_of_le h1 with e | e
          · subst e; exact HX.out
          · exact HZ.out j e h2⟩
        clear HZ
        go_wp2
        go_roundw
        case rel => exact ⟨k, rfl, by omega, HZ2, HS⟩
        case measure => simp [sliceLenT]
      · go_wp2
        go_ret
        exact ⟨⟨k + 1, rfl, hm, HZ.out, fun _ h => hz (by have := HX.out.symm.trans h; simpa using this)⟩, HS.out⟩
set_option maxHeartbeats 1000000 in
set_option maxRecDepth 100000 in
theorem trimL_ok (E : Env) (q : HP) (g o : Nat) (l : List Int) (n m c : Nat) (w : World) (hl : l.length = n) (hmn : m ≤ n) (hmc : m ≤ c) (hcm : c ≤ 1000000) (hlast : 0 < m → l[m - 1]? ≠ some 0) (hq : ∀ w, Sat E w q → Cells w (some ⟨g, o, none⟩) (b8s l)) (hw : Sat E w q) :
    Calls Tryd.prog 104 #[.slice (some ⟨g, o, none⟩) m c, .int .u8 0] w fun e w' => (∃ A r d, e = .returned (.slice A r d) ∧ (r = 0 ↔ m = 0)) ∧ Sat E w' q := by
  have HQ := Aside.mk (And.intro hq (And.intro hw (And.intro hl hlast)))
  clear hq hw hl hlast
  go_enter Tryd.func104, Tryd.ntmps104
  rcases Nat.eq_zero_or_pos m with h0 | h0
  · subst h0
    go_wp2
    go_loopw [0] (fun v0 wr => v0 = .slice (some ⟨g, o, none⟩) 0 c ∧ Aside (Sat E wr q)) (fun v _ => 0)
    case atStart => exact ⟨rfl, ⟨HQ.out.2.1⟩⟩
    case round =>
      obtain ⟨rfl, HS⟩ := hrel
      go_wp2
      go_ret
      first | exact ⟨⟨none, 0, rfl⟩, HS.out⟩ | exact ⟨⟨none, 0, 0, rfl, Iff.rfl⟩, HS.out⟩
  · go_wp2
    go_loopw [0] (fun v0 wr => ∃ i r d : Nat, v0 = .slice (some ⟨g, o + i, none⟩) r d ∧ r ≤ d ∧ d ≤ c ∧ 0 < r ∧ Aside (r + i = m) ∧ Aside (Sat E wr q)) (fun v _ => sliceLenT v)
    case atStart => exact ⟨0, m, c, rfl, hmc, Nat.le_refl _, h0, ⟨rfl⟩, ⟨HQ.out.2.1⟩⟩
    case round =>
      obtain ⟨i, r, d, rfl, hrd, hdc, hr0, HI, HS⟩ := hrel
      have hil : i < l.length := by rw [HQ.out.2.2.1]; have := HI.out; omega
      have hx := List.getElem?_eq_getElem hil
      obtain ⟨x, hxe⟩ : ∃ x, x = l[i] := ⟨_, rfl⟩
      rw [← hxe] at hx
      clear hxe hil
      have hc : wr.cell? ⟨g, o + i, none⟩ = some (.int .u8 x) := by
        have := (HQ.out.1 _ HS.out).some_ i (.int .u8 x) (by unfold b8s; rw [List.getElem?_map, hx]; rfl)
        rwa [addr_add] at this
      have HX := Aside.mk hx
      have hr1 : (0 : Int) < (r : Int) := by omega
      clear hx
      by_cases hz : x = 0
      · subst hz
        have hr2 : 2 ≤ r := by
          rcases Nat.lt_or_ge r 2 with h | h
          · have hm1 : m - 1 = i := by have := HI.out; omega
            exact absurd (by rw [hm1]; exact HX.out) (HQ.out.2.2.2 h0)
          · exact h
        obtain ⟨s, rfl⟩ : ∃ s, r = s + 1 := ⟨r - 1, by omega⟩
        obtain ⟨e, rfl⟩ : ∃ e, d = e + 1 := ⟨d - 1, by omega⟩
        have he0 : ¬ e = 0 := by omega
        have he1 : ¬ e + 1 = 1 := by omega
        have hI2 : Aside (s + (i + 1) = m) := ⟨by have := HI.out; omega⟩
        clear HI
        go_wp2
        go_roundw
        case rel => exact ⟨i + 1, s, e, by congr 1, by omega, by omega, by omega, hI2, HS⟩
        case measure => simp [sliceLenT]
      · have hr3 : ¬ (r : Int) = 0 := by omega
        go_wp2
        go_ret
        exact ⟨⟨_, _, _, rfl, by omega⟩, HS.out⟩
set_option maxHeartbeats 1000000 in
set_option maxRecDepth 100000 in
theorem trim0_ok (E : Env) (q : HP) (g o : Nat) (l : List Int) (n c : Nat) (w : World) (hl : l.length = n) (hnc : n ≤ c) (hcm : c ≤ 1000000) (hq : ∀ w, Sat E w q → Cells w (some ⟨g, o, none⟩) (b8s l)) (hw : Sat E w q) :
    Calls Tryd.prog 85 #[.slice (some ⟨g, o, none⟩) n c, .string ⟨#[0]⟩] w fun e w' => (∃ A r d, e = .returned (.slice A r d) ∧ (r = 0 ↔ ∀ x ∈ l, x = 0)) ∧ Sat E w' q := by
  have HQ := Aside.mk (And.intro hq (And.intro hw hl))
  clear hq hw hl
  go_enter Tryd.func85, Tryd.ntmps85
  rcases Nat.eq_zero_or_pos n with h0 | h0
  · subst h0
    go_wp2
    go_ret
    refine ⟨⟨_, _, _, rfl, ?_⟩, HQ.out.2.1⟩
    have : l = [] := List.eq_nil_of_length_eq_zero HQ.out.2.2
    simp [this]
  · have hn0 : ¬ (n : Int) = 0 := by omega
    have hneq : ¬ (⟨#[0]⟩ : ByteArray) = ⟨#[]⟩ := by decide
    go_wp2
    refine region_R [3, 6] [] (fun _ => True) #[false, false, false, false, false, false, false, false] (by kernel_rfl) rfl rfl ?_
    refine wpR_rd 0 #[true, false, false, false, false, false, false, false] rfl onlyN_noPanic (by kernel_rfl) (fun K hK => ?_); (go_simp; try go_bits); refine hK _ ?_; clear hK K
    refine wpR_rd 1 #[true, true, false, false, false, false, false, false] rfl onlyN_noPanic (by kernel_rfl) (fun K hK => ?_); (go_simp; try go_bits); refine hK _ ?_; clear hK K
    refine wpR_rd 2 #[true, true, true, false, false, false, false, false] rfl onlyN_noPanic (by kernel_rfl) (fun K hK => ?_); (go_simp; try go_bits); refine hK _ ?_; clear hK K
    refine wpR_pu 4 #[true, true, true, false, true, false, false, false] rfl onlyN_noPanic (by kernel_rfl) (fun K hK => ?_); (go_simp; try go_bits); refine hK _ ?_; clear hK K
    refine wpR_pu 5 #[true, true, true, false, true, true, false, false] rfl onlyN_noPanic (by kernel_rfl) (fun K hK => ?_); (go_simp; try go_bits); refine hK _ ?_; clear hK K
    refine wpR_eff #[true, true, true, true, true, true, false, false] (i := 3) rfl (by kernel_rfl) (fun K hK => ?_)
    go_simp
    refine (trimR_ok E q g o l n c _ HQ.out.2.2 hnc hcm HQ.out.1 HQ.out.2.1.drew).mono ?_
    rintro e w1 ⟨⟨m, rfl, hmn, hz, hlast⟩, h1⟩
    refine hK _ _ ?_
    clear hK K
    refine wpR_eff #[true, true, true, true, true, true, true, false] (i := 6) rfl (by kernel_rfl) (fun K hK => ?_)
    go_simp
    refine (trimL_ok E q g o l n m c _ HQ.out.2.2 hmn (by omega) hcm hlast HQ.out.1 h1).mono ?_
    rintro e w2 ⟨⟨A, r, d, rfl, hrm⟩, h2⟩
    have HR : Aside (r = 0 ↔ ∀ x ∈ l, x = 0) := ⟨by
      rw [hrm]
      constructor
      · intro h x hx
        obtain ⟨j, hj⟩ := List.getElem?_of_mem hx
        have hjl := (List.getElem?_eq_some_iff.1 hj).1
        have := hz j (by omega) (by rw [← HQ.out.2.2]; exact hjl)
        rw [this] at hj
        exact (Option.some.inj hj).symm
      · intro h
        rcases Nat.eq_zero_or_pos m with e | e
        · exact e
        · have hml : m - 1 < l.length := by rw [HQ.out.2.2]; omega
          have h3 := List.getElem?_eq_getElem hml
          rw [h _ (List.getElem_mem hml)] at h3
          exact absurd h3 (hlast e)⟩
    have H2 := Aside.mk h2
    refine hK _ _ ?_
    clear hK K h1 h2 hrm hz hlast
    refine wpR_rd 7 #[true, true, true, true, true, true, true, true] rfl onlyN_noPanic (by kernel_rfl) (fun K hK => ?_); (go_simp; try go_bits); refine hK _ ?_; clear hK K
    refine wpR_done (by kernel_rfl) ?_ _
    simp only [OnlyN]
    go_wp2
    go_ret
    exact ⟨⟨A, r, d, rfl, HR.out⟩, H2.out⟩
end Go.Proofs.YtnpinegpajbkeaaDoor
