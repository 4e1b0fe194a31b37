/- Texts of one claim, one behind the other: ScrH, ScrW, BytP, BytM, GrpM, ScRiW, LaidP, Laid6, GrpX, GrpZ, StpT. -/
import Derived.Test.YtnpinegpajbkeaaGreatDoorRi17
import Derived.Lib.LaidU8
import Derived.Lib.LaidTab
import Derived.Lib.ItoaNum
import Derived.Lay
set_option linter.unusedSimpArgs false
set_option linter.unusedVariables false
namespace Go.Proofs.YtnpinegpajbkeaaGreatDoor
open Go.RowKit HP
theorem canA_ext {a : Anch} (h : canA a = true) : 0 ≤ a.ext := by
  unfold canA btw nOk at h
  simp only [List.all_cons, List.all_nil, Bool.and_true, Bool.and_eq_true, decide_eq_true_eq] at h
  omega
theorem flat_take {α β : Type} (f : α → List β) {l : List α} {k : Nat} {x : α} (h : l[k]? = some x) : (l.take (k + 1)).flatMap f = (l.take k).flatMap f ++ f x := by
  rw [List.take_add_one, h, Option.toList_some, List.flatMap_append]
  simp
theorem flat_take_le {α β : Type} (f : α → List β) (l : List α) (k : Nat) : ((l.take k).flatMap f).length ≤ (l.flatMap f).length := by
  conv => rhs; rw [← List.take_append_drop k l]
  rw [List.flatMap_append, List.length_append]
  omega
def headG (A : Dk) (GNN : Nat) (seg : Int) (x : Nat) : List Sgp := pairsG anchorS 1 ++ pairsG (mB ++ decB GNN) (longN A (mB ++ decB GNN)) ++ pairsG (tB ++ decB GNN) (longN A (tB ++ decB GNN)) ++ pairsG (nameW seg) x
set_option maxHeartbeats 8000000 in
set_option maxRecDepth 100000 in
theorem scrub_groups (E : Env) (q : HP) (d : Nat) (A : Dk) (a : Anch) (l : List Ftr) (V : Option Addr) (n c : Nat) (w : World) (hl : l.length = n) (hn9 : n ≤ 4000000) (hag : wf64 a.gen) (has : wf64 a.seg) (hlf : ∀ f ∈ l, wf64 f.number ∧ wf64 f.bytes) (hsm : (groupsG A a l).length ≤ 4000000)
    (hq : ∀ w, Sat E w q → Lib.TabIs Tryz.prog w "internal/strconv.uint64pow10" .u64 Lib.pow10Tab ∧ Cells w V (l.flatMap Ftr.vals)) (hw : Sat E w (HP.disk d A * q)) :
    Calls Tryz.prog 10 #[.pointer (some ⟨d, 0, none⟩), .agg #[.int .i64 a.seq, .int .i64 a.gen, .int .i64 a.lsn, .int .i64 a.seg, .int .i64 a.ext, .int .i64 a.flo, .int .i64 a.new, .int .i64 a.keep, .int .i64 a.next, .int .i64 a.cur], .slice V n c] w fun e w' => ∃ v, e = .returned v ∧ Sat E w' (HP.row 37 4 v (groupsG A a l).length ((groupsG A a l).flatMap Sgp.vals) * (HP.disk d A * q)) := by
  obtain ⟨seq, gen, lsn, seg, ext, flo, new, keep, next, cur⟩ := a
  dsimp only at *
  have HQ := Aside.mk (And.intro hq (And.intro hl (And.intro hlf (And.intro hag has))))
  have HGG : Aside (groupsG A ⟨seq, gen, lsn, seg, ext, flo, new, keep, next, cur⟩ l = if canA ⟨seq, gen, lsn, seg, ext, flo, new, keep, next, cur⟩ = true ∧ ext ≤ 2147483647 ∧ l.all Ftr.ok = true then pairsG anchorS 1 ++ (pairsG (mB ++ decB gen.toNat) (longN A (mB ++ decB gen.toNat)) ++ (pairsG (tB ++ decB gen.toNat) (longN A (tB ++ decB gen.toNat)) ++ (pairsG (nameW seg) ext.toNat ++ l.flatMap (ftG A)))) else []) := ⟨rfl⟩
  obtain ⟨gg, hgg⟩ : ∃ gg, gg = groupsG A ⟨seq, gen, lsn, seg, ext, flo, new, keep, next, cur⟩ l := ⟨_, rfl⟩
  rw [← hgg] at HGG hsm ⊢
  have HSM := Aside.mk hsm
  have h1 := hw.alloc (.cells #[.pointer (some ⟨d, 0, none⟩)] 26)
  have h2 := h1.alloc (.cells #[.int .i64 seq, .int .i64 gen, .int .i64 lsn, .int .i64 seg, .int .i64 ext, .int .i64 flo, .int .i64 new, .int .i64 keep, .int .i64 next, .int .i64 cur] 24)
  have hz : (w.alloc (.cells #[.pointer (some ⟨d, 0, none⟩)] 26)).heap.size = w.heap.size + 1 := by simp
  rw [hz] at h2
  have H2 : Aside (Sat E ((w.alloc (.cells #[.pointer (some ⟨d, 0, none⟩)] 26)).alloc (.cells #[.int .i64 seq, .int .i64 gen, .int .i64 lsn, .int .i64 seg, .int .i64 ext, .int .i64 flo, .int .i64 new, .int .i64 keep, .int .i64 next, .int .i64 cur] 24)) (HP.disk d A * (HP.pt w.heap.size (.cells #[.pointer (some ⟨d, 0, none⟩)] 26) * (HP.pt (w.heap.size + 1) (.cells #[.int .i64 seq, .int .i64 gen, .int .i64 lsn, .int .i64 seg, .int .i64 ext, .int .i64 flo, .int .i64 new, .int .i64 keep, .int .i64 next, .int .i64 cur] 24) * q)))) := ⟨h2.perm (by ac_rfl)⟩
  have b0 := H2.out.s2.cell1
  clear hw hq hl hlf hag has h1 h2 hz hgg hsm
  go_enter Tryz.func10, Tryz.ntmps10
  go_wp2_with fail
  refine (disk_asked E _ d A _ H2.out).mono ?_
  rintro e w1 ⟨rfl, hw1⟩
  have k0 := hw1.s3.cell 0
  have k1 := hw1.s3.cell 1
  have k2 := hw1.s3.cell 2
  have k3 := hw1.s3.cell 3
  have k4 := hw1.s3.cell 4
  have k5 := hw1.s3.cell 5
  have k6 := hw1.s3.cell 6
  have k7 := hw1.s3.cell 7
  have k8 := hw1.s3.cell 8
  have k9 := hw1.s3.cell 9
  simp only [List.getElem?_toArray, List.getElem?_cons_zero, List.getElem?_cons_succ] at k0 k1 k2 k3 k4 k5 k6 k7 k8 k9
  have H3 := Aside.mk hw1
  clear hw1 H2 b0
  go_wp2_with fail
  refine (can_ok E _ ⟨seq, gen, lsn, seg, ext, flo, new, keep, next, cur⟩ _ H3.out).mono ?_
  rintro e w2 ⟨rfl, h4⟩
  clear k0 k1 k2 k3 k4 k5 k6 k7 k8 k9 H3
  cases hcan : canA ⟨seq, gen, lsn, seg, ext, flo, new, keep, next, cur⟩ with
  | false =>
    have HG : Aside (gg = []) := ⟨by rw [HGG.out, if_neg (fun h => by rw [hcan] at h; cases h.1)]⟩
    have H5 : Aside (Sat E w2 (HP.disk d A * q)) := ⟨h4.drop2.drop2⟩
    clear h4 hcan
    go_wp2
    go_ret
    rw [HG.out]
    exact ⟨_, rfl, H5.out.row_nil _ _ _⟩
  | true =>
    have hx0 : 0 ≤ ext := canA_ext hcan
    obtain ⟨x, rfl⟩ : ∃ x : Nat, ext = (x : Int) := ⟨ext.toNat, by omega⟩
    have k4 := h4.s3.cell 4
    simp only [List.getElem?_toArray, List.getElem?_cons_zero, List.getElem?_cons_succ] at k4
    by_cases hxt : 2147483647 < (x : Int)
    · have HG : Aside (gg = []) := ⟨by rw [HGG.out, if_neg (fun h => by omega)]⟩
      have H5 : Aside (Sat E w2 (HP.disk d A * q)) := ⟨h4.drop2.drop2⟩
      clear h4 hcan
      go_wp2
      go_ret
      rw [HG.out]
      exact ⟨_, rfl, H5.out.row_nil _ _ _⟩
    · have H5 := Aside.mk h4
      have HC := Aside.mk hcan
      clear h4 hcan
      go_wp2_with fail
      refine (ftr_contains E _ V l n c _ HQ.out.2.1 (by omega) (fun w h => (HQ.out.1 w h.right.right.right).2) H5.out).mono ?_
      rintro e w3 ⟨rfl, h6⟩
      clear H5 k4
      cases hall : l.all Ftr.ok with
      | false =>
        have HG : Aside (gg = []) := ⟨by rw [HGG.out, if_neg (fun h => by rw [hall] at h; cases h.2.2)]⟩
        have H6 : Aside (Sat E w3 (HP.disk d A * q)) := ⟨h6.drop2.drop2⟩
        clear h6 hall
        go_wp2
        go_ret
        rw [HG.out]
        exact ⟨_, rfl, H6.out.row_nil _ _ _⟩
      | true =>
        have HG : Aside (gg = headG A gen.toNat seg x ++ l.flatMap (ftG A)) := ⟨by
          rw [HGG.out, if_pos ⟨HC.out, by omega, hall⟩]
          unfold headG
          rw [Int.toNat_natCast]
          simp only [List.append_assoc]⟩
        have HOK : Aside (∀ f ∈ l, f.ok = true) := ⟨by rwa [List.all_eq_true] at hall⟩
        have HSZ : Aside (1 + longN A (mB ++ decB gen.toNat) + longN A (tB ++ decB gen.toNat) + x + (l.flatMap (ftG A)).length ≤ 4000000) := ⟨by
          have h := HSM.out
          rw [HG.out] at h
          unfold headG at h
          simp only [List.length_append, pairsG_length] at h
          omega⟩
        have hgs : (decB gen.toNat).size ≤ 19 := by
          exact decB_size 18 gen.toNat (by have := HQ.out.2.2.2.1; unfold wf64 at this; omega)
        have hms : (mB ++ decB gen.toNat).size ≤ 20 := by rw [ByteArray.size_append]; show 1 + _ ≤ 20; omega
        have hts : (tB ++ decB gen.toNat).size ≤ 20 := by rw [ByteArray.size_append]; show 1 + _ ≤ 20; omega
        have HNS : Aside ((mB ++ decB gen.toNat).size + 2 ≤ maxLen ∧ (tB ++ decB gen.toNat).size + 2 ≤ maxLen) := ⟨by unfold maxLen; omega, by unfold maxLen; omega⟩
        obtain ⟨bD, hbD⟩ : ∃ bD, bD = w.heap.size := ⟨_, rfl⟩
        rw [← hbD] at h6 ⊢
        obtain ⟨bA, hbA⟩ : ∃ bA, bA = bD + 1 := ⟨_, rfl⟩
        rw [← hbA] at h6 ⊢
        clear hbD hbA HGG hall hgs hms hts
        have h7 := h6.alloc (.cells #[.slice none 0 0] 35)
        obtain ⟨bO, hbO⟩ : ∃ bO, bO = w3.heap.size := ⟨_, rfl⟩
        rw [← hbO] at h7
        have H7 : Aside (Sat E (w3.alloc (.cells #[.slice none 0 0] 35)) (HP.gs bO ([]) * (HP.disk d A * (HP.pt bD (.cells #[.pointer (some ⟨d, 0, none⟩)] 26) * (HP.pt bA (.cells #[.int .i64 seq, .int .i64 gen, .int .i64 lsn, .int .i64 seg, .int .i64 (x : Nat), .int .i64 flo, .int .i64 new, .int .i64 keep, .int .i64 next, .int .i64 cur] 24) * q))))) := ⟨Sat.gs_close (v := .slice none 0 0) (n := 0) (cs := []) rfl rfl (h7.row_nil 37 4 none)⟩
        have c1 := H7.out.right.right.right.cell 1
        simp only [List.getElem?_toArray, List.getElem?_cons_zero, List.getElem?_cons_succ] at c1
        clear h6 h7
        go_wp2_with fail
        rw [← hbO]
        refine (names_ok E _ gen _ HQ.out.2.2.2.1 (fun w h => (HQ.out.1 w h.right.right.right.right).1) H7.out).mono ?_
        rintro e w4 ⟨rfl, h8⟩
        have H8 := Aside.mk h8
        clear h8 H7 c1 hbO
        go_wp2_with fail
        refine (groups_pairs E _ bO [] anchorS 1 _ (by simp) H8.out).mono ?_
        rintro e w5 ⟨rfl, h9⟩
        rw [List.nil_append] at h9
        have H9 : Aside (Sat E w5 (HP.disk d A * (HP.pt bD (.cells #[.pointer (some ⟨d, 0, none⟩)] 26) * (HP.gs bO (pairsG anchorS 1) * (HP.pt bA (.cells #[.int .i64 seq, .int .i64 gen, .int .i64 lsn, .int .i64 seg, .int .i64 (x : Nat), .int .i64 flo, .int .i64 new, .int .i64 keep, .int .i64 next, .int .i64 cur] 24) * q))))) := ⟨h9.perm (by ac_rfl)⟩
        clear h9 H8
        go_wp2_with fail
        refine (groups_long E _ d bD A (mB ++ decB gen.toNat) _ HNS.out.1 H9.out).mono ?_
        rintro e w6 ⟨rfl, h10⟩
        have H10 : Aside (Sat E w6 (HP.gs bO (pairsG anchorS 1) * (HP.disk d A * (HP.pt bD (.cells #[.pointer (some ⟨d, 0, none⟩)] 26) * (HP.pt bA (.cells #[.int .i64 seq, .int .i64 gen, .int .i64 lsn, .int .i64 seg, .int .i64 (x : Nat), .int .i64 flo, .int .i64 new, .int .i64 keep, .int .i64 next, .int .i64 cur] 24) * q))))) := ⟨h10.perm (by ac_rfl)⟩
        clear h10 H9
        go_wp2_with fail
        refine (groups_pairs E _ bO (pairsG anchorS 1) (mB ++ decB gen.toNat) (longN A (mB ++ decB gen.toNat)) _ (by simp only [List.length_append, pairsG_length]; have := HSZ.out; omega) H10.out).mono ?_
        rintro e w7 ⟨rfl, h11⟩
        have H11 : Aside (Sat E w7 (HP.disk d A * (HP.pt bD (.cells #[.pointer (some ⟨d, 0, none⟩)] 26) * (HP.gs bO (pairsG anchorS 1 ++ pairsG (mB ++ decB gen.toNat) (longN A (mB ++ decB gen.toNat))) * (HP.pt bA (.cells #[.int .i64 seq, .int .i64 gen, .int .i64 lsn, .int .i64 seg, .int .i64 (x : Nat), .int .i64 flo, .int .i64 new, .int .i64 keep, .int .i64 next, .int .i64 cur] 24) * q))))) := ⟨h11.perm (by ac_rfl)⟩
        clear h11 H10
        go_wp2_with fail
        refine (groups_long E _ d bD A (tB ++ decB gen.toNat) _ HNS.out.2 H11.out).mono ?_
        rintro e w8 ⟨rfl, h12⟩
        have H12 : Aside (Sat E w8 (HP.gs bO (pairsG anchorS 1 ++ pairsG (mB ++ decB gen.toNat) (longN A (mB ++ decB gen.toNat))) * (HP.disk d A * (HP.pt bD (.cells #[.pointer (some ⟨d, 0, none⟩)] 26) * (HP.pt bA (.cells #[.int .i64 seq, .int .i64 gen, .int .i64 lsn, .int .i64 seg, .int .i64 (x : Nat), .int .i64 flo, .int .i64 new, .int .i64 keep, .int .i64 next, .int .i64 cur] 24) * q))))) := ⟨h12.perm (by ac_rfl)⟩
        clear h12 H11
        go_wp2_with fail
        refine (groups_pairs E _ bO (pairsG anchorS 1 ++ pairsG (mB ++ decB gen.toNat) (longN A (mB ++ decB gen.toNat))) (tB ++ decB gen.toNat) (longN A (tB ++ decB gen.toNat)) _ (by simp only [List.length_append, pairsG_length]; have := HSZ.out; omega) H12.out).mono ?_
        rintro e w9 ⟨rfl, h13⟩
        have H13 := Aside.mk h13.drew
        clear h13 H12
        have c3 := H13.out.right.right.right.cell 3
        simp only [List.getElem?_toArray, List.getElem?_cons_zero, List.getElem?_cons_succ] at c3
        go_wp2
        refine region_R [3, 6] [3] (fun W => Sat E W (HP.gs bO (pairsG anchorS 1 ++ pairsG (mB ++ decB gen.toNat) (longN A (mB ++ decB gen.toNat)) ++ pairsG (tB ++ decB gen.toNat) (longN A (tB ++ decB gen.toNat))) * (HP.disk d A * (HP.pt bD (.cells #[.pointer (some ⟨d, 0, none⟩)] 26) * (HP.pt bA (.cells #[.int .i64 seq, .int .i64 gen, .int .i64 lsn, .int .i64 seg, .int .i64 (x : Nat), .int .i64 flo, .int .i64 new, .int .i64 keep, .int .i64 next, .int .i64 cur] 24) * q))))) #[false, false, false, false, false, false, false] (by kernel_rfl) rfl rfl ?_
        refine wpR_pu 0 #[true, false, false, false, false, false, false] rfl onlyN_noPanic (by kernel_rfl) (fun K hK => ?_); (go_simp; try go_bits); refine hK _ ?_; clear hK K
        refine wpR_rd 1 #[true, true, false, false, false, false, false] rfl onlyN_noPanic (by kernel_rfl) (fun K hK => ?_); (go_simp; try go_bits); refine hK _ ?_; clear hK K
        refine wpR_rd 2 #[true, true, true, false, false, false, false] rfl onlyN_noPanic (by kernel_rfl) (fun K hK => ?_); (go_simp; try go_bits); refine hK _ ?_; clear hK K
        refine wpR_pu 4 #[true, true, true, false, true, false, false] rfl onlyN_noPanic (by kernel_rfl) (fun K hK => ?_); (go_simp; try go_bits); refine hK _ ?_; clear hK K
        refine wpR_held (i := 5) (v := .int .i64 (x : Nat)) #[true, true, true, false, true, true, false] rfl onlyN_noPanic (by kernel_rfl) H13.out (.inl ⟨rfl, fun w' hT => ?_⟩) ?_
        · have c4 := hT.right.right.right.cell 4
          simp only [List.getElem?_toArray, List.getElem?_cons_zero, List.getElem?_cons_succ] at c4
          go_simp
        simp only [Act.put, List.setIfInBounds_toArray, List.set_cons_zero, List.set_cons_succ]
        refine wpR_keep #[true, true, true, true, true, true, false] (i := 3) rfl (by kernel_rfl) (fun K hK => ?_)
        go_simp; refine (wal_name E _ seg _ HQ.out.2.2.2.2 (fun w h => (HQ.out.1 w h.right.right.right.right).1) H13.out).mono ?_; rintro e w10 ⟨rfl, h14⟩; have H14 := Aside.mk h14; refine hK _ _ h14 ?_; clear hK K h14 H13 c3
        refine wpR_eff #[true, true, true, true, true, true, true] (i := 6) rfl (by kernel_rfl) (fun K hK => ?_)
        go_simp; refine (groups_pairs E _ bO (pairsG anchorS 1 ++ pairsG (mB ++ decB gen.toNat) (longN A (mB ++ decB gen.toNat)) ++ pairsG (tB ++ decB gen.toNat) (longN A (tB ++ decB gen.toNat))) (nameW seg) x _ (by simp only [List.length_append, pairsG_length]; have := HSZ.out; omega) H14.out).mono ?_; rintro e w11 ⟨rfl, h15⟩; have H15 : Aside (Sat E w11 (HP.gs bO (headG A gen.toNat seg x) * (HP.disk d A * (HP.pt bD (.cells #[.pointer (some ⟨d, 0, none⟩)] 26) * (HP.pt bA (.cells #[.int .i64 seq, .int .i64 gen, .int .i64 lsn, .int .i64 seg, .int .i64 (x : Nat), .int .i64 flo, .int .i64 new, .int .i64 keep, .int .i64 next, .int .i64 cur] 24) * q))))) := ⟨h15⟩; refine hK _ _ ?_; clear hK K h15 H14
        refine wpR_done (by kernel_rfl) ?_ _
        simp only [OnlyN]
        have HHL : Aside ((headG A gen.toNat seg x).length = 1 + longN A (mB ++ decB gen.toNat) + longN A (tB ++ decB gen.toNat) + x) := ⟨by unfold headG; simp only [List.length_append, pairsG_length]⟩
        have H15b : Aside (Sat E w11 (HP.gs bO (headG A gen.toNat seg x ++ (l.take 0).flatMap (ftG A)) * (HP.disk d A * (HP.pt bD (.cells #[.pointer (some ⟨d, 0, none⟩)] 26) * (HP.pt bA (.cells #[.int .i64 seq, .int .i64 gen, .int .i64 lsn, .int .i64 seg, .int .i64 (x : Nat), .int .i64 flo, .int .i64 new, .int .i64 keep, .int .i64 next, .int .i64 cur] 24) * q))))) := ⟨by rw [List.take_zero, List.flatMap_nil, List.append_nil]; exact H15.out⟩
        clear H15
        go_wp2
        go_loopw [66] (fun v66 wr => ∃ k : Nat, v66 = .int .i64 k ∧ k ≤ n ∧ Aside (Sat E wr (HP.gs bO (headG A gen.toNat seg x ++ (l.take k).flatMap (ftG A)) * (HP.disk d A * (HP.pt bD (.cells #[.pointer (some ⟨d, 0, none⟩)] 26) * (HP.pt bA (.cells #[.int .i64 seq, .int .i64 gen, .int .i64 lsn, .int .i64 seg, .int .i64 (x : Nat), .int .i64 flo, .int .i64 new, .int .i64 keep, .int .i64 next, .int .i64 cur] 24) * q)))))) (fun i _ => n - (intOf i).toNat)
        case atStart => exact ⟨0, rfl, Nat.zero_le _, H15b⟩
        case round =>
          clear H15b
          obtain ⟨k, rfl, hk, HS⟩ := hrel
          by_cases hlt : k < n
          · have hlt1 : (k : Int) < (n : Int) := by omega
            have hlt0 : (0 : Int) ≤ (k : Int) := by omega
            obtain ⟨f, hf⟩ : ∃ f, l[k]? = some f := ⟨_, List.getElem?_eq_getElem (by rw [HQ.out.2.1]; exact hlt)⟩
            have hfm := List.mem_of_getElem? hf
            obtain ⟨g, o, hV, gx⟩ := ftr_at (HQ.out.1 _ HS.out.right.right.right.right).2 hf
            have c0 : wr.cell? ⟨g, o + k * 8, none⟩ = some (.int .i64 f.number) := gx 0 _ rfl
            have c1 : wr.cell? ⟨g, o + k * 8 + 1, none⟩ = some (.int .i64 f.gen) := gx 1 _ rfl
            have c2 : wr.cell? ⟨g, o + k * 8 + 2, none⟩ = some (.int .i64 f.level) := gx 2 _ rfl
            have c3 : wr.cell? ⟨g, o + k * 8 + 3, none⟩ = some (.int .i64 f.rank) := gx 3 _ rfl
            have c4 : wr.cell? ⟨g, o + k * 8 + 4, none⟩ = some (.int .i64 f.mn) := gx 4 _ rfl
            have c5 : wr.cell? ⟨g, o + k * 8 + 5, none⟩ = some (.int .i64 f.mx) := gx 5 _ rfl
            have c6 : wr.cell? ⟨g, o + k * 8 + 6, none⟩ = some (.int .i64 f.bytes) := gx 6 _ rfl
            have c7 : wr.cell? ⟨g, o + k * 8 + 7, none⟩ = some (.slice f.pA f.pn f.pc) := gx 7 _ rfl
            rw [hV]
            have hwf := HQ.out.2.2.1 f hfm
            have hok := HOK.out f hfm
            unfold Ftr.ok at hok
            simp only [Bool.and_eq_true, decide_eq_true_eq] at hok
            obtain ⟨dn, hdn⟩ : ∃ dn : Nat, f.number = (dn : Int) := ⟨f.number.toNat, by omega⟩
            have hdl : dn ≤ 9223372036854775807 := by have := hwf.1; unfold wf64 at this; omega
            have hds := decB_size 18 dn (by omega)
            obtain ⟨sg, hsg⟩ : ∃ sg : Nat, groupsI f.bytes = (sg : Int) := ⟨(groupsI f.bytes).toNat, by unfold groupsI; split <;> omega⟩
            have HTK := Aside.mk (flat_take (ftG A) hf)
            have HFT : Aside (ftG A f = pairsG (fB ++ decB dn) 1 ++ (pairsG (iB ++ decB dn) (longN A (iB ++ decB dn)) ++ stripesG (cB ++ decB dn) sg f.gen)) := ⟨by unfold ftG; rw [hdn, hsg, Int.toNat_natCast, Int.toNat_natCast]⟩
            have hle := flat_take_le (ftG A) l (k + 1)
            rw [HTK.out, List.length_append, HFT.out, List.length_append, List.length_append, pairsG_length, pairsG_length, stripesG_length] at hle
            have HLE : Aside ((headG A gen.toNat seg x ++ (l.take k).flatMap (ftG A)).length + (1 + (longN A (iB ++ decB dn) + sg)) ≤ 4000000) := ⟨by rw [List.length_append, HHL.out]; have := HSZ.out; omega⟩
            have HIN : Aside ((iB ++ decB dn).size + 2 ≤ maxLen) := ⟨by rw [ByteArray.size_append]; unfold maxLen; show 1 + _ + 2 ≤ _; omega⟩
            have hds1 : 1 + (decB dn).size ≤ 100 := by omega
            have HBY : Aside (wf64 f.bytes ∧ wf64 f.number) := ⟨hwf.2, hwf.1⟩
            have HSG := Aside.mk hsg
            have HDN := Aside.mk hdn
            obtain ⟨P, hP⟩ : ∃ P, P = headG A gen.toNat seg x ++ (l.take k).flatMap (ftG A) := ⟨_, rfl⟩
            have HP1 := Aside.mk hP
            rw [← hP] at HLE
            have HS2 : Aside (Sat E wr (HP.gs bO (P) * (HP.disk d A * (HP.pt bD (.cells #[.pointer (some ⟨d, 0, none⟩)] 26) * (HP.pt bA (.cells #[.int .i64 seq, .int .i64 gen, .int .i64 lsn, .int .i64 seg, .int .i64 (x : Nat), .int .i64 flo, .int .i64 new, .int .i64 keep, .int .i64 next, .int .i64 cur] 24) * q))))) := ⟨by rw [hP]; exact HS.out⟩
            have h3 := HS2.out.alloc (.cells #[.int .i64 f.number, .int .i64 f.gen, .int .i64 f.level, .int .i64 f.rank, .int .i64 f.mn, .int .i64 f.mx, .int .i64 f.bytes, .slice f.pA f.pn f.pc] 33)
            obtain ⟨bF, hbF⟩ : ∃ bF, bF = wr.heap.size := ⟨_, rfl⟩
            rw [← hbF] at h3
            have H3 : Aside (Sat E (wr.alloc (.cells #[.int .i64 f.number, .int .i64 f.gen, .int .i64 f.level, .int .i64 f.rank, .int .i64 f.mn, .int .i64 f.mx, .int .i64 f.bytes, .slice f.pA f.pn f.pc] 33)) (HP.gs bO (P) * (HP.pt bF (.cells #[.int .i64 f.number, .int .i64 f.gen, .int .i64 f.level, .int .i64 f.rank, .int .i64 f.mn, .int .i64 f.mx, .int .i64 f.bytes, .slice f.pA f.pn f.pc] 33) * (HP.disk d A * (HP.pt bD (.cells #[.pointer (some ⟨d, 0, none⟩)] 26) * (HP.pt bA (.cells #[.int .i64 seq, .int .i64 gen, .int .i64 lsn, .int .i64 seg, .int .i64 (x : Nat), .int .i64 flo, .int .i64 new, .int .i64 keep, .int .i64 next, .int .i64 cur] 24) * q)))))) := ⟨h3.s2⟩
            have e0 := H3.out.right.cell 0
            simp only [List.getElem?_toArray, List.getElem?_cons_zero, List.getElem?_cons_succ] at e0
            clear hf hfm gx hwf hok hsg hle HS HS2 h3 hP hdn hds hdl hV
            go_wp2_with fail
            rw [← hbF]
            clear hbF
            refine (itoa_ok E _ f.number _ HBY.out.2 (fun w h => (HQ.out.1 w h.right.right.right.right.right).1) H3.out).mono ?_
            rintro e w11 ⟨rfl, h4⟩
            rw [HDN.out, itoa_nat]
            have H4 := Aside.mk h4
            clear h4 H3 e0 c0 c1 c2 c3 c4 c5 c6 c7
            go_wp2_with fail
            refine (groups_pairs E _ bO P (fB ++ decB dn) 1 _ (by have := HLE.out; omega) H4.out).mono ?_
            rintro e w12 ⟨rfl, h5⟩
            have H5 : Aside (Sat E w12 (HP.disk d A * (HP.pt bD (.cells #[.pointer (some ⟨d, 0, none⟩)] 26) * (HP.gs bO (P ++ pairsG (fB ++ decB dn) 1) * (HP.pt bF (.cells #[.int .i64 f.number, .int .i64 f.gen, .int .i64 f.level, .int .i64 f.rank, .int .i64 f.mn, .int .i64 f.mx, .int .i64 f.bytes, .slice f.pA f.pn f.pc] 33) * (HP.pt bA (.cells #[.int .i64 seq, .int .i64 gen, .int .i64 lsn, .int .i64 seg, .int .i64 (x : Nat), .int .i64 flo, .int .i64 new, .int .i64 keep, .int .i64 next, .int .i64 cur] 24) * q)))))) := ⟨h5.perm (by ac_rfl)⟩
            clear h5 H4
            go_wp2_with fail
            refine (groups_long E _ d bD A (iB ++ decB dn) _ HIN.out H5.out).mono ?_
            rintro e w13 ⟨rfl, h6⟩
            have H6 : Aside (Sat E w13 (HP.gs bO (P ++ pairsG (fB ++ decB dn) 1) * (HP.pt bF (.cells #[.int .i64 f.number, .int .i64 f.gen, .int .i64 f.level, .int .i64 f.rank, .int .i64 f.mn, .int .i64 f.mx, .int .i64 f.bytes, .slice f.pA f.pn f.pc] 33) * (HP.disk d A * (HP.pt bD (.cells #[.pointer (some ⟨d, 0, none⟩)] 26) * (HP.pt bA (.cells #[.int .i64 seq, .int .i64 gen, .int .i64 lsn, .int .i64 seg, .int .i64 (x : Nat), .int .i64 flo, .int .i64 new, .int .i64 keep, .int .i64 next, .int .i64 cur] 24) * q)))))) := ⟨h6.perm (by ac_rfl)⟩
            clear h6 H5
            go_wp2_with fail
            refine (groups_pairs E _ bO (P ++ pairsG (fB ++ decB dn) 1) (iB ++ decB dn) (longN A (iB ++ decB dn)) _ (by rw [List.length_append, pairsG_length]; have := HLE.out; omega) H6.out).mono ?_
            rintro e w14 ⟨rfl, h7⟩
            obtain ⟨R, hR⟩ : ∃ R, R = P ++ pairsG (fB ++ decB dn) 1 ++ pairsG (iB ++ decB dn) (longN A (iB ++ decB dn)) := ⟨_, rfl⟩
            rw [← hR] at h7
            have HRR := Aside.mk hR
            have hRl : R.length + sg ≤ 4000000 := by rw [hR, List.length_append, List.length_append, pairsG_length, pairsG_length]; have := HLE.out; omega
            have H7 : Aside (Sat E w14 (HP.gs bO (R ++ stripesG (cB ++ decB dn) 0 f.gen) * (HP.pt bF (.cells #[.int .i64 f.number, .int .i64 f.gen, .int .i64 f.level, .int .i64 f.rank, .int .i64 f.mn, .int .i64 f.mx, .int .i64 f.bytes, .slice f.pA f.pn f.pc] 33) * (HP.disk d A * (HP.pt bD (.cells #[.pointer (some ⟨d, 0, none⟩)] 26) * (HP.pt bA (.cells #[.int .i64 seq, .int .i64 gen, .int .i64 lsn, .int .i64 seg, .int .i64 (x : Nat), .int .i64 flo, .int .i64 new, .int .i64 keep, .int .i64 next, .int .i64 cur] 24) * q)))))) := ⟨by rw [show stripesG (cB ++ decB dn) 0 f.gen = [] from rfl, List.append_nil]; exact h7⟩
            have e6 := H7.out.right.cell 6
            simp only [List.getElem?_toArray, List.getElem?_cons_zero, List.getElem?_cons_succ] at e6
            clear h7 H6 hR
            go_wp2_with fail
            refine (stripe_groups f.bytes _ HBY.out.1).mono ?_
            rintro e w15 ⟨rfl, hw15⟩
            subst w15
            rw [HSG.out]
            obtain ⟨wo, hwo⟩ : ∃ wo : World, wo = w14 := ⟨_, rfl⟩
            subst hwo
            go_wp2
            clear e6
            go_loopw [88] (fun v88 wi => ∃ i : Nat, v88 = .int .i64 i ∧ i ≤ sg ∧ Aside (Sat E wi (HP.gs bO (R ++ stripesG (cB ++ decB dn) i f.gen) * (HP.pt bF (.cells #[.int .i64 f.number, .int .i64 f.gen, .int .i64 f.level, .int .i64 f.rank, .int .i64 f.mn, .int .i64 f.mx, .int .i64 f.bytes, .slice f.pA f.pn f.pc] 33) * (HP.disk d A * (HP.pt bD (.cells #[.pointer (some ⟨d, 0, none⟩)] 26) * (HP.pt bA (.cells #[.int .i64 seq, .int .i64 gen, .int .i64 lsn, .int .i64 seg, .int .i64 (x : Nat), .int .i64 flo, .int .i64 new, .int .i64 keep, .int .i64 next, .int .i64 cur] 24) * q))))))) (fun y _ => sg - (intOf y).toNat)
            case atStart => exact ⟨0, rfl, Nat.zero_le _, H7⟩
            case round =>
              clear H7
              obtain ⟨i, rfl, hi, HI⟩ := hrel
              by_cases hil : i < sg
              · have hil1 : (i : Int) < (sg : Int) := by omega
                obtain ⟨v, h1⟩ := HI.out.gs_open
                obtain ⟨Av, cv, rfl, -, -⟩ := h1.row_slice
                have hl : (R ++ stripesG (cB ++ decB dn) i f.gen).length = R.length + i := by rw [List.length_append, stripesG_length]
                rw [hl] at h1
                obtain ⟨L, hL⟩ : ∃ L, L = (R ++ stripesG (cB ++ decB dn) i f.gen).flatMap Sgp.vals := ⟨_, rfl⟩
                rw [← hL] at h1
                have HL := Aside.mk hL
                have b0 := h1.s2.cell1
                have e1 := h1.right.right.cell 1
                simp only [List.getElem?_toArray, List.getElem?_cons_zero, List.getElem?_cons_succ] at e1
                have H1 := Aside.mk h1
                obtain ⟨zk, hzk⟩ : ∃ zk, zk = R.length + i := ⟨_, rfl⟩
                have hzk1 : zk ≤ 3999999 := by omega
                rw [← hzk] at H1 b0
                have HK := Aside.mk hzk
                clear hL hl h1 HI hzk
                go_wp2_with (at_builtin; refine wpList_append_new slGrp rfl rfl (by rfl) (by rfl) H1.out (by rfl) (by rfl) (by unfold maxLen; omega) (by omega) (fun v5 w5 hw5 => ?_); obtain ⟨A5, c5, rfl, -, -⟩ := hw5.row_slice; have b5 := hw5.s2.cell1; have t5 := hw5.s2.thaw 0; have HW5 := Aside.mk hw5; clear hw5)
                have H6 : Aside (Sat E _ (HP.gs bO (R ++ stripesG (cB ++ decB dn) (i + 1) f.gen) * (HP.pt bF (.cells #[.int .i64 f.number, .int .i64 f.gen, .int .i64 f.level, .int .i64 f.rank, .int .i64 f.mn, .int .i64 f.mx, .int .i64 f.bytes, .slice f.pA f.pn f.pc] 33) * (HP.disk d A * (HP.pt bD (.cells #[.pointer (some ⟨d, 0, none⟩)] 26) * (HP.pt bA (.cells #[.int .i64 seq, .int .i64 gen, .int .i64 lsn, .int .i64 seg, .int .i64 (x : Nat), .int .i64 flo, .int .i64 new, .int .i64 keep, .int .i64 next, .int .i64 cur] 24) * q)))))) := ⟨Sat.gs_close (n := zk + 1) (by rw [List.length_append, stripesG_length, HK.out]; omega) (by rw [stripesG_step, ← List.append_assoc, List.flatMap_append, ← HL.out]; rfl) (HW5.out.s2.set1 (.slice A5 (zk + 1) c5)).s2⟩
                clear HW5 H1 b0 b5 t5 e1
                go_roundw
                case rel => exact ⟨i + 1, by go_num, by omega, H6⟩
                case measure => simp [intOf]; omega
              · obtain rfl : i = sg := by omega
                have hii : ¬ (i : Int) < (i : Int) := by omega
                have H8 : Aside (Sat E wr (HP.gs bO (headG A gen.toNat seg x ++ (l.take (k + 1)).flatMap (ftG A)) * (HP.disk d A * (HP.pt bD (.cells #[.pointer (some ⟨d, 0, none⟩)] 26) * (HP.pt bA (.cells #[.int .i64 seq, .int .i64 gen, .int .i64 lsn, .int .i64 seg, .int .i64 (x : Nat), .int .i64 flo, .int .i64 new, .int .i64 keep, .int .i64 next, .int .i64 cur] 24) * q))))) := ⟨by
                  rw [HTK.out, HFT.out, ← List.append_assoc, ← HP1.out, ← List.append_assoc, ← List.append_assoc, ← HRR.out]
                  exact HI.out.drop2⟩
                clear HI
                go_wp2
                go_roundw
                case rel => exact ⟨k + 1, by go_num, by omega, H8⟩
                case measure => simp [intOf]; omega
          · obtain rfl : k = n := by omega
            have hkk : ¬ (k : Int) < (k : Int) := by omega
            have hs1 := HS.out
            rw [List.take_of_length_le (by rw [HQ.out.2.1]; exact Nat.le_refl _), ← HG.out] at hs1
            obtain ⟨v, h1⟩ := hs1.gs_open
            have b0 := h1.s2.cell1
            have H9 : Aside (Sat E wr (HP.row 37 4 v gg.length (gg.flatMap Sgp.vals) * (HP.disk d A * q))) := ⟨h1.perm (by ac_rfl : _ = HP.row 37 4 v gg.length (gg.flatMap Sgp.vals) * (HP.pt bO (.cells #[v] 35) * (HP.pt bD (.cells #[.pointer (some ⟨d, 0, none⟩)] 26) * (HP.pt bA (.cells #[.int .i64 seq, .int .i64 gen, .int .i64 lsn, .int .i64 seg, .int .i64 (x : Nat), .int .i64 flo, .int .i64 new, .int .i64 keep, .int .i64 next, .int .i64 cur] 24) * (HP.disk d A * q))))) |>.drop2.drop2.drop2⟩
            clear HS hs1 h1
            go_wp2
            go_ret
            exact ⟨_, rfl, H9.out⟩
theorem awakeG : groupsG (Dk.new 10) ⟨1, 1, 0, 1, 0, 0, 0, 0, 1, 0⟩ [] = [⟨1, anchorS, 0, 0⟩, ⟨1, mB ++ decB 1, 0, 0⟩, ⟨1, tB ++ decB 1, 0, 0⟩] := by
  have hl : ∀ f, longN (Dk.new 10) f = 1 := fun f => rfl
  unfold groupsG
  rw [if_pos ⟨by decide, by decide, rfl⟩]
  simp only [hl, show ((1 : Int)).toNat = 1 from rfl, show ((0 : Int)).toNat = 0 from rfl]
  rfl
set_option maxHeartbeats 2000000 in
set_option maxRecDepth 100000 in
theorem awake20_ok (E : Env) (q : HP) (w : World) (hq : ∀ w, Sat E w q → Lib.TabIs Tryz.prog w "internal/strconv.uint64pow10" .u64 Lib.pow10Tab) (hw : Sat E w q) :
    Calls Tryz.prog 12 #[] w fun e w' => e = .returned (.bool true) ∧ Sat E w' q := by
  have HQ := Aside.mk (And.intro hq hw)
  clear hq hw
  go_enter Tryz.func12, Tryz.ntmps12
  go_wp2_with fail
  refine (disk_new_ok E q 10 _ ⟨by omega, by omega⟩ HQ.out.2).mono ?_
  rintro e w1 ⟨d, rfl, h1⟩
  have H1 := Aside.mk h1
  clear h1
  go_wp2_with fail
  refine (scrub_groups E q d (Dk.new 10) ⟨1, 1, 0, 1, 0, 0, 0, 0, 1, 0⟩ [] none 0 0 _ rfl (by omega) (show wf64 1 by unfold wf64; omega) (show wf64 1 by unfold wf64; omega) (fun f hf => by cases hf) (by rw [awakeG]; decide) (fun w h => ⟨HQ.out.1 w h, Cells.nil _ _⟩) H1.out).mono ?_
  rintro e w2 ⟨v, rfl, h2⟩
  rw [awakeG] at h2
  obtain ⟨Av, cv, rfl, -, -⟩ := h2.row_slice
  have hcl := h2.row_cells
  have g1 : ([⟨1, anchorS, 0, 0⟩, ⟨1, mB ++ decB 1, 0, 0⟩, ⟨1, tB ++ decB 1, 0, 0⟩] : List Sgp).flatMap Sgp.vals = [.int .i64 1, .string anchorS, .int .i64 0, .int .i64 0, .int .i64 1, .string (mB ++ decB 1), .int .i64 0, .int .i64 0, .int .i64 1, .string (tB ++ decB 1), .int .i64 0, .int .i64 0] := rfl
  rw [g1] at hcl
  have hc1 : ([.int .i64 1, .string anchorS, .int .i64 0, .int .i64 0, .int .i64 1, .string (mB ++ decB 1), .int .i64 0, .int .i64 0, .int .i64 1, .string (tB ++ decB 1), .int .i64 0, .int .i64 0] : List Value)[1]? = some (.string anchorS) := rfl
  obtain ⟨a, ha, -⟩ := hcl _ _ hc1
  obtain ⟨g, o, rfl⟩ : ∃ g o, a = ⟨g, o, none⟩ := slice_addr hcl ha (List.getElem?_eq_some_iff.1 hc1).1
  subst ha
  have c1 := hcl.some_ _ _ hc1
  rw [addr_add] at c1
  have H2 := Aside.mk h2.right.right
  unfold anchorS at c1
  clear h2 hcl hc1 g1 H1
  go_wp2
  go_ret
  exact ⟨rfl, H2.out⟩
theorem Dk.Byt.wrF {f : ByteArray} {gen : Nat} : ∀ (ps : List (List Int)) {A : Dk} (i : Nat), A.Byt → (∀ p ∈ ps, Bytes p) → (wrF A f gen i ps).2.Byt
  | [], A, i, h, _ => h.sync f
  | p :: ps, A, i, h, hp => by
    show (if ¬ FrameOk i gen p.length then ((1 : Int), A) else if (A.write f i (extI f i gen p)).1 = 0 then Go.Proofs.YtnpinegpajbkeaaGreatDoor.wrF (A.write f i (extI f i gen p)).2 f gen (i + 1) ps else A.write f i (extI f i gen p)).2.Byt
    by_cases hf : FrameOk i gen p.length
    · rw [if_neg (by simpa using hf)]
      have hw := h.write f i (extI_bytes (name := f) (index := i) (gen := gen) hf.2.2.2.2 (hp p (List.mem_cons_self ..)))
      split
      · exact Dk.Byt.wrF ps (i + 1) hw fun x hx => hp x (List.mem_cons_of_mem _ hx)
      · exact hw
    · rw [if_pos hf]; exact h
theorem Dk.Byt.wrL {i gen : Nat} {ps : List (List Int)} (hp : ∀ p ∈ ps, Bytes p) : ∀ (fs : List ByteArray) {A : Dk}, A.Byt → (wrL A i gen ps fs).2.Byt
  | [], A, h => h
  | f :: fs, A, h => by
    show (if (Go.Proofs.YtnpinegpajbkeaaGreatDoor.wrF A f gen i ps).1 = 0 then Go.Proofs.YtnpinegpajbkeaaGreatDoor.wrL (Go.Proofs.YtnpinegpajbkeaaGreatDoor.wrF A f gen i ps).2 i gen ps fs else Go.Proofs.YtnpinegpajbkeaaGreatDoor.wrF A f gen i ps).2.Byt
    have hw := Dk.Byt.wrF (f := f) (gen := gen) ps i h hp
    split
    · exact Dk.Byt.wrL hp fs hw
    · exact hw
theorem Dk.Byt.wrP {A : Dk} (h : A.Byt) (x : ByteArray) (i gen : Nat) {ps : List (List Int)} (hp : ∀ p ∈ ps, Bytes p) : (wrP A x i gen ps).2.Byt := Dk.Byt.wrL hp _ h
theorem Dk.Byt.mendL {i g : Nat} {p : List Int} (hl : p.length ≤ 106) (hp : Bytes p) : ∀ (fs : List ByteArray) {A : Dk} (wr : Bool), A.Byt → (mendL i g p wr A fs).2.Byt
  | [], A, wr, h => h
  | f :: fs, A, wr, h => by
    rw [mendL_cons]
    have hw := h.write f (i : Int) (extI_bytes (name := f) (index := i) (gen := g) hl hp)
    split
    · exact Dk.Byt.mendL hl hp fs wr h
    · split
      · split
        · exact Dk.Byt.mendL hl hp fs true (hw.sync f)
        · exact hw.sync f
      · exact hw
theorem Dk.Byt.reads {A : Dk} (h : A.Byt) : ∀ f i c, A.cel f i = some c → Bytes c.read := fun f i c hc => by
  unfold Dk.cel at hc
  split at hc
  · exact (h.at f c (List.mem_of_getElem? hc)).1
  · cases hc
theorem Dk.Byt.mendP {A : Dk} (h : A.Byt) (x : ByteArray) (i : Int) : (mendP A x i).2.Byt := by
  unfold Go.Proofs.YtnpinegpajbkeaaGreatDoor.mendP
  split
  · exact h
  · exact Dk.Byt.mendL (getP_ok A x i).len (getP_byt fun f _ c hc => h.reads f i c hc) _ false h
theorem byt_slots {A : Dk} (hb : A.Byt) (name : ByteArray) (gen : Int) : ∀ (i : Int) j, j < 4 → Bytes (slotsL A name gen i j) := fun i j hj => readS_byt fun c hc => hb.reads _ _ c hc
theorem Dk.Byt.mendS {A : Dk} (h : A.Byt) (x : ByteArray) (gen i : Int) : (mendS A x gen i).2.Byt := by
  unfold Go.Proofs.YtnpinegpajbkeaaGreatDoor.mendS
  split
  · exact h
  · cases hf : firstBad A x gen i with
    | none => exact h
    | some k =>
      unfold mendK
      dsimp only
      have hk : k < 4 := by
        have := List.mem_of_find?_eq_some hf
        simp at this
        omega
      split
      · unfold mend1
        have hpb : Bytes (payI k (atF A x gen i k).1) := fun y hy => by
          have hb := atF_byt (A := A) (x := x) (gen := gen) (i := i) hk (byt_slots h x gen i)
          unfold payI at hy
          split at hy
          · exact hb y hy
          · exact hb y (List.mem_of_mem_drop (List.mem_of_mem_take hy))
        have hpl : (payI k (atF A x gen i k).1).length ≤ 106 := by
          have hl := atF_length A x gen i k
          unfold payI
          split
          · omega
          · rw [List.length_take, List.length_drop]; omega
        have hw := h.write (stripeF x k) ((i.toNat : Nat) : Int) (extI_bytes (name := stripeF x k) (index := i.toNat) (gen := gen.toNat) hpl hpb)
        split
        · exact hw.sync _
        · exact hw
      · exact h
structure GrpsIn (q : HP) (l : Sl Sgp) : Prop where
  len : l.l.length ≤ maxLen
  ok : ∀ g ∈ l.l, g.name.size ≤ 140737488351232 ∧ wf64 g.idx
  cells : ∀ E w, Sat E w q → Cells w l.A (l.l.flatMap Sgp.vals)
theorem grp_box {E : Env} {w : World} {BX : Nat} {g : Sgp} {q : HP} (h : Sat E w (HP.pt BX (.cells #[.int .i64 g.kind, .string g.name, .int .i64 g.idx, .int .i64 g.gen] 37) * q)) : w.cell? ⟨BX, 0, none⟩ = some (.int .i64 g.kind) ∧ w.cell? ⟨BX, 1, none⟩ = some (.string g.name) ∧ w.cell? ⟨BX, 2, none⟩ = some (.int .i64 g.idx) ∧ w.cell? ⟨BX, 3, none⟩ = some (.int .i64 g.gen) := by
  have f := fun j => h.cell j
  exact ⟨by rw [f 0]; rfl, by rw [f 1]; rfl, by rw [f 2]; rfl, by rw [f 3]; rfl⟩
theorem Dk.Byt.mendG {A : Dk} (h : A.Byt) (g : Sgp) : (mendG A g).2.Byt := by
  unfold Go.Proofs.YtnpinegpajbkeaaGreatDoor.mendG
  split
  · exact h.mendP _ _
  · split
    · exact h.mendS _ _ _
    · exact h
theorem cel_len {A : Dk} (h : A.Fine) {f : ByteArray} {i : Int} {c : Cel} (hc : A.cel f i = some c) : c.read.length = 128 := by
  unfold Dk.cel at hc
  split at hc
  · have hm := List.mem_of_getElem? hc
    unfold Dk.at at hm
    cases hl : lk A.files f with
    | none => rw [hl] at hm; cases hm
    | some l =>
      rw [hl] at hm
      exact (h.cels _ (lk_mem hl) c hm).1
  · cases hc
theorem readO_small {A : Dk} (h : A.Fine) (f : ByteArray) (i : Int) : (readO A f i).length ≤ 128 := by
  unfold readO
  cases hc : A.cel f i with
  | none => simp
  | some c =>
    exact Nat.le_of_eq (cel_len h hc)
set_option maxHeartbeats 8000000 in
set_option maxRecDepth 100000 in
theorem scrubRight_ok (E : Env) (q : HP) (l : Sl StepV) (g : Sgp) (w : World) (hst : Steps q l) (hnm : g.name.size + 2 ≤ maxLen) (hi : wf64 g.idx) (hq : ∀ E w, Sat E w q → Quarter w ∧ Lib.TabIs Tryz.prog w "internal/strconv.uint64pow10" .u64 Lib.pow10Tab) (hw : Sat E w q) :
    Calls Tryz.prog 6 #[l.val, .agg #[.int .i64 g.kind, .string g.name, .int .i64 g.idx, .int .i64 g.gen]] w fun e w' => e = .returned (.bool true) ∧ Sat E w' q := by
  unfold Sl.val
  have HST := Aside.mk hst
  have HQ := Aside.mk hq
  have HNM := Aside.mk hnm
  have HI := Aside.mk hi
  have hlen3 := hst.len
  unfold maxLen at hlen3
  have h1 := hw.alloc (.cells #[.int .i64 g.kind, .string g.name, .int .i64 g.idx, .int .i64 g.gen] 37)
  obtain ⟨BX, hBX⟩ : ∃ BX, BX = w.heap.size := ⟨_, rfl⟩
  rw [← hBX] at h1
  have HW := Aside.mk h1
  clear hst hnm hi hq hw h1
  go_enter Tryz.func6, Tryz.ntmps6
  go_wp2_with fail
  rw [← hBX] at *
  clear hBX
  refine (disks_inv Dk.Sane (fun A s k _ h => h.stepK s k) E _ 60 (Dk.Sane.new 60) l _ ⟨by omega, by omega⟩ HST.out.mul HW.out).mono ?_
  rintro e w1 ⟨d, y, A, rfl, hb1, hroom, hsane, h1⟩
  have H1 := Aside.mk h1
  have HB := Aside.mk hb1
  have HSA := Aside.mk hsane
  have HF := Aside.mk h1.disk_fine
  obtain ⟨nl, hnle⟩ : ∃ nl, nl = A.files.length := ⟨_, rfl⟩
  have HNL := Aside.mk hnle
  have hnl : nl ≤ 100000 := by rw [hnle]; exact files_le HF.out
  clear h1 hb1 hroom hsane HW hnle
  go_wp2_with fail
  refine (disk_copy E _ d A _ H1.out).mono ?_
  rintro e w2 ⟨c, rfl, h2⟩
  have H2 : Aside (Sat E w2 (HP.disk d A * (HP.disk c A * (HP.rdisk y A * (HP.pt BX (.cells #[.int .i64 g.kind, .string g.name, .int .i64 g.idx, .int .i64 g.gen] 37) * q))))) := ⟨h2.s2⟩
  clear h2 H1
  have HRD := Aside.mk (fun (f : ByteArray) (j : Int) (h : (f, j) ∉ g.spots) => mendG_reads HF.out.sorted HSA.out g h)
  have HRT := Aside.mk (fun h => mendG_right HF.out.sorted HSA.out g h)
  have HB2 := Aside.mk (HB.out.mendG g)
  have HSM := fun E q w h1 h => Aside.mk (scrub_mend E q d A g w HNM.out HI.out (fun f i c hc => HB.out.reads f i c hc) h1 h)
  obtain ⟨⟨⟨mb, me⟩, A2⟩, hm⟩ : ∃ r, r = mendG A g := ⟨_, rfl⟩
  rw [← hm] at HRD HRT HB2 HSM
  dsimp only at HRD HRT HB2 HSM
  clear hm
  obtain ⟨c0, c1, c2, c3⟩ := grp_box H2.out.right.right.right
  go_wp2_with fail
  refine (HSM E _ _ (fun w h => (HQ.out _ w h.right.right.right).1) H2.out).out.mono ?_
  rintro e w3 ⟨rfl, h3⟩
  have H3 := Aside.mk h3
  clear h3 H2 HSM c0 c1 c2 c3
  obtain ⟨c0, c1, c2, c3⟩ := grp_box H3.out.right.right.right
  by_cases hme : me = 0
  · subst hme
    have HBD := Aside.mk (HRT.out rfl)
    go_wp2_with fail
    refine (scrub_bad E _ d A2 g _ HNM.out (fun f i c hc => HB2.out.reads f i c hc) (fun w h => (HQ.out _ w h.right.right.right).1) H3.out).mono ?_
    rintro e w4 ⟨rfl, h4⟩
    rw [HBD.out]
    have HS0 := Aside.mk h4
    clear h4 H3 HBD HRT c0 c1 c2 c3
    obtain ⟨c0, c1, c2, c3⟩ := grp_box (HS0.out.perm (by ac_rfl : _ = HP.pt BX (.cells #[.int .i64 g.kind, .string g.name, .int .i64 g.idx, .int .i64 g.gen] 37) * (HP.disk d A2 * (HP.disk c A * (HP.rdisk y A * q)))))
    go_wp2_with fail
    refine (scrub_spots E _ g _ HNM.out HS0.out).mono ?_
    rintro e w5 ⟨v5, rfl, h5⟩
    obtain ⟨VS, cS, rfl, -, -⟩ := h5.row_slice
    obtain ⟨ng, hng⟩ : ∃ ng, ng = g.ends.length := ⟨_, rfl⟩
    have hng4 : ng ≤ 4 := by rw [hng]; have := g.ends_length; omega
    have HSL : Aside (g.spots.length = ng) := ⟨by rw [hng]; exact spots_len g⟩
    rw [← hng] at h5 ⊢
    have H5 : Aside (Sat E w5 (HP.disk c A * (HP.row 68 2 (.slice VS ng cS) ng (g.spots.flatMap encSpot) * (HP.disk d A2 * (HP.rdisk y A * (HP.pt BX (.cells #[.int .i64 g.kind, .string g.name, .int .i64 g.idx, .int .i64 g.gen] 37) * q)))))) := ⟨h5.perm (by ac_rfl)⟩
    clear h5 HS0 c0 c1 c2 c3 hng
    go_wp2_with fail
    refine (disk_list E _ c A _ H5.out).mono ?_
    rintro e w6 ⟨v6, rfl, h6⟩
    rw [← HNL.out] at h6
    obtain ⟨VN, cN, rfl, -, -⟩ := h6.row_slice
    have H6 : Aside (Sat E w6 (HP.disk c A * (HP.row 9 1 (.slice VN nl cN) nl (namesV A) * (HP.row 68 2 (.slice VS ng cS) ng (g.spots.flatMap encSpot) * (HP.disk d A2 * (HP.rdisk y A * (HP.pt BX (.cells #[.int .i64 g.kind, .string g.name, .int .i64 g.idx, .int .i64 g.gen] 37) * q))))))) := ⟨h6.s2⟩
    clear h6 H5
    go_wp2
    go_loopw [48] (fun v48 wr => ∃ kx : Nat, v48 = .int .i64 kx ∧ kx ≤ nl ∧ Aside (Sat E wr (HP.disk c A * (HP.row 9 1 (.slice VN nl cN) nl (namesV A) * (HP.row 68 2 (.slice VS ng cS) ng (g.spots.flatMap encSpot) * (HP.disk d A2 * (HP.rdisk y A * (HP.pt BX (.cells #[.int .i64 g.kind, .string g.name, .int .i64 g.idx, .int .i64 g.gen] 37) * q)))))))) (fun x _ => nl - (intOf x).toNat)
    case atStart => exact ⟨0, rfl, Nat.zero_le _, H6⟩
    case round =>
      clear H6
      obtain ⟨kx, rfl, hk, HS⟩ := hrel
      by_cases hlt : kx < nl
      · have hk0 : (0 : Int) ≤ (kx : Int) := by omega
        have hk1 : (kx : Int) < (nl : Int) := by omega
        obtain ⟨x, hx⟩ : ∃ x, A.files[kx]? = some x := ⟨_, List.getElem?_eq_getElem (by rw [← HNL.out]; exact hlt)⟩
        have hnsz : x.1.size ≤ maxLen := names_le HF.out (List.mem_of_getElem? hx)
        have gj : (namesV A)[kx]? = some (.string x.1) := by unfold namesV; rw [List.getElem?_map, hx]; rfl
        have hrow := HS.out.right.row_cells
        obtain ⟨gL, oL, rfl⟩ : ∃ g o, VN = some ⟨g, o, none⟩ := by
          obtain ⟨a, ha, -⟩ := hrow _ _ gj
          obtain ⟨g, o, rfl⟩ : ∃ g o, a = ⟨g, o, none⟩ := slice_addr hrow ha (List.getElem?_eq_some_iff.1 gj).1
          exact ⟨g, o, ha⟩
        have cj := hrow.some_ _ _ gj
        rw [addr_add] at cj
        have hat := at_small HF.out x.1
        obtain ⟨fn, hfn⟩ : ∃ fn, fn = x.1 := ⟨_, rfl⟩
        rw [← hfn] at cj hnsz hat
        obtain ⟨N, hN⟩ : ∃ N, N = (A.at fn).length := ⟨_, rfl⟩
        have HN := Aside.mk hN
        rw [← hN] at hat
        clear gj hx hrow hfn hN
        go_wp2_with fail
        refine (disk_extents E _ c A fn _ hnsz HS.out).mono ?_
        rintro e w7 ⟨rfl, hw7⟩; subst w7
        rw [← HN.out]
        clear cj
        go_wp2
        go_loopw [55] (fun v55 wq => ∃ ix : Nat, v55 = .int .i64 ix ∧ ix ≤ N ∧ Aside (Sat E wq (HP.disk c A * (HP.row 9 1 (.slice (some ⟨gL, oL, none⟩) nl cN) nl (namesV A) * (HP.row 68 2 (.slice VS ng cS) ng (g.spots.flatMap encSpot) * (HP.disk d A2 * (HP.rdisk y A * (HP.pt BX (.cells #[.int .i64 g.kind, .string g.name, .int .i64 g.idx, .int .i64 g.gen] 37) * q)))))))) (fun x _ => N - (intOf x).toNat)
        case atStart => exact ⟨0, rfl, Nat.zero_le _, HS⟩
        case round =>
          clear HS
          obtain ⟨ix, rfl, hix, HS⟩ := hrel
          by_cases hlt2 : ix < N
          · have hi1 : (ix : Int) < (N : Int) := by omega
            have hi0 : (0 : Int) ≤ (ix : Int) := by omega
            obtain ⟨xs, hxs⟩ : ∃ xs, xs = readO A fn ix := ⟨_, rfl⟩
            obtain ⟨ys, hys⟩ : ∃ ys, ys = readO A2 fn ix := ⟨_, rfl⟩
            have HXY : Aside (¬ xs = ys → (fn, (ix : Int)) ∈ g.spots) := ⟨fun hne => by
              rcases Classical.em ((fn, (ix : Int)) ∈ g.spots) with h | h
              · exact h
              · exact absurd (by rw [hxs, hys]; exact (HRD.out fn ix h).symm) hne⟩
            have HD1 := Aside.mk (fun (q : HP) w hw => disk_read_all E q c A fn ix w hnsz hw)
            rw [← hxs] at HD1
            have HD2 := Aside.mk (fun (q : HP) w hw => disk_read_all E q d A2 fn ix w hnsz hw)
            rw [← hys] at HD2
            have hlx : xs.length ≤ 9223372036854775806 := by rw [hxs]; exact Nat.le_trans (readO_small HF.out fn ix) (by omega)
            clear hxs hys
            go_wp2_with fail
            refine (HD1.out _ _ HS.out).mono ?_
            rintro e w8 ⟨V1, n1, k1, R1, rfl, -, h8, hc8⟩
            have H8 : Aside (Sat E w8 (HP.disk d A2 * (HP.disk c A * (R1 * (HP.row 9 1 (.slice (some ⟨gL, oL, none⟩) nl cN) nl (namesV A) * (HP.row 68 2 (.slice VS ng cS) ng (g.spots.flatMap encSpot) * (HP.rdisk y A * (HP.pt BX (.cells #[.int .i64 g.kind, .string g.name, .int .i64 g.idx, .int .i64 g.gen] 37) * q)))))))) := ⟨h8.perm (by ac_rfl)⟩
            clear h8 HS
            go_wp2_with fail
            refine (HD2.out _ _ H8.out).mono ?_
            rintro e w9 ⟨V2, n2, k2, R2, rfl, -, h9, hc9⟩
            have H9 := Aside.mk h9
            have e1 : Aside (Cells w9 V1 (b8s xs)) := ⟨hc8 _ _ (h9.perm (by ac_rfl : _ = HP.disk c A * (R1 * (HP.disk d A2 * (R2 * (HP.row 9 1 (.slice (some ⟨gL, oL, none⟩) nl cN) nl (namesV A) * (HP.row 68 2 (.slice VS ng cS) ng (g.spots.flatMap encSpot) * (HP.rdisk y A * (HP.pt BX (.cells #[.int .i64 g.kind, .string g.name, .int .i64 g.idx, .int .i64 g.gen] 37) * q)))))))))⟩
            have e2 : Aside (Cells w9 V2 (b8s ys)) := ⟨hc9 _ _ h9⟩
            have HZ : Aside (Sat E w9 (HP.disk c A * (HP.row 9 1 (.slice (some ⟨gL, oL, none⟩) nl cN) nl (namesV A) * (HP.row 68 2 (.slice VS ng cS) ng (g.spots.flatMap encSpot) * (HP.disk d A2 * (HP.rdisk y A * (HP.pt BX (.cells #[.int .i64 g.kind, .string g.name, .int .i64 g.idx, .int .i64 g.gen] 37) * q))))))) := ⟨(h9.perm (by ac_rfl : _ = R1 * (R2 * (HP.disk c A * (HP.row 9 1 (.slice (some ⟨gL, oL, none⟩) nl cN) nl (namesV A) * (HP.row 68 2 (.slice VS ng cS) ng (g.spots.flatMap encSpot) * (HP.disk d A2 * (HP.rdisk y A * (HP.pt BX (.cells #[.int .i64 g.kind, .string g.name, .int .i64 g.idx, .int .i64 g.gen] 37) * q))))))))).right.right⟩
            clear h9 H8 H9 hc8 hc9
            go_wp2_with fail
            refine (equalB_ok V1 V2 xs ys n1 n2 _ e1.out e2.out hlx).mono ?_
            rintro e w10 ⟨rfl, nd, rfl⟩
            have H10 : Aside (Sat E (w9.drewN nd) (HP.disk c A * (HP.row 9 1 (.slice (some ⟨gL, oL, none⟩) nl cN) nl (namesV A) * (HP.row 68 2 (.slice VS ng cS) ng (g.spots.flatMap encSpot) * (HP.disk d A2 * (HP.rdisk y A * (HP.pt BX (.cells #[.int .i64 g.kind, .string g.name, .int .i64 g.idx, .int .i64 g.gen] 37) * q))))))) := ⟨HZ.out.drewN⟩
            clear HZ e1 e2
            by_cases hxy : xs = ys
            · have hb : (xs == ys) = true := by rw [hxy]; simp
              rw [hb]
              clear hxy HXY
              go_wp2
              go_roundw
              case rel => exact ⟨ix + 1, by go_num, by omega, H10⟩
              case measure => simp [intOf]; omega
            · have hb : (xs == ys) = false := by simpa using hxy
              rw [hb]
              have HM := Aside.mk (HXY.out hxy)
              have H11 : Aside (Sat E (w9.drewN nd) (HP.row 68 2 (.slice VS ng cS) ng (g.spots.flatMap encSpot) * (HP.disk c A * (HP.row 9 1 (.slice (some ⟨gL, oL, none⟩) nl cN) nl (namesV A) * (HP.disk d A2 * (HP.rdisk y A * (HP.pt BX (.cells #[.int .i64 g.kind, .string g.name, .int .i64 g.idx, .int .i64 g.gen] 37) * q))))))) := ⟨H10.out.perm (by ac_rfl)⟩
              clear hxy HXY H10 hb
              go_wp2_with fail
              refine (spots_contains E _ VS g.spots ng cS fn ix _ HSL.out (by omega) (fun w h => h.row_cells) H11.out).mono ?_
              rintro e w11 ⟨b, rfl, hb, h11⟩
              obtain rfl : b = true := hb.2 HM.out
              have H12 : Aside (Sat E w11 (HP.disk c A * (HP.row 9 1 (.slice (some ⟨gL, oL, none⟩) nl cN) nl (namesV A) * (HP.row 68 2 (.slice VS ng cS) ng (g.spots.flatMap encSpot) * (HP.disk d A2 * (HP.rdisk y A * (HP.pt BX (.cells #[.int .i64 g.kind, .string g.name, .int .i64 g.idx, .int .i64 g.gen] 37) * q))))))) := ⟨h11.perm (by ac_rfl)⟩
              clear hb h11 H11
              go_wp2
              go_roundw
              case rel => exact ⟨ix + 1, by go_num, by omega, H12⟩
              case measure => simp [intOf]; omega
          · obtain rfl : ix = N := by omega
            have hii : ¬ (ix : Int) < (ix : Int) := by omega
            go_wp2
            go_roundw
            case rel => exact ⟨kx + 1, by go_num, by omega, HS⟩
            case measure => simp [intOf]; omega
      · obtain rfl : kx = nl := by omega
        have hkk : ¬ (kx : Int) < (kx : Int) := by omega
        have H7 := Aside.mk (HS.out.perm (by ac_rfl : _ = HP.disk c A * (HP.row 9 1 (.slice VN kx cN) kx (namesV A) * (HP.row 68 2 (.slice VS ng cS) ng (g.spots.flatMap encSpot) * (HP.disk d A2 * (HP.rdisk y A * (HP.pt BX (.cells #[.int .i64 g.kind, .string g.name, .int .i64 g.idx, .int .i64 g.gen] 37) * q))))))).right.right.right.right.right.right
        clear HS
        go_wp2_with fail
        refine (awake20_ok E q _ (fun w h => (HQ.out _ w h).2) H7.out).mono ?_
        rintro e w12 ⟨rfl, h12⟩
        have H8 := Aside.mk h12
        clear h12 H7
        go_wp2
        go_ret
        exact ⟨rfl, H8.out⟩
  · have hme2 : (me == 0) = false := by rw [beq_eq_false_iff_ne]; exact hme
    have HS0 := H3
    clear H3 HRT c0 c1 c2 c3
    obtain ⟨c0, c1, c2, c3⟩ := grp_box (HS0.out.perm (by ac_rfl : _ = HP.pt BX (.cells #[.int .i64 g.kind, .string g.name, .int .i64 g.idx, .int .i64 g.gen] 37) * (HP.disk d A2 * (HP.disk c A * (HP.rdisk y A * q)))))
    go_wp2_with fail
    refine (scrub_spots E _ g _ HNM.out HS0.out).mono ?_
    rintro e w5 ⟨v5, rfl, h5⟩
    obtain ⟨VS, cS, rfl, -, -⟩ := h5.row_slice
    obtain ⟨ng, hng⟩ : ∃ ng, ng = g.ends.length := ⟨_, rfl⟩
    have hng4 : ng ≤ 4 := by rw [hng]; have := g.ends_length; omega
    have HSL : Aside (g.spots.length = ng) := ⟨by rw [hng]; exact spots_len g⟩
    rw [← hng] at h5 ⊢
    have H5 : Aside (Sat E w5 (HP.disk c A * (HP.row 68 2 (.slice VS ng cS) ng (g.spots.flatMap encSpot) * (HP.disk d A2 * (HP.rdisk y A * (HP.pt BX (.cells #[.int .i64 g.kind, .string g.name, .int .i64 g.idx, .int .i64 g.gen] 37) * q)))))) := ⟨h5.perm (by ac_rfl)⟩
    clear h5 HS0 c0 c1 c2 c3 hng
    go_wp2_with fail
    refine (disk_list E _ c A _ H5.out).mono ?_
    rintro e w6 ⟨v6, rfl, h6⟩
    rw [← HNL.out] at h6
    obtain ⟨VN, cN, rfl, -, -⟩ := h6.row_slice
    have H6 : Aside (Sat E w6 (HP.disk c A * (HP.row 9 1 (.slice VN nl cN) nl (namesV A) * (HP.row 68 2 (.slice VS ng cS) ng (g.spots.flatMap encSpot) * (HP.disk d A2 * (HP.rdisk y A * (HP.pt BX (.cells #[.int .i64 g.kind, .string g.name, .int .i64 g.idx, .int .i64 g.gen] 37) * q))))))) := ⟨h6.s2⟩
    clear h6 H5
    go_wp2
    go_loopw [48] (fun v48 wr => ∃ kx : Nat, v48 = .int .i64 kx ∧ kx ≤ nl ∧ Aside (Sat E wr (HP.disk c A * (HP.row 9 1 (.slice VN nl cN) nl (namesV A) * (HP.row 68 2 (.slice VS ng cS) ng (g.spots.flatMap encSpot) * (HP.disk d A2 * (HP.rdisk y A * (HP.pt BX (.cells #[.int .i64 g.kind, .string g.name, .int .i64 g.idx, .int .i64 g.gen] 37) * q)))))))) (fun x _ => nl - (intOf x).toNat)
    case atStart => exact ⟨0, rfl, Nat.zero_le _, H6⟩
    case round =>
      clear H6
      obtain ⟨kx, rfl, hk, HS⟩ := hrel
      by_cases hlt : kx < nl
      · have hk0 : (0 : Int) ≤ (kx : Int) := by omega
        have hk1 : (kx : Int) < (nl : Int) := by omega
        obtain ⟨x, hx⟩ : ∃ x, A.files[kx]? = some x := ⟨_, List.getElem?_eq_getElem (by rw [← HNL.out]; exact hlt)⟩
        have hnsz : x.1.size ≤ maxLen := names_le HF.out (List.mem_of_getElem? hx)
        have gj : (namesV A)[kx]? = some (.string x.1) := by unfold namesV; rw [List.getElem?_map, hx]; rfl
        have hrow := HS.out.right.row_cells
        obtain ⟨gL, oL, rfl⟩ : ∃ g o, VN = some ⟨g, o, none⟩ := by
          obtain ⟨a, ha, -⟩ := hrow _ _ gj
          obtain ⟨g, o, rfl⟩ : ∃ g o, a = ⟨g, o, none⟩ := slice_addr hrow ha (List.getElem?_eq_some_iff.1 gj).1
          exact ⟨g, o, ha⟩
        have cj := hrow.some_ _ _ gj
        rw [addr_add] at cj
        have hat := at_small HF.out x.1
        obtain ⟨fn, hfn⟩ : ∃ fn, fn = x.1 := ⟨_, rfl⟩
        rw [← hfn] at cj hnsz hat
        obtain ⟨N, hN⟩ : ∃ N, N = (A.at fn).length := ⟨_, rfl⟩
        have HN := Aside.mk hN
        rw [← hN] at hat
        clear gj hx hrow hfn hN
        go_wp2_with fail
        refine (disk_extents E _ c A fn _ hnsz HS.out).mono ?_
        rintro e w7 ⟨rfl, hw7⟩; subst w7
        rw [← HN.out]
        clear cj
        go_wp2
        go_loopw [55] (fun v55 wq => ∃ ix : Nat, v55 = .int .i64 ix ∧ ix ≤ N ∧ Aside (Sat E wq (HP.disk c A * (HP.row 9 1 (.slice (some ⟨gL, oL, none⟩) nl cN) nl (namesV A) * (HP.row 68 2 (.slice VS ng cS) ng (g.spots.flatMap encSpot) * (HP.disk d A2 * (HP.rdisk y A * (HP.pt BX (.cells #[.int .i64 g.kind, .string g.name, .int .i64 g.idx, .int .i64 g.gen] 37) * q)))))))) (fun x _ => N - (intOf x).toNat)
        case atStart => exact ⟨0, rfl, Nat.zero_le _, HS⟩
        case round =>
          clear HS
          obtain ⟨ix, rfl, hix, HS⟩ := hrel
          by_cases hlt2 : ix < N
          · have hi1 : (ix : Int) < (N : Int) := by omega
            have hi0 : (0 : Int) ≤ (ix : Int) := by omega
            obtain ⟨xs, hxs⟩ : ∃ xs, xs = readO A fn ix := ⟨_, rfl⟩
            obtain ⟨ys, hys⟩ : ∃ ys, ys = readO A2 fn ix := ⟨_, rfl⟩
            have HXY : Aside (¬ xs = ys → (fn, (ix : Int)) ∈ g.spots) := ⟨fun hne => by
              rcases Classical.em ((fn, (ix : Int)) ∈ g.spots) with h | h
              · exact h
              · exact absurd (by rw [hxs, hys]; exact (HRD.out fn ix h).symm) hne⟩
            have HD1 := Aside.mk (fun (q : HP) w hw => disk_read_all E q c A fn ix w hnsz hw)
            rw [← hxs] at HD1
            have HD2 := Aside.mk (fun (q : HP) w hw => disk_read_all E q d A2 fn ix w hnsz hw)
            rw [← hys] at HD2
            have hlx : xs.length ≤ 9223372036854775806 := by rw [hxs]; exact Nat.le_trans (readO_small HF.out fn ix) (by omega)
            clear hxs hys
            go_wp2_with fail
            refine (HD1.out _ _ HS.out).mono ?_
            rintro e w8 ⟨V1, n1, k1, R1, rfl, -, h8, hc8⟩
            have H8 : Aside (Sat E w8 (HP.disk d A2 * (HP.disk c A * (R1 * (HP.row 9 1 (.slice (some ⟨gL, oL, none⟩) nl cN) nl (namesV A) * (HP.row 68 2 (.slice VS ng cS) ng (g.spots.flatMap encSpot) * (HP.rdisk y A * (HP.pt BX (.cells #[.int .i64 g.kind, .string g.name, .int .i64 g.idx, .int .i64 g.gen] 37) * q)))))))) := ⟨h8.perm (by ac_rfl)⟩
            clear h8 HS
            go_wp2_with fail
            refine (HD2.out _ _ H8.out).mono ?_
            rintro e w9 ⟨V2, n2, k2, R2, rfl, -, h9, hc9⟩
            have H9 := Aside.mk h9
            have e1 : Aside (Cells w9 V1 (b8s xs)) := ⟨hc8 _ _ (h9.perm (by ac_rfl : _ = HP.disk c A * (R1 * (HP.disk d A2 * (R2 * (HP.row 9 1 (.slice (some ⟨gL, oL, none⟩) nl cN) nl (namesV A) * (HP.row 68 2 (.slice VS ng cS) ng (g.spots.flatMap encSpot) * (HP.rdisk y A * (HP.pt BX (.cells #[.int .i64 g.kind, .string g.name, .int .i64 g.idx, .int .i64 g.gen] 37) * q)))))))))⟩
            have e2 : Aside (Cells w9 V2 (b8s ys)) := ⟨hc9 _ _ h9⟩
            have HZ : Aside (Sat E w9 (HP.disk c A * (HP.row 9 1 (.slice (some ⟨gL, oL, none⟩) nl cN) nl (namesV A) * (HP.row 68 2 (.slice VS ng cS) ng (g.spots.flatMap encSpot) * (HP.disk d A2 * (HP.rdisk y A * (HP.pt BX (.cells #[.int .i64 g.kind, .string g.name, .int .i64 g.idx, .int .i64 g.gen] 37) * q))))))) := ⟨(h9.perm (by ac_rfl : _ = R1 * (R2 * (HP.disk c A * (HP.row 9 1 (.slice (some ⟨gL, oL, none⟩) nl cN) nl (namesV A) * (HP.row 68 2 (.slice VS ng cS) ng (g.spots.flatMap encSpot) * (HP.disk d A2 * (HP.rdisk y A * (HP.pt BX (.cells #[.int .i64 g.kind, .string g.name, .int .i64 g.idx, .int .i64 g.gen] 37) * q))))))))).right.right⟩
            clear h9 H8 H9 hc8 hc9
            go_wp2_with fail
            refine (equalB_ok V1 V2 xs ys n1 n2 _ e1.out e2.out hlx).mono ?_
            rintro e w10 ⟨rfl, nd, rfl⟩
            have H10 : Aside (Sat E (w9.drewN nd) (HP.disk c A * (HP.row 9 1 (.slice (some ⟨gL, oL, none⟩) nl cN) nl (namesV A) * (HP.row 68 2 (.slice VS ng cS) ng (g.spots.flatMap encSpot) * (HP.disk d A2 * (HP.rdisk y A * (HP.pt BX (.cells #[.int .i64 g.kind, .string g.name, .int .i64 g.idx, .int .i64 g.gen] 37) * q))))))) := ⟨HZ.out.drewN⟩
            clear HZ e1 e2
            by_cases hxy : xs = ys
            · have hb : (xs == ys) = true := by rw [hxy]; simp
              rw [hb]
              clear hxy HXY
              go_wp2
              go_roundw
              case rel => exact ⟨ix + 1, by go_num, by omega, H10⟩
              case measure => simp [intOf]; omega
            · have hb : (xs == ys) = false := by simpa using hxy
              rw [hb]
              have HM := Aside.mk (HXY.out hxy)
              have H11 : Aside (Sat E (w9.drewN nd) (HP.row 68 2 (.slice VS ng cS) ng (g.spots.flatMap encSpot) * (HP.disk c A * (HP.row 9 1 (.slice (some ⟨gL, oL, none⟩) nl cN) nl (namesV A) * (HP.disk d A2 * (HP.rdisk y A * (HP.pt BX (.cells #[.int .i64 g.kind, .string g.name, .int .i64 g.idx, .int .i64 g.gen] 37) * q))))))) := ⟨H10.out.perm (by ac_rfl)⟩
              clear hxy HXY H10 hb
              go_wp2_with fail
              refine (spots_contains E _ VS g.spots ng cS fn ix _ HSL.out (by omega) (fun w h => h.row_cells) H11.out).mono ?_
              rintro e w11 ⟨b, rfl, hb, h11⟩
              obtain rfl : b = true := hb.2 HM.out
              have H12 : Aside (Sat E w11 (HP.disk c A * (HP.row 9 1 (.slice (some ⟨gL, oL, none⟩) nl cN) nl (namesV A) * (HP.row 68 2 (.slice VS ng cS) ng (g.spots.flatMap encSpot) * (HP.disk d A2 * (HP.rdisk y A * (HP.pt BX (.cells #[.int .i64 g.kind, .string g.name, .int .i64 g.idx, .int .i64 g.gen] 37) * q))))))) := ⟨h11.perm (by ac_rfl)⟩
              clear hb h11 H11
              go_wp2
              go_roundw
              case rel => exact ⟨ix + 1, by go_num, by omega, H12⟩
              case measure => simp [intOf]; omega
          · obtain rfl : ix = N := by omega
            have hii : ¬ (ix : Int) < (ix : Int) := by omega
            go_wp2
            go_roundw
            case rel => exact ⟨kx + 1, by go_num, by omega, HS⟩
            case measure => simp [intOf]; omega
      · obtain rfl : kx = nl := by omega
        have hkk : ¬ (kx : Int) < (kx : Int) := by omega
        have H7 := Aside.mk (HS.out.perm (by ac_rfl : _ = HP.disk c A * (HP.row 9 1 (.slice VN kx cN) kx (namesV A) * (HP.row 68 2 (.slice VS ng cS) ng (g.spots.flatMap encSpot) * (HP.disk d A2 * (HP.rdisk y A * (HP.pt BX (.cells #[.int .i64 g.kind, .string g.name, .int .i64 g.idx, .int .i64 g.gen] 37) * q))))))).right.right.right.right.right.right
        clear HS
        go_wp2_with fail
        refine (awake20_ok E q _ (fun w h => (HQ.out _ w h).2) H7.out).mono ?_
        rintro e w12 ⟨rfl, h12⟩
        have H8 := Aside.mk h12
        clear h12 H7
        go_wp2
        go_ret
        exact ⟨rfl, H8.out⟩
end Go.Proofs.YtnpinegpajbkeaaGreatDoor
namespace Go.Proofs.YtnpinegpajbkeaaGreatDoor
open Go.ChangeShapes Go.WideShapes Go.ChangeAt Go.WideMaps Go.WideElems Go.RowKit HP
theorem pow10_tab : (Rows.laid_internal_strconv_uint64pow10 : DataW Unit) = Lib.tabData .u64 Lib.pow10Tab := by kernel_rfl
theorem pow10_of_reads {W : World} (h : Lib.VarReads Tryz.prog W "internal/strconv.uint64pow10" Rows.laid_internal_strconv_uint64pow10) : Lib.TabIs Tryz.prog W "internal/strconv.uint64pow10" .u64 Lib.pow10Tab := by
  obtain ⟨g0, t0, cs0, f0, p0, hg0, ht0, hv0, hd0⟩ := h
  have hg : Tryz.prog.globalNamed "internal/strconv.uint64pow10" = some 0 := by kernel_rfl
  have ht : (Tryz.prog.globals[0]?).map (·.type) = some 245 := by kernel_rfl
  obtain rfl := Option.some.inj (hg.symm.trans hg0)
  obtain rfl := Option.some.inj (ht.symm.trans ht0)
  unfold Lib.TabIs
  rw [hv0, ← Lib.cells_of_tab Tryz.underlying245 Tryz.underlying167 (by kernel_rfl) (by kernel_rfl) (pow10_tab ▸ hd0)]
theorem quarter6_of_reads {W : World} (h : Lib.VarReads Tryz.prog W "dryrot/crc.quarter" Rows.laid_dryrot_crc_quarter) : Quarter W := by
  obtain ⟨g0, t0, cs0, f0, p0, hg0, ht0, hv0, hd0⟩ := h
  obtain rfl := Option.some.inj (gQuarter.symm.trans hg0)
  obtain rfl := Option.some.inj (tQuarter.symm.trans ht0)
  obtain ⟨xs, m1, rfl, hx1, hlen, hn3, hel⟩ := DataW.trod_array Tryz.underlying247 hd0
  have c3 : Tryz.prog.cellsOf 168 = 1 := by kernel_rfl
  simp only [Prod.mk.injEq, DataW.agg.injEq, Rows.laid_dryrot_crc_quarter] at hx1
  intro i hi
  have hi' := hel i hi
  rw [c3, Nat.mul_one] at hi'
  have hxl : i < xs.length := by omega
  rw [List.getElem?_eq_getElem hxl] at hi'
  obtain ⟨k, e1, e2, _⟩ := DataW.trod_int Tryz.underlying168 hi'
  have e3 : (xs.map (·.1))[i]? = some (DataW.lit (.int .u32 k)) := by
    rw [List.getElem?_map, List.getElem?_eq_getElem hxl]
    simp [e2]
  rw [← hx1.1] at e3
  have hk : k = quarterN i := by
    match i, hi with
    | 0, _ => simpa [quarterN] using e3.symm
    | 1, _ => simpa [quarterN] using e3.symm
    | 2, _ => simpa [quarterN] using e3.symm
    | 3, _ => simpa [quarterN] using e3.symm
  have e4 := World.var?_cell hg0 hv0 i
  have e5 : cs0.toList[i]? = some (.int .u32 k) := by
    have := congrArg (fun l => l[0]?) e1
    simpa [List.getElem?_take] using this
  rw [Array.getElem?_toList, hk] at e5
  rw [← e5, ← e4]
def laid6 : List (String × DataW Unit) := [("dryrot/crc.quarter", Rows.laid_dryrot_crc_quarter), ("math/bits.deBruijn32tab", Rows.laid_math_bits_deBruijn32tab), ("math/bits.deBruijn64tab", Rows.laid_math_bits_deBruijn64tab), ("internal/strconv.uint64pow10", Rows.laid_internal_strconv_uint64pow10), ("unicode/utf8.acceptRanges", Rows.laid_unicode_utf8_acceptRanges), ("unicode/utf8.first", Rows.laid_unicode_utf8_first)]
theorem door_met6 (os : Os) (args : Array Value) : laidMetH Tryz.prog laid6 ((World.laidAll Tryz.prog os laid6).forCall (fun _ _ => 0) ⟨#[], args, []⟩).memory := by
  rw [MakeChecks.laidMetH_plain _ _ _ (by kernel_rfl)]
  exact laidMet_laidAll _ (by kernel_rfl) (by kernel_rfl)
theorem laid6_reads {W : World} (h : laidMetH Tryz.prog laid6 W) : Quarter W ∧ Lib.TabIs Tryz.prog W "internal/strconv.uint64pow10" .u64 Lib.pow10Tab := by
  rw [MakeChecks.laidMetH_plain _ _ _ (by kernel_rfl)] at h
  obtain ⟨ps, hL, -⟩ := h
  exact ⟨quarter6_of_reads (Lib.LaidVars_reads hL _ _ (by simp [laid6])), pow10_of_reads (Lib.LaidVars_reads hL _ _ (by simp [laid6]))⟩
end Go.Proofs.YtnpinegpajbkeaaGreatDoor
namespace Go.Proofs.YtnpinegpajbkeaaGreatDoor
open Go.ChangeShapes Go.WideShapes Go.ChangeAt Go.RowKit HP
def rdGrp : Rd Sgp := rdMap (rdPair (rdInt .i64) (rdPair rdStr (rdPair (rdInt .i64) (rdPair (rdInt .i64) rdEnd)))) (fun x => (⟨x.1, x.2.1, x.2.2.1, x.2.2.2.1⟩ : Sgp)) (fun s => (s.kind, s.name, s.idx, s.gen, ())) (fun a => rfl)
theorem grp_ok {W : World} {g : Sgp} (h : rdGrp.ok W g) : wf64 g.kind ∧ g.name.size ≤ maxLen ∧ wf64 g.idx ∧ wf64 g.gen := ⟨wf64_of h.1, h.2.1, wf64_of h.2.2.1, wf64_of h.2.2.2.1⟩
end Go.Proofs.YtnpinegpajbkeaaGreatDoor
namespace Go.Proofs.YtnpinegpajbkeaaGreatDoor
open Go.ChangeShapes Go.WideShapes Go.ChangeAt Go.RowKit HP
def Sgp.sz (g : Sgp) : List Nat := [] ++ ([g.name.size] ++ ([] ++ ([] ++ [])))
theorem rdGrp_atZ : rdGrp.AtZ Sgp.sz Tryz.prog 37 :=
  rdStruct_atZ Tryz.underlying37 (total := 1 + (1 + (1 + (1 + 0)))) (by kernel_rfl) (rdPair_fsZ rfl (by kernel_rfl) (Rd.At.toZ (rdInt_at Tryz.underlying3)) (rdPair_fsZ rfl (by kernel_rfl) (rdStr_atZ Tryz.underlying9) (rdPair_fsZ rfl (by kernel_rfl) (Rd.At.toZ (rdInt_at Tryz.underlying3)) (rdPair_fsZ rfl (by kernel_rfl) (Rd.At.toZ (rdInt_at Tryz.underlying3)) (rdEnd_fsZ _))))) _ _ _
section
variable {P : Program} {t : TypeId}
theorem agg_argZ {α : Type} {r : Rd α} {z : α → List Nat} {fs : Array Field} {base : Nat} (ht : P.underlying t = some (.struct fs)) (hr : r.AtZ z P t) {H : Type} {enc : TypeId × Value → H} {W : World} {v : Value} {d0 : DataW H} {p : List MemPlace} (hv : Value.okWide P W .any base t v) (h0 : DataW.Trod enc P W 0 (fun _ => true) true t v d0 p) (hz : ∀ n ∈ d0.weights P t, n ≤ reachBytes) : ∃ a, v = .agg (r.cells a).toArray ∧ r.ok W a ∧ ∀ n ∈ z a, n ≤ reachBytes := by
  obtain ⟨cs, rfl, -⟩ := okWide_struct ht hv
  obtain ⟨fuel, hf⟩ := h0
  obtain ⟨s, hs, ho, hzs⟩ := hr hf hz
  refine ⟨s, ?_, ho, hzs⟩
  have : cs.toList = r.cells s := hs
  rw [← this]
end
theorem grp_sz {g : Sgp} (hz : ∀ n ∈ g.sz, n ≤ reachBytes) : g.name.size ≤ 140737488351232 := by
  have hr : reachBytes = 140737488351232 := by decide
  have := hz g.name.size (by simp [Sgp.sz])
  rw [hr] at this
  exact this
end Go.Proofs.YtnpinegpajbkeaaGreatDoor
namespace Go.Proofs.YtnpinegpajbkeaaGreatDoor
open Go.ChangeShapes Go.WideShapes Go.ChangeAt Go.RowKit HP
theorem rdSteps_at : (rdSl rdStep).At Tryz.prog 22 := rdSl_at (n := 8) Tryz.underlying22 (by kernel_rfl) rdStep_at
structure StepsOk (W : World) (s : Sl StepV) : Prop where
  len : s.l.length ≤ s.cap
  cap : s.cap ≤ maxLen
  cells : Cells W s.A (s.l.flatMap StepV.vals)
  each : ∀ x ∈ s.l, x.Ok W
theorem steps_ok {W : World} {s : Sl StepV} (h : (rdSl rdStep).ok W s) : StepsOk W s := ⟨h.1, h.2.1, h.2.2.1, fun x hx => step_ok (h.2.2.2 x hx)⟩
theorem steps_old {W : World} {s : Sl StepV} (h : (rdSl rdStep).ok W s) : Steps (HP.old W) s :=
  ⟨Nat.le_trans (steps_ok h).len (steps_ok h).cap, fun x hx => ((steps_ok h).each x hx).wf, fun E w hw => ⟨(steps_ok h).cells.carry (old_carry hw), fun x hx => ⟨((steps_ok h).each x hx).b.2.2.1.carry (old_carry hw), ((steps_ok h).each x hx).kept.2.2.1.carry (old_carry hw)⟩⟩⟩
end Go.Proofs.YtnpinegpajbkeaaGreatDoor
