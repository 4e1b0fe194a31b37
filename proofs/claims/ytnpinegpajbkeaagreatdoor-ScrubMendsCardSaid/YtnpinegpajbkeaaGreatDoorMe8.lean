/- Texts of one claim, one behind the other: Rc4, Rc4O, AnchA, Full, Laid, Tied, RdZ, TabO. -/
import Derived.Test.YtnpinegpajbkeaaGreatDoorMe7
import Derived.Laws.BytesString
import Derived.LaidMore
import Derived.Stop.Joined
import Derived.Lib.LaidTab
set_option linter.unusedSimpArgs false
set_option linter.unusedVariables false
namespace Go.Proofs.YtnpinegpajbkeaaGreatDoor
open Go.RowKit HP
theorem wpList_value_run {P : Program} {ops : Array Oper} {rest : List Oper} {o : Oper} {a : Act} {w w' : World} {Q : Exit → Act → World → Prop} {v : Value} (hg : o.guard = none) (hr : (execOp a.eval o).run P w = .ok (.value v) w') (hk : wpList P ops Q rest (a.put o.dst v) w') : wpList P ops Q (o :: rest) a w := by
  refine wpList_plain hg fun K hK => ?_
  exact wp_value_run hr (hK _ _ hk)
theorem Sat.row_new {E : Env} {w : World} {q : HP} {e : TypeId} (h : Sat E w q) (cs : List Value) (hn : cs.length ≤ maxLen) : Sat E (w.alloc (.cells cs.toArray e)) (HP.row e 1 (.slice (some ⟨w.heap.size, 0, none⟩) cs.length cs.length) cs.length cs * q) := by
  have h1 := h.alloc (.cells cs.toArray e)
  have h2 := Sat.row_mk (n := cs.length) (cap := cs.length) (off := 0) (size := 1) (cs := cs) h1 (Nat.le_refl _) hn (by simp) (by simp)
  simpa using h2
def sliceLen : Value → Nat
  | .slice _ n _ => n
  | _ => 0
set_option maxHeartbeats 4000000 in
set_option maxRecDepth 100000 in
theorem ref_frame (E : Env) (q : HP) (name : ByteArray) (index gen : Nat) (A : Option Addr) (p : List Int) (n c : Nat) (w : World) (hname : name.size ≤ maxLen) (hi : (index : Int) ≤ 2147483647) (hg : (gen : Int) ≤ 4611686018427387904) (hpn : p.length = n) (hn : n ≤ 106) (hp : Bytes p)
    (hq : ∀ w, Sat E w q → Cells w A (b8s p)) (hw : Sat E w q) :
    Calls Tryz.prog 66 #[.string name, .int .i64 index, .int .i64 gen, .slice A n c] w fun e w' => ∃ v, e = .returned (.tuple #[v, .int .i64 0]) ∧ Sat E w' (HP.row 5 1 v 128 (b8s (extI name index gen p)) * q) := by
  have HQ := Aside.mk (And.intro hq (And.intro hp hpn))
  have HNM := Aside.mk hname
  have hn' : (n : Int) ≤ 106 := by omega
  have hi0 : (0 : Int) ≤ (index : Int) := by omega
  have hg0 : (0 : Int) ≤ (gen : Int) := by omega
  have u1 : IntKind.u64.wrap (index : Int) = (index : Int) := by rw [IntKind.wrap_u64]; omega
  have u2 : IntKind.u64.wrap (gen : Int) = (gen : Int) := by rw [IntKind.wrap_u64]; omega
  have u3 : IntKind.u8.wrap (n : Int) = (n : Int) := by rw [IntKind.wrap_u8]; omega
  have h1 : Sat E (w.alloc (.cells #[.int .u8 229] 5)) (HP.row 5 1 (.slice (some ⟨w.heap.size, 0, none⟩) 1 1) 1 (b8s [229]) * q) := hw.row_new (b8s [229]) (by unfold maxLen; show 1 ≤ _; omega)
  obtain ⟨gs, cs, w2, hr2, h2, c2⟩ := run_str_bytes (dst := 43) Tryz.underlying9 Tryz.underlying43 Tryz.underlying5 name h1
  have H2 := Aside.mk (And.intro h2 c2)
  clear hq hw hp hpn h1 h2 c2 hname
  go_enter Tryz.func66, Tryz.ntmps66
  go_wp2_with (first | (refine wpList_value_run rfl (exec_convert rfl rfl hr2) ?_))
  clear hr2
  refine (ref_sum _ (strB name) name.size cs w2 (strB_length _) HNM.out (strB_bytes _) H2.out.2).mono ?_
  rintro e w3 ⟨rfl, hw3⟩
  subst w3
  obtain ⟨S, hS⟩ : ∃ S, S = crcSum (strB name) := ⟨_, rfl⟩
  have hS4 : S < 4294967296 := by rw [hS]; exact crcSum_lt (strB_bytes _)
  rw [← hS]
  have HSS := Aside.mk hS
  clear hS
  have u4 : IntKind.u64.wrap (S : Int) = (S : Int) := by rw [IntKind.wrap_u64]; omega
  go_wp2_with fail
  refine (ref_put E _ S 4 w2 (by omega) (by omega) H2.out.1).mono ?_
  rintro e w4 ⟨g4, rfl, h4⟩
  have H4 := Aside.mk (And.intro h4.s2 h4.row_cells)
  clear h4 H2 u4
  go_wp2_with (at_builtin; refine wpList_append_row slB8 rfl rfl (by rfl) (by rfl) H4.out.1 H4.out.2 (by rw [b8s_length, putI_length]) (b8s_one _) (by unfold maxLen; omega) (by omega) (fun v5 w5 h5 => ?_); rw [← b8s_append] at h5; obtain ⟨A5, c5, rfl, -, -⟩ := h5.row_slice; have H5 := Aside.mk h5.drop2; clear h5)
  refine (ref_put E _ index 4 _ (by omega) (by omega) H5.out).mono ?_
  rintro e w6 ⟨g6, rfl, h6⟩
  have H6 := Aside.mk (And.intro h6.s2 h6.row_cells)
  clear h6 H5 H4
  go_wp2_with (at_builtin; refine wpList_append_row slB8 rfl rfl (by rfl) (by rfl) H6.out.1 H6.out.2 (by rw [b8s_length, putI_length]) (b8s_one _) (by unfold maxLen; omega) (by omega) (fun v7 w7 h7 => ?_); rw [← b8s_append] at h7; obtain ⟨A7, c7, rfl, -, -⟩ := h7.row_slice; have H7 := Aside.mk h7.drop2; clear h7)
  refine (ref_put E _ gen 8 _ (by omega) (by omega) H7.out).mono ?_
  rintro e w8 ⟨g8, rfl, h8⟩
  have H8 := Aside.mk (And.intro h8.s2 h8.row_cells)
  clear h8 H7 H6
  have HCP : Aside (∀ w r, Sat E w (r * q) → Cells w A (b8s p)) := ⟨fun w r h => HQ.out.1 w h.right⟩
  go_wp2_with (at_builtin; first
    | (refine wpList_append_row slB8 rfl rfl (by rfl) (by rfl) H8.out.1 H8.out.2 (by rw [b8s_length, putI_length]) (b8s_one _) (by unfold maxLen; omega) (by omega) (fun v9 w9 h9 => ?_); rw [← b8s_append] at h9; obtain ⟨A9, c9, rfl, -, -⟩ := h9.row_slice; have H9 := Aside.mk h9.drop2; clear h9)
    | (refine wpList_append_new (news := b8s [(n : Int)]) slB8 rfl rfl (by rfl) (by rfl) H9.out (by rfl) (by rfl) (by unfold maxLen; omega) (by omega) (fun v10 w10 h10 => ?_); rw [← b8s_append] at h10; obtain ⟨A10, c10, rfl, -, -⟩ := h10.row_slice; have H10 := Aside.mk h10; clear h10)
    | (refine wpList_append_row slB8 rfl rfl (by rfl) (by rfl) H10.out (HCP.out _ _ H10.out) (by rw [b8s_length, HQ.out.2.2]; omega) (b8s_one _) (by unfold maxLen; omega) (by omega) (fun v11 w11 h11 => ?_); rw [← b8s_append] at h11; obtain ⟨A11, c11, rfl, -, -⟩ := h11.row_slice; have H11 := Aside.mk h11; clear h11))
  obtain ⟨hd, hhd⟩ : ∃ hd, hd = [229] ++ putI S 4 ++ putI index 4 ++ putI gen 8 ++ [(n : Int)] ++ p := ⟨_, rfl⟩
  rw [← hhd] at H11
  have HHD := Aside.mk hhd
  have H12 : Aside (Sat E w11 (HP.row 5 1 (.slice A11 (18 + n) c11) (18 + n) (b8s (hd ++ List.replicate 0 0)) * q)) := ⟨by rw [List.replicate_zero, List.append_nil]; exact H11.out⟩
  clear H11 H10 H9 H8 hhd
  go_loopw [10] (fun v10 wr => ∃ (m k : Nat) (A10 : Option Addr) (c10 : Nat), v10 = .slice A10 m c10 ∧ m = 18 + n + k ∧ m ≤ 124 ∧ Aside (Sat E wr (HP.row 5 1 (.slice A10 m c10) m (b8s (hd ++ List.replicate k 0)) * q))) (fun v _ => 124 - sliceLen v)
  case atStart => exact ⟨18 + n, 0, A11, c11, rfl, rfl, by omega, H12⟩
  case round =>
    clear H12
    obtain ⟨m, k, A10, c10, rfl, hm, hm2, HS⟩ := hrel
    by_cases hlt : m < 124
    · have hlt2 : (m : Int) < 124 := by omega
      have HE : Aside (hd ++ List.replicate k 0 ++ [0] = hd ++ List.replicate (k + 1) (0 : Int)) := ⟨by rw [List.append_assoc, List.replicate_succ']⟩
      have HM := Aside.mk hm
      clear hm
      go_wp2_with (at_builtin; refine wpList_append_new (news := b8s [0]) slB8 rfl rfl (by rfl) (by rfl) HS.out (by rfl) (by rfl) (by unfold maxLen; omega) (by omega) (fun v5 w5 h5 => ?_); rw [← b8s_append, HE.out] at h5; obtain ⟨A5, c5, rfl, -, -⟩ := h5.row_slice; have H5 := Aside.mk h5; clear h5)
      go_roundw
      case rel => exact ⟨m + 1, k + 1, A5, c5, rfl, by have := HM.out; omega, by omega, H5⟩
      case measure => simp only [sliceLen]; omega
    · have hm124 : m = 124 := by omega
      subst hm124
      have hk : k = 106 - p.length := by rw [HQ.out.2.2]; omega
      have HX : Aside (hd ++ List.replicate k 0 = extH name index gen p) := ⟨by rw [HHD.out, hk, HSS.out]; unfold extH; rw [HQ.out.2.2]⟩
      have h0 := HS.out
      rw [HX.out] at h0
      have H0 := Aside.mk h0
      obtain ⟨X, hX⟩ : ∃ X, X = extH name index gen p := ⟨_, rfl⟩
      have hXl : X.length = 124 := by rw [hX]; exact extH_length (by rw [HQ.out.2.2]; exact hn)
      have hXb : Bytes X := by rw [hX]; exact extH_bytes (by rw [HQ.out.2.2]; exact hn) HQ.out.2.1
      have HI : Aside (extI name index gen p = X ++ putI (crcSum X) 4) := ⟨by unfold extI; rw [← hX]⟩
      rw [← hX] at H0
      have HXP := Aside.mk (And.intro hXl hXb)
      clear hm hk h0 hX hXl hXb HS HX
      go_wp2_with fail
      refine (ref_sum _ X 124 _ _ HXP.out.1 (by unfold maxLen; omega) HXP.out.2 H0.out.row_cells).mono ?_
      rintro e w3 ⟨rfl, hw3⟩
      subst w3
      obtain ⟨T, hT⟩ : ∃ T, T = crcSum X := ⟨_, rfl⟩
      have hT4 : T < 4294967296 := by rw [hT]; exact crcSum_lt HXP.out.2
      rw [← hT] at HI ⊢
      clear hT
      have u4 : IntKind.u64.wrap (T : Int) = (T : Int) := by rw [IntKind.wrap_u64]; omega
      go_wp2_with fail
      refine (ref_put E _ T 4 _ (by omega) (by omega) H0.out).mono ?_
      rintro e w4 ⟨g4, rfl, h4⟩
      have H4 := Aside.mk (And.intro h4.s2 h4.row_cells)
      clear h4 H0 u4
      go_wp2_with (at_builtin; refine wpList_append_row slB8 rfl rfl (by rfl) (by rfl) H4.out.1 H4.out.2 (by rw [b8s_length, putI_length]) (b8s_one _) (by unfold maxLen; omega) (by omega) (fun v5 w5 h5 => ?_); rw [← b8s_append] at h5; obtain ⟨A5, c5, rfl, -, -⟩ := h5.row_slice; have H5 := Aside.mk h5.drop2; clear h5)
      go_ret2
      rw [HI.out]
      exact ⟨_, rfl, H5.out⟩
set_option maxHeartbeats 2000000 in
set_option maxRecDepth 100000 in
theorem ref_frame_bad (name : ByteArray) (index gen : Int) (A : Option Addr) (n c : Nat) (w : World) (h : ¬ FrameOk index gen n) :
    Calls Tryz.prog 66 #[.string name, .int .i64 index, .int .i64 gen, .slice A n c] w fun e w' => e = .returned (.tuple #[.slice none 0 0, .int .i64 1]) ∧ w' = w := by
  have hb : index < 0 ∨ 2147483647 < index ∨ gen < 0 ∨ 4611686018427387904 < gen ∨ 106 < (n : Int) := by unfold FrameOk at h; omega
  clear h
  have key : ((((index < 0 ∨ 2147483647 < index) ∨ gen < 0) ∨ 4611686018427387904 < gen) ∨ 106 < (n : Int)) := by omega
  go_enter Tryz.func66, Tryz.ntmps66
  go_wp2
  all_goals (go_ret2; exact ⟨rfl, rfl⟩)
theorem run_string_m {P : Program} {w : World} {src dst e : TypeId} {A : Option Addr} {l : List Int} {n c : Nat} (hn : l.length = n) (hs : P.underlying src = some (.slice e)) (he : P.underlying e = some (.int .u8)) (hd : P.underlying dst = some .string)
    (h : Cells w A (b8s l)) : (convert src dst (.slice A n c)).run P w = .ok (.string (strOf l)) w := by
  subst hn
  exact run_string hs he hd h
theorem strOf_eqb {a b : List Int} (ha : Bytes a) (hb : Bytes b) : ((strOf a).toList == (strOf b).toList) = decide (a = b) := by
  by_cases h : a = b
  · subst h; simp
  · have : ¬ (strOf a).toList = (strOf b).toList := fun h2 => h (strOf_inj ha hb (toList_inj h2))
    simp [h, this]
theorem openI_gen_none {b : List Int} {name : ByteArray} {index : Int} (h : 4611686018427387904 < getN ((b.drop 9).take 8)) : openI b name index = none := by
  unfold openI
  by_cases h1 : b.length ≠ 128 ∨ 106 < b.getD 17 0 ∨ index < 0 ∨ 2147483647 < index
  · rw [if_pos h1]
  · rw [if_neg h1, if_pos h]
set_option maxHeartbeats 4000000 in
set_option maxRecDepth 100000 in
theorem ref_open (E : Env) (q : HP) (name : ByteArray) (index : Int) (A : Option Addr) (b : List Int) (n c : Nat) (w : World) (hname : name.size ≤ maxLen) (hbn : b.length = n) (hnc : n ≤ c) (hb : Bytes b)
    (hq : ∀ w, Sat E w q → Cells w A (b8s b)) (hw : Sat E w q) :
    Calls Tryz.prog 96 #[.slice A n c, .string name, .int .i64 index] w fun e w' =>
      (openI b name index = none ∧ e = .returned (.tuple #[.slice none 0 0, .int .i64 0, .int .i64 40]) ∧ Sat E w' q) ∨
      (∃ p gen v, openI b name index = some (p, gen) ∧ e = .returned (.tuple #[v, .int .i64 gen, .int .i64 0]) ∧ Sat E w' (HP.row 5 1 v p.length (b8s p) * q)) := by
  by_cases hlen : n = 128
  · subst hlen
    have hcw := hq w hw
    obtain ⟨a, rfl, -⟩ := hcw.at_ 0 (by rw [b8s_length, hbn]; decide)
    obtain ⟨g, o, rfl⟩ := slice_addr hcw rfl (k := 0) (by rw [b8s_length, hbn]; decide)
    have g17 : b[17]? = some (b.getD 17 0) := by
      have : 17 < b.length := by omega
      simp [List.getD, this]
    have c17 : w.cell? ⟨g, o + 17, none⟩ = some (.int .u8 (b.getD 17 0)) := by
      have := hcw.some_ 17 (.int .u8 (b.getD 17 0)) (by unfold b8s; rw [List.getElem?_map, g17]; rfl)
      rw [addr_add] at this
      exact this
    have hx := hb _ (List.mem_of_getElem? g17)
    have HO : Aside (openI b name index = if b.length ≠ 128 ∨ 106 < b.getD 17 0 ∨ index < 0 ∨ 2147483647 < index then none else
        if 4611686018427387904 < getN ((b.drop 9).take 8) then none else
        if extI name index.toNat (getN ((b.drop 9).take 8)) ((b.drop 18).take (b.getD 17 0).toNat) ≠ b then none else
        some ((b.drop 18).take (b.getD 17 0).toNat, getN ((b.drop 9).take 8))) := ⟨rfl⟩
    obtain ⟨x, hxe⟩ : ∃ x : Nat, b.getD 17 0 = (x : Int) := ⟨(b.getD 17 0).toNat, by omega⟩
    rw [hxe] at c17 hx HO
    clear g17 hxe
    by_cases hbad : 106 < (x : Int)
    · have HN : Aside (openI b name index = none ∧ Sat E w q) := ⟨by rw [HO.out, if_pos (.inr (.inl hbad))], hw⟩
      clear HO hw hq hcw hbn
      go_enter Tryz.func96, Tryz.ntmps96
      go_wp2
      all_goals (go_ret3; exact .inl ⟨HN.out.1, rfl, HN.out.2⟩)
    · have hx1 : ¬ 106 < (x : Int) := hbad
      have HQ := Aside.mk (And.intro hq (And.intro hw (And.intro hb hbn)))
      have HNM := Aside.mk hname
      have cg : Cells w (some ⟨g, o + 9, none⟩) (b8s ((b.drop 9).take 8)) := by
        have := (hcw.drop 9).take 8
        rw [addr_add] at this
        unfold b8s at this ⊢
        rw [List.map_take, List.map_drop]
        exact this
      have CG := Aside.mk cg
      have HGN : Aside (∀ G, G = getN ((b.drop 9).take 8) → 4611686018427387904 < G → openI b name index = none) := ⟨fun G hG h => openI_gen_none (by rw [← hG]; exact h)⟩
      clear hbad hq hw hcw hbn cg hb hname
      go_enter Tryz.func96, Tryz.ntmps96
      go_wp2_with fail
      refine (ref_get (some ⟨g, o + 9, none⟩) ((b.drop 9).take 8) 8 (c - 9) w (by rw [List.length_take, List.length_drop, HQ.out.2.2.2]; rfl) (by decide) (by decide) (fun y hy => HQ.out.2.2.1 y (List.mem_of_mem_drop (List.mem_of_mem_take hy))) CG.out).mono ?_
      rintro e w1 ⟨rfl, hw1⟩
      subst w1
      obtain ⟨G, hGe⟩ : ∃ G, G = getN ((b.drop 9).take 8) := ⟨_, rfl⟩
      have HGN2 := Aside.mk (HGN.out G hGe)
      rw [← hGe] at HO ⊢
      clear CG HGN hGe
      by_cases hG : 4611686018427387904 < (G : Int)
      · have HN : Aside (openI b name index = none ∧ Sat E w q) := ⟨HGN2.out (by omega), HQ.out.2.1⟩
        clear HO
        go_wp2
        go_ret3
        exact .inl ⟨HN.out.1, rfl, HN.out.2⟩
      · have c17a : (w.alloc (.cells #[] 5)).cell? ⟨g, o + 17, none⟩ = some (.int .u8 (x : Int)) := by
          rw [World.cell?_of_block (w := w) (heap_alloc_old w _ (World.block_lt_of_cell? w _ c17))]; exact c17
        have hpl : ((b.drop 18).take x).length = x := by rw [List.length_take, List.length_drop, HQ.out.2.2.2]; omega
        have cp : Cells w (some ⟨g, o + 18, none⟩) (b8s ((b.drop 18).take x)) := by
          have := ((HQ.out.1 _ HQ.out.2.1).drop 18).take x
          rw [addr_add] at this
          unfold b8s at this ⊢
          rw [List.map_take, List.map_drop]
          exact this
        have hpb : Bytes ((b.drop 18).take x) := fun y hy => HQ.out.2.2.1 y (List.mem_of_mem_drop (List.mem_of_mem_take hy))
        rw [Int.toNat_natCast] at HO
        obtain ⟨p, hp⟩ : ∃ p, p = (b.drop 18).take x := ⟨_, rfl⟩
        rw [← hp] at HO hpl cp hpb
        have HP1 := Aside.mk (And.intro hpl (And.intro cp (And.intro hpb (show (b8s p).length = (18 + x - 18) * 1 by rw [b8s_length, hpl, Nat.mul_one]; omega))))
        clear hpl cp hpb hp
        go_wp2_with (at_builtin; go_loud (refine wpList_append_row slB8 rfl rfl (by rfl) (by rfl) (((HQ.out.2.1.alloc _).right).row_nil _ _ _) (HP1.out.2.1.alloc _) HP1.out.2.2.2 (b8s_one _) (by unfold maxLen; omega) (by omega) (fun v4 w4 hw4 => ?_); have HW4 := Aside.mk hw4; clear hw4))
        have hw4 : Sat E w4 (HP.row 5 1 v4 x (b8s p) * q) := by
          have := HW4.out
          rw [Nat.zero_add, List.nil_append, Nat.add_sub_cancel_left] at this
          exact this
        obtain ⟨A4, c4, rfl, -, -⟩ := hw4.row_slice
        have HW := Aside.mk hw4
        clear HW4 hw4 c17 c17a
        have hx106 : x ≤ 106 := by omega
        by_cases hbad : index < 0 ∨ 2147483647 < index
        · have HN : Aside (openI b name index = none) := ⟨by rw [HO.out, if_pos (.inr (.inr hbad))]⟩
          refine (ref_frame_bad name index G (A4) x c4 w4 (by unfold FrameOk; omega)).mono ?_
          rintro e w5 ⟨rfl, hw5⟩
          subst w5
          clear HO hbad
          go_wp2
          go_ret3
          exact .inl ⟨HN.out, rfl, HW.out.right⟩
        · obtain ⟨ix, rfl⟩ := Int.eq_ofNat_of_zero_le (show 0 ≤ index by omega)
          rw [if_neg (by rw [HQ.out.2.2.2]; intro h; rcases h with h | h | h; exact h rfl; omega; exact hbad h), if_neg (by omega), Int.toNat_natCast] at HO
          refine (ref_frame E _ name ix G A4 p x c4 w4 HNM.out (by omega) (by omega) HP1.out.1 hx106 HP1.out.2.2.1 (fun w h => h.row_cells) HW.out).mono ?_
          rintro e w5 ⟨v, rfl, h5⟩
          obtain ⟨A5, c5, rfl, -, -⟩ := h5.row_slice
          have hIl : (extI name ix G p).length = 128 := extI_length (by rw [HP1.out.1]; exact hx106)
          have hIb : Bytes (extI name ix G p) := extI_bytes (by rw [HP1.out.1]; exact hx106) HP1.out.2.2.1
          obtain ⟨I, hIe⟩ : ∃ I, I = extI name ix G p := ⟨_, rfl⟩
          rw [← hIe] at HO hIl hIb h5
          have e0 := run_string_m (P := Tryz.prog) (c := c5) hIl Tryz.underlying43 Tryz.underlying5 Tryz.underlying9 h5.row_cells
          have e1 := run_string_m (P := Tryz.prog) (c := c) HQ.out.2.2.2 Tryz.underlying43 Tryz.underlying5 Tryz.underlying9 (HQ.out.1 _ h5.right.right)
          have e2 := strOf_eqb hIb HQ.out.2.2.1
          have H5 : Aside (Sat E w5 (HP.row 5 1 (.slice A4 x c4) p.length (b8s p) * q)) := ⟨by rw [HP1.out.1]; exact h5.right⟩
          clear h5 hIe hIl hIb HW hbad
          by_cases hb : I = b
          · rw [decide_eq_true hb] at e2
            have HE : Aside (openI b name ix = some (p, G)) := ⟨by rw [HO.out, if_neg (by simpa using hb)]⟩
            clear HO hb
            generalize strOf I = s0 at *
            generalize strOf b = s1 at *
            go_wp2
            go_ret3
            exact .inr ⟨p, G, _, HE.out, rfl, H5.out⟩
          · rw [decide_eq_false hb] at e2
            have HE : Aside (openI b name ix = none) := ⟨by rw [HO.out, if_pos hb]⟩
            clear HO hb
            generalize strOf I = s0 at *
            generalize strOf b = s1 at *
            go_wp2
            go_ret3
            exact .inl ⟨HE.out, rfl, H5.out.right⟩
  · have HN : Aside (openI b name index = none ∧ Sat E w q) := ⟨by unfold openI; rw [if_pos (.inl (by rw [hbn]; exact hlen))], hw⟩
    have h2 : ¬ (n : Int) = 128 := by omega
    clear hw hq hbn hb
    go_enter Tryz.func96, Tryz.ntmps96
    go_wp2
    go_ret3
    exact .inl ⟨HN.out.1, rfl, HN.out.2⟩
def i8s (l : List Int) : List Value := l.map (Value.int .i64)
def nOk (lo n : Int) : Bool := decide (lo ≤ n) && decide (n ≤ 4611686018427387904)
def btw (lo : Int) (l : List Int) : Bool := l.all (nOk lo)
set_option maxHeartbeats 1000000 in
set_option maxRecDepth 100000 in
theorem btw_in (lo x : Int) (b : Nat) (w : World) (hb : w.cell? ⟨b, 0, none⟩ = some (.int .i64 lo)) :
    Calls Tryz.prog 138 #[.int .i64 x, .pointer (some ⟨b, 0, none⟩)] w fun e w' => e = .returned (.bool (!nOk lo x)) ∧ w' = w := by
  by_cases h1 : x < lo
  · have hr : nOk lo x = false := by unfold nOk; rw [decide_eq_false (by omega)]; rfl
    have HR := Aside.mk hr
    clear hr
    go_enter Tryz.func138, Tryz.ntmps138
    go_wp2
    go_ret
    rw [HR.out]
    exact ⟨rfl, rfl⟩
  · have hr : nOk lo x = decide (x ≤ 4611686018427387904) := by unfold nOk; rw [decide_eq_true (by omega)]; rfl
    by_cases h2 : 4611686018427387904 < x
    · have HR : Aside (nOk lo x = false) := ⟨by rw [hr, decide_eq_false (by omega)]⟩
      clear hr
      go_enter Tryz.func138, Tryz.ntmps138
      go_wp2
      go_ret
      rw [HR.out]
      exact ⟨rfl, rfl⟩
    · have HR : Aside (nOk lo x = true) := ⟨by rw [hr, decide_eq_true (by omega)]⟩
      clear hr
      go_enter Tryz.func138, Tryz.ntmps138
      go_wp2
      go_ret
      rw [HR.out]
      exact ⟨rfl, rfl⟩
theorem btw_take {lo : Int} {l : List Int} {k : Nat} {x : Int} (hx : l[k]? = some x) : btw lo (l.take (k + 1)) = (btw lo (l.take k) && nOk lo x) := by
  unfold btw
  rw [List.take_add_one, hx, List.all_append]
  simp
theorem btw_bad {lo : Int} {l : List Int} {k : Nat} {x : Int} (hx : l[k]? = some x) (h : nOk lo x = false) : btw lo l = false := by
  unfold btw
  rw [Bool.eq_false_iff]
  intro hn
  rw [List.all_eq_true] at hn
  have := hn x (List.mem_of_getElem? hx)
  rw [h] at this
  cases this
set_option maxHeartbeats 1000000 in
set_option maxRecDepth 100000 in
theorem index_fn (lo : Int) (g : Nat) (l : List Int) (n c b : Nat) (w : World) (hln : l.length = n) (hm : n ≤ 4611686018427387904) (hb : w.cell? ⟨b, 0, none⟩ = some (.int .i64 lo)) (hc : Cells w (some ⟨g, 0, none⟩) (i8s l)) :
    Calls Tryz.prog 160 #[.slice (some ⟨g, 0, none⟩) n c, .func (.func 138) #[] #[.pointer (some ⟨b, 0, none⟩)]] w fun e w' => (∃ i : Int, e = .returned (.int .i64 i) ∧ (if 0 ≤ i then btw lo l = false else btw lo l = true)) ∧ w' = w := by
  have HL := Aside.mk (And.intro hln hc)
  have Hb := Aside.mk hb
  clear hln hc hb
  go_enter Tryz.func160, Tryz.ntmps160
  go_wp2
  go_loopw [8] (fun v8 wr => ∃ k : Nat, k ≤ n ∧ v8 = .int .i64 k ∧ Aside (btw lo (l.take k) = true) ∧ wr = w) (fun i _ => n - (intOf i).toNat)
  case atStart => exact ⟨0, by omega, rfl, ⟨rfl⟩, rfl⟩
  case round =>
    obtain ⟨k, hk, rfl, HB, hwr⟩ := hrel
    subst wr
    by_cases hlt : k < n
    · have hlt2 : (k : Int) < n := by omega
      have hkl : k < l.length := by rw [HL.out.1]; exact hlt
      obtain ⟨x, hx⟩ : ∃ x, l[k]? = some x := ⟨_, List.getElem?_eq_getElem hkl⟩
      have gx : w.cell? ⟨g, k, none⟩ = some (.int .i64 x) := by
        have := HL.out.2.some_ k (.int .i64 x) (by unfold i8s; rw [List.getElem?_map, hx]; rfl)
        rw [addr_add, Nat.zero_add] at this
        exact this
      have HX := Aside.mk hx
      clear hx hkl
      cases hq : nOk lo x with
      | false =>
        have HQ : Aside (btw lo l = false) := ⟨btw_bad HX.out hq⟩
        go_wp2_with fail
        refine (btw_in lo x b _ Hb.out).mono ?_
        rintro e w1 ⟨rfl, hw1⟩
        subst w1
        rw [hq]
        go_wp2
        go_ret
        exact ⟨⟨_, rfl, by rw [if_pos (by omega)]; exact HQ.out⟩, rfl⟩
      | true =>
        have HQ : Aside (btw lo (l.take (k + 1)) = true) := ⟨by rw [btw_take HX.out, HB.out, hq]; rfl⟩
        go_wp2_with fail
        refine (btw_in lo x b _ Hb.out).mono ?_
        rintro e w1 ⟨rfl, hw1⟩
        subst w1
        rw [hq]
        go_wp2
        go_roundw
        case rel => exact ⟨k + 1, by omega, by push_cast; rfl, HQ, by first | rfl | trivial⟩
        case measure => simp [intOf]; omega
    · obtain rfl : k = n := by omega
      have HQ : Aside (btw lo l = true) := ⟨by have := HB.out; rwa [List.take_of_length_le (by rw [HL.out.1]; exact Nat.le_refl _)] at this⟩
      go_wp2
      go_ret
      exact ⟨⟨_, rfl, by rw [if_neg (by omega)]; exact HQ.out⟩, rfl⟩
set_option maxHeartbeats 1000000 in
set_option maxRecDepth 100000 in
theorem contains_fn (lo : Int) (g : Nat) (l : List Int) (n c b : Nat) (w : World) (hln : l.length = n) (hm : n ≤ 4611686018427387904) (hb : w.cell? ⟨b, 0, none⟩ = some (.int .i64 lo)) (hc : Cells w (some ⟨g, 0, none⟩) (i8s l)) :
    Calls Tryz.prog 137 #[.slice (some ⟨g, 0, none⟩) n c, .func (.func 138) #[] #[.pointer (some ⟨b, 0, none⟩)]] w fun e w' => e = .returned (.bool (!btw lo l)) ∧ w' = w := by
  have HI := Aside.mk (index_fn lo g l n c b w hln hm hb hc)
  clear hln hc hb
  go_enter Tryz.func137, Tryz.ntmps137
  go_wp2_with fail
  refine HI.out.mono ?_
  rintro e w1 ⟨⟨i, rfl, hi⟩, hw1⟩
  subst w1
  by_cases h0 : 0 ≤ i
  · rw [if_pos h0] at hi
    have HV := Aside.mk hi
    clear hi
    go_wp2
    go_ret
    rw [HV.out]
    exact ⟨rfl, rfl⟩
  · rw [if_neg h0] at hi
    have HV := Aside.mk hi
    clear hi
    go_wp2
    go_ret
    rw [HV.out]
    exact ⟨by show Ending.returned (Value.bool (decide (0 ≤ i))) = _; rw [decide_eq_false (by omega)]; rfl, rfl⟩
set_option maxHeartbeats 1000000 in
set_option maxRecDepth 100000 in
theorem between_ok (E : Env) (q : HP) (lo : Int) (g : Nat) (l : List Int) (n c : Nat) (w : World) (hln : l.length = n) (hm : n ≤ 4611686018427387904) (hq : ∀ w, Sat E w q → Cells w (some ⟨g, 0, none⟩) (i8s l)) (hw : Sat E w q) :
    Calls Tryz.prog 105 #[.int .i64 lo, .slice (some ⟨g, 0, none⟩) n c] w fun e w' => e = .returned (.bool (btw lo l)) ∧ Sat E w' q := by
  have h1 := hw.alloc (.cells #[.int .i64 lo] 3)
  have HI := Aside.mk (And.intro (contains_fn lo g l n c w.heap.size _ hln hm h1.cell1 (hq _ h1.right)) h1.right)
  clear hln hq hw h1
  go_enter Tryz.func105, Tryz.ntmps105
  go_wp2_with fail
  refine HI.out.1.mono ?_
  rintro e w1 ⟨rfl, hw1⟩
  subst w1
  go_wp2
  go_ret
  simp only [Bool.not_not]
  exact ⟨rfl, HI.out.2⟩
structure Anch where
  seq : Int
  gen : Int
  lsn : Int
  seg : Int
  ext : Int
  flo : Int
  new : Int
  keep : Int
  next : Int
  cur : Int
def Anch.l (a : Anch) : List Int := [a.seq, a.gen, a.lsn, a.seg, a.ext, a.flo, a.new, a.keep, a.next, a.cur]
def canA (a : Anch) : Bool := btw 1 [a.seq, a.gen, a.seg, a.next] && btw 0 [a.lsn, a.ext, a.keep, a.cur]
set_option maxHeartbeats 1000000 in
set_option maxRecDepth 100000 in
theorem can_ok (E : Env) (q : HP) (a : Anch) (w : World) (hw : Sat E w q) :
    Calls Tryz.prog 43 #[.agg #[.int .i64 a.seq, .int .i64 a.gen, .int .i64 a.lsn, .int .i64 a.seg, .int .i64 a.ext, .int .i64 a.flo, .int .i64 a.new, .int .i64 a.keep, .int .i64 a.next, .int .i64 a.cur]] w fun e w' => e = .returned (.bool (canA a)) ∧ Sat E w' q := by
  have h1 := (hw.alloc (.cells #[.int .i64 a.seq, .int .i64 a.gen, .int .i64 a.lsn, .int .i64 a.seg, .int .i64 a.ext, .int .i64 a.flo, .int .i64 a.new, .int .i64 a.keep, .int .i64 a.next, .int .i64 a.cur] 24))
  have h2 := h1.alloc (.cells #[.int .i64 a.seq, .int .i64 a.gen, .int .i64 a.seg, .int .i64 a.next] 3)
  have hz : (w.alloc (.cells #[.int .i64 a.seq, .int .i64 a.gen, .int .i64 a.lsn, .int .i64 a.seg, .int .i64 a.ext, .int .i64 a.flo, .int .i64 a.new, .int .i64 a.keep, .int .i64 a.next, .int .i64 a.cur] 24)).heap.size = w.heap.size + 1 := by simp
  rw [hz] at h2
  have H2 := Aside.mk h2
  have HC : Aside (canA a = (btw 1 [a.seq, a.gen, a.seg, a.next] && btw 0 [a.lsn, a.ext, a.keep, a.cur])) := ⟨rfl⟩
  clear hw h1 h2 hz
  go_enter Tryz.func43, Tryz.ntmps43
  go_wp2_with fail
  refine (between_ok E _ 1 (w.heap.size + 1) [a.seq, a.gen, a.seg, a.next] 4 4 _ rfl (by omega) (fun w h => Sat.ptCells (off := 0) (l := i8s [a.seq, a.gen, a.seg, a.next]) h rfl) H2.out).mono ?_
  rintro e w1 ⟨rfl, h3⟩
  cases hb : btw 1 [a.seq, a.gen, a.seg, a.next] with
  | false =>
    have H3 := Aside.mk h3.right.right
    rw [hb] at HC
    clear h3 hb H2
    go_wp2
    go_ret
    rw [HC.out]
    exact ⟨rfl, H3.out⟩
  | true =>
    have H3 := Aside.mk h3.right
    rw [hb] at HC
    have k0 := H3.out.cell 2
    have k1 := H3.out.cell 4
    have k2 := H3.out.cell 7
    have k3 := H3.out.cell 9
    simp only [List.getElem?_toArray, List.getElem?_cons_zero, List.getElem?_cons_succ] at k0 k1 k2 k3
    have H4 := Aside.mk (H3.out.alloc (.cells #[.int .i64 a.lsn, .int .i64 a.ext, .int .i64 a.keep, .int .i64 a.cur] 3))
    clear h3 hb H2
    go_wp2_with fail
    refine (between_ok E _ 0 w1.heap.size [a.lsn, a.ext, a.keep, a.cur] 4 4 _ rfl (by omega) (fun w h => Sat.ptCells (off := 0) (l := i8s [a.lsn, a.ext, a.keep, a.cur]) h rfl) H4.out).mono ?_
    rintro e w2 ⟨rfl, h5⟩
    have H5 := Aside.mk h5.right.right
    clear h5
    go_wp2
    go_ret
    rw [HC.out]
    exact ⟨rfl, H5.out⟩
set_option maxHeartbeats 1000000 in
set_option maxRecDepth 100000 in
theorem full_ok (E : Env) (q : HP) (s : StepV) (w : World) (hl : s.b.l.length ≤ s.b.cap) (hq : ∀ E w, Sat E w q → Cells w s.b.A (b8s s.b.l)) (hw : Sat E w q) :
    Calls Tryz.prog 77 #[.agg s.vals.toArray] w fun e w' => ∃ g, e = .returned (.slice (some ⟨g, 0, none⟩) 128 128) ∧ Sat E w' (HP.row 5 1 (.slice (some ⟨g, 0, none⟩) 128 128) 128 (b8s (fullOf s.b.l)) * q) := by
  unfold StepV.vals Sl.val
  go_enter Tryz.func77, Tryz.ntmps77
  have h1 := hw.alloc (.cells #[.int .i64 s.op, .int .i64 s.i, .int .i64 s.at_, .int .i64 s.n, .string s.name, .slice s.b.A s.b.l.length s.b.cap, .int .u8 s.mask, .slice s.kept.A s.kept.l.length s.kept.cap] 46)
  have HH := Aside.mk (And.intro h1 (And.intro hl hq))
  clear hw h1 hl hq
  go_wp2_with (first
    | (refine wpList_make_row (n := 128) slB8 rfl rfl rfl rfl rfl HH.out.1 (by unfold maxLen; omega) (by omega) (fun g w2 hw2 => ?_); have g5 := (hw2.s2).cell 5; simp only [List.getElem?_toArray, List.getElem?_cons_zero, List.getElem?_cons_succ] at g5; have HW2 := Aside.mk hw2; clear hw2)
    | (at_builtin; fail)
    | (refine wpList_copy_sat Tryz.underlying43 (by kernel_rfl) rfl rfl rfl rfl HW2.out (b8s_length _) (HH.out.2.2 _ _ HW2.out.right.right) (b8s_one _) (fun w3 hw3 => ?_); have HW3 := Aside.mk hw3; clear hw3))
  go_ret
  refine ⟨g, rfl, ?_⟩
  have h9 := HW3.out.drop2
  rw [full_cells] at h9
  exact h9
end Go.Proofs.YtnpinegpajbkeaaGreatDoor
namespace Go.Proofs.YtnpinegpajbkeaaGreatDoor
open Go.ChangeShapes Go.WideShapes Go.ChangeAt Go.WideMaps Go.WideElems Go.RowKit HP
def laidAll : List (String × DataW Unit) := [("dryrot/crc.quarter", Rows.laid_dryrot_crc_quarter)]
theorem gQuarter : Tryz.prog.globalNamed "dryrot/crc.quarter" = some 1 := by kernel_rfl
theorem tQuarter : (Tryz.prog.globals[1]?).map (·.type) = some 247 := by kernel_rfl
end Go.Proofs.YtnpinegpajbkeaaGreatDoor
namespace Go.Proofs.YtnpinegpajbkeaaGreatDoor
open Go.ChangeShapes Go.WideShapes Go.ChangeAt Go.RowKit HP
theorem old_carry {E : Env} {W w : World} (h : Sat E w (HP.old W)) : ∀ k, k < W.heap.size → w.heap[k]? = W.heap[k]? := fun k hk => Sat.old_block (p := HP.emp) (by rw [HP.mul_emp]; exact h) k hk
theorem quarter_old {E : Env} {W w : World} (hQ : Quarter W) (h : Sat E w (HP.old W)) : Quarter w := fun i hi => by
  rw [World.cell?_of_block (w := W) (old_carry h _ (World.block_lt_of_cell? W _ (hQ i hi)))]
  exact hQ i hi
end Go.Proofs.YtnpinegpajbkeaaGreatDoor
namespace Go.Proofs.YtnpinegpajbkeaaGreatDoor
open Go.ChangeShapes Go.WideShapes Go.ChangeAt Go.RowKit
def Rd.AtZ {α : Type} (r : Rd α) (z : α → List Nat) (P : Program) (t : TypeId) : Prop :=
  ∀ {H : Type} {enc : TypeId × Value → H} {W : World} {fuel : Nat} {cs : List Value} {x : DataW H × List MemPlace}, DataW.trod enc P W 0 (fun _ => true) true fuel t cs = some x → (∀ n ∈ x.1.weights P t, n ≤ reachBytes) → ∃ a, cs = r.cells a ∧ r.ok W a ∧ ∀ n ∈ z a, n ≤ reachBytes
section
variable {P : Program} {t : TypeId}
theorem Rd.At.toZ {α : Type} {r : Rd α} (h : r.At P t) : r.AtZ (fun _ => []) P t := by
  intro H enc W fuel cs x hx _
  obtain ⟨a, h1, h2⟩ := h hx
  exact ⟨a, h1, h2, fun n hn => by cases hn⟩
theorem rdStr_atZ (ht : P.underlying t = some .string) : rdStr.AtZ (fun s => [s.size]) P t := by
  intro H enc W fuel cs x h hz
  obtain ⟨n, rfl, rfl, hw⟩ := DataW.trod_string ht h
  refine ⟨n, rfl, hw, fun k hk => ?_⟩
  obtain rfl := List.mem_singleton.1 hk
  refine hz _ ?_
  simp [DataW.weights]
theorem weightsAll_mem {H : Type} {e : TypeId} {n : Nat} : ∀ {l : List (DataW H)} {d : DataW H}, d ∈ l → n ∈ d.weights P e → n ∈ DataW.weightsAll P e l
  | [], d, h, _ => by cases h
  | x :: l, d, h, hn => by
    simp only [DataW.weightsAll, List.mem_append]
    rcases List.mem_cons.1 h with rfl | h
    · exact .inl hn
    · exact .inr (weightsAll_mem h hn)
theorem weightsEach_mem {H : Type} {n : Nat} : ∀ {ts : List TypeId} {l : List (DataW H)} {i : Nat} {u : TypeId} {d : DataW H}, ts[i]? = some u → l[i]? = some d → n ∈ d.weights P u → n ∈ DataW.weightsEach P ts l
  | [], _, i, _, _, h, _, _ => by simp at h
  | _ :: _, [], i, _, _, _, h, _ => by simp at h
  | v :: ts, x :: l, 0, u, d, h1, h2, hn => by
    simp only [List.getElem?_cons_zero, Option.some.injEq] at h1 h2
    subst h1
    subst h2
    simp only [DataW.weightsEach, List.mem_append]
    exact .inl hn
  | v :: ts, x :: l, i + 1, u, d, h1, h2, hn => by
    simp only [DataW.weightsEach, List.mem_append]
    exact .inr (weightsEach_mem (by simpa using h1) (by simpa using h2) hn)
theorem rdSl_atZ {α : Type} {r : Rd α} {z : α → List Nat} {e : TypeId} {n b : Nat} (ht : P.underlying t = some (.slice e)) (hc : P.cellsOf e = n) (hb : P.bytesOf e = b) (hr : r.AtZ z P e) : (rdSl r).AtZ (fun s => s.cap * b :: s.l.flatMap z) P t := by
  intro H enc W fuel cs x h hz
  rcases Go.Deep.open_slice ht h with ⟨rfl, -⟩ | ⟨a, len, cap, m, n', D, Pl, rfl, -, hl, hm, hmm, rfl, hi⟩
  · refine ⟨⟨none, 0, []⟩, rfl, ⟨Nat.le_refl _, Nat.zero_le _, Cells.nil _ _, fun x hx => by cases hx⟩, fun k hk => ?_⟩
    simp at hk
    subst hk
    exact Nat.zero_le _
  · have hmc : m = cap := by rw [hmm]; simp
    have hml : len ≤ m := by omega
    have hw : ∀ k, k = m * b ∨ (∃ i, i < len ∧ k ∈ (D i).weights P e) → k ≤ reachBytes := by
      intro k hk
      refine hz k ?_
      simp only [DataW.weights, ht, List.mem_cons, List.mem_append]
      rcases hk with rfl | ⟨i, hil, hk⟩
      · refine .inl ?_
        rw [List.length_map, List.length_range, List.length_map, List.length_range, hb]
        congr 1
        omega
      · exact .inr (.inl (weightsAll_mem (List.mem_map.2 ⟨i, List.mem_range.2 hil, rfl⟩) hk))
    obtain ⟨l, hll, hp⟩ := choose_list len (fun i x => (r.ok W x ∧ W.cells? 0 (a.add (i * n)) n = some (r.cells x)) ∧ ∀ k ∈ z x, k ≤ reachBytes) fun i hil => by
      obtain ⟨cs', h1, h2⟩ := hi i (by omega)
      obtain ⟨x, rfl, hx, hzx⟩ := hr h2 (fun k hk => hw k (.inr ⟨i, hil, hk⟩))
      rw [hc] at h1
      exact ⟨x, ⟨hx, h1⟩, hzx⟩
    have hlen : ∀ x ∈ l, (r.cells x).length = n := fun x hx => by
      obtain ⟨i, hi'⟩ := List.getElem?_of_mem hx
      exact (World.cells?_some (hp i x hi').1.2).2.1
    refine ⟨⟨some a, cap, l⟩, by simp [rdSl, Sl.val, hll], ⟨by simpa [hll] using hl, hm, fun j u hj => ⟨a, rfl, ?_⟩, fun x hx => ?_⟩, fun k hk => ?_⟩
    · obtain ⟨i, k, x, h1, h2, h3, h4⟩ := flat_at r.cells n l hlen j u hj
      have h5 := (World.cells?_some (hp i x h1).1.2).2.2 k h2
      rw [h4, Cells.add_add] at h5
      rw [h3]; exact h5
    · obtain ⟨i, hi'⟩ := List.getElem?_of_mem hx
      exact (hp i x hi').1.1
    · rcases List.mem_cons.1 hk with rfl | hk
      · exact hw _ (.inl (by rw [hmc]))
      · obtain ⟨x, hx, hkx⟩ := List.mem_flatMap.1 hk
        obtain ⟨i, hi'⟩ := List.getElem?_of_mem hx
        exact (hp i x hi').2 k hkx
def Rd.FsZ {α : Type} (r : Rd α) (z : α → List Nat) (P : Program) (fs : List Field) (off total : Nat) : Prop :=
  ∀ {H : Type} {enc : TypeId × Value → H} {W : World} {n : Nat} {cs : List Value}, (∀ f ∈ fs, ∃ y, DataW.trod enc P W 0 (fun _ => true) true n f.type ((cs.drop f.offset).take (P.cellsOf f.type)) = some y ∧ ∀ k ∈ y.1.weights P f.type, k ≤ reachBytes) → off + total = cs.length →
    ∃ a, cs.drop off = r.cells a ∧ r.ok W a ∧ ∀ n ∈ z a, n ≤ reachBytes
theorem rdEnd_fsZ (off : Nat) : rdEnd.FsZ (fun _ => []) P [] off 0 := by
  intro H enc W n cs _ h
  exact ⟨(), by simp [rdEnd]; omega, trivial, fun n hn => by cases hn⟩
theorem rdPair_fsZ {α β : Type} {r : Rd α} {s : Rd β} {zr : α → List Nat} {zs : β → List Nat} {f : Field} {fs : List Field} {off size total : Nat} (hoff : f.offset = off) (hsz : P.cellsOf f.type = size) (hr : r.AtZ zr P f.type) (hs : s.FsZ zs P fs (off + size) total) : (rdPair r s).FsZ (fun x => zr x.1 ++ zs x.2) P (f :: fs) off (size + total) := by
  intro H enc W n cs h hl
  obtain ⟨y, hy, hyz⟩ := h f (by simp)
  obtain ⟨a, ha, hoa, hza⟩ := hr hy hyz
  obtain ⟨b, hb, hob, hzb⟩ := hs (fun g hg => h g (by simp [hg])) (by omega)
  refine ⟨(a, b), ?_, ⟨hoa, hob⟩, fun k hk => ?_⟩
  · show cs.drop off = r.cells a ++ s.cells b
    rw [← ha, ← hb, hoff, hsz, ← List.drop_drop, List.take_append_drop]
  · rcases List.mem_append.1 hk with hk | hk
    · exact hza k hk
    · exact hzb k hk
theorem rdStruct_atZ {α β : Type} {r : Rd α} {z : α → List Nat} {fs : Array Field} {total : Nat} (ht : P.underlying t = some (.struct fs)) (hc : P.cellsOf t = total) (hr : r.FsZ z P fs.toList 0 total) (f : α → β) (g : β → α) (hg : ∀ a, g (f a) = a) : (rdMap r f g hg).AtZ (fun b => z (g b)) P t := by
  intro H enc W fuel cs x h hz
  obtain ⟨xs, n, -, rfl, hl, hxl, hf⟩ := DataW.trod_struct ht h
  obtain ⟨a, ha, hoa, hza⟩ := hr (W := W) (n := n) (cs := cs) (fun fd hfd => by
    obtain ⟨i, hi⟩ := List.getElem?_of_mem hfd
    have hi' : fs[i]? = some fd := by simpa using hi
    have h1 := hf i fd hi'
    have hlt : i < xs.length := by rw [hxl]; exact (Array.getElem?_eq_some_iff.1 hi').1
    rw [List.getElem?_eq_getElem hlt] at h1
    refine ⟨_, h1, fun k hk => hz k ?_⟩
    simp only [DataW.weights, ht]
    exact weightsEach_mem (i := i) (u := fd.type) (d := xs[i].1) (by rw [List.getElem?_map, hi]; rfl) (by rw [List.getElem?_map, List.getElem?_eq_getElem hlt]; rfl) hk) (by omega)
  refine ⟨f a, ?_, ?_, ?_⟩
  · show cs = r.cells (g (f a))
    rw [hg, ← ha, List.drop_zero]
  · show r.ok W (g (f a))
    rw [hg]; exact hoa
  · show ∀ n ∈ z (g (f a)), n ≤ reachBytes
    rw [hg]; exact hza
theorem sl_argZ {α : Type} {r : Rd α} {z : Sl α → List Nat} {e : TypeId} {base : Nat} (ht : P.underlying t = some (.slice e)) (hr : (rdSl r).AtZ z P t) {H : Type} {enc : TypeId × Value → H} {W : World} {v : Value} {d0 : DataW H} {p : List MemPlace} (hv : Value.okWide P W .any base t v) (h0 : DataW.Trod enc P W 0 (fun _ => true) true t v d0 p) (hz : ∀ n ∈ d0.weights P t, n ≤ reachBytes) : ∃ s : Sl α, v = s.val ∧ (rdSl r).ok W s ∧ ∀ n ∈ z s, n ≤ reachBytes := by
  obtain ⟨a0, len, cap, rfl⟩ := okWide_slice ht hv
  obtain ⟨fuel, hf⟩ := h0
  obtain ⟨s, hs, ho, hzs⟩ := hr hf hz
  refine ⟨s, ?_, ho, hzs⟩
  have : [Value.slice a0 len cap] = [s.val] := hs
  simpa using this
end
end Go.Proofs.YtnpinegpajbkeaaGreatDoor
namespace Go.Proofs.YtnpinegpajbkeaaGreatDoor
open Go.ChangeShapes Go.WideShapes Go.ChangeAt Go.RowKit HP
theorem tab_old {E : Env} {W w : World} {name : String} {k : IntKind} {zs : List Int} (h : Lib.TabIs Tryz.prog W name k zs) (ho : Sat E w (HP.old W)) : Lib.TabIs Tryz.prog w name k zs := by
  unfold Lib.TabIs World.var? at *
  cases hg : Tryz.prog.globalNamed name with
  | none => simp [hg] at h
  | some g =>
    simp only [hg, Option.bind_some] at h ⊢
    have hlt : g < W.heap.size := by
      rcases Nat.lt_or_ge g W.heap.size with h' | h'
      · exact h'
      · rw [Array.getElem?_eq_none h'] at h; simp at h
    rw [old_carry ho g hlt]
    exact h
end Go.Proofs.YtnpinegpajbkeaaGreatDoor
