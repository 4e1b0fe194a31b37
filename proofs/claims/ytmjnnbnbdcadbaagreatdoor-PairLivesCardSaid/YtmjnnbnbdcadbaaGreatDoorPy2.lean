/- dryrotref05.Load over the document's disk. -/
import Derived.Test.YtmjnnbnbdcadbaaGreatDoorPy1
import Derived.Lib.SliceRun
namespace Go.Proofs.YtmjnnbnbdcadbaaGreatDoor
open Go.RowKit HP
set_option linter.unusedSimpArgs false
set_option linter.unusedVariables false

set_option maxHeartbeats 4000000 in
set_option maxRecDepth 100000 in
theorem ref_loadp (E : Env) (q : HP) (y : Nat) (A : Dk) (name : ByteArray) (gen : Int) (w : World) (hname : name.size + 2 ≤ maxLen) (hby : ∀ f ∈ halvesL name, ∀ i c, A.cel f i = some c → Bytes c.read) (hsm : ∀ s, (A.at s).length ≤ 100000) (hw : Sat E w (HP.rdisk y A * q)) :
    Calls Tryz.prog 26 #[.pointer (some ⟨y, 0, none⟩), .string name, .int .i64 gen] w (loadEnd E (HP.rdisk y A * q) (loadP A name gen)) := by
  have hn2 : name.size + 2 ≤ 9223372036854775807 := by unfold maxLen at hname; omega
  obtain ⟨xa, hxa⟩ : ∃ x, x = (A.at (name ++ dotA)).length := ⟨_, rfl⟩
  obtain ⟨xb, hxb⟩ : ∃ x, x = (A.at (name ++ dotB)).length := ⟨_, rfl⟩
  have ha := hsm (name ++ dotA)
  have hb := hsm (name ++ dotB)
  rw [← hxa] at ha
  rw [← hxb] at hb
  obtain ⟨m, hm⟩ : ∃ m, m = max xa xb := ⟨_, rfl⟩
  have HM2 : Aside (extN A name = m) := ⟨by
    unfold extN halvesL
    simp only [List.foldl_cons, List.foldl_nil]
    rw [← hxa, ← hxb, hm]
    omega⟩
  have hmx : max (xa : Int) (xb : Int) = (m : Int) := by omega
  have hmx2 : (if (xa : Int) < (xb : Int) then (xb : Int) else (xa : Int)) = (m : Int) := by split <;> omega
  have hmx3 : (if (xb : Int) > (xa : Int) then (xb : Int) else (xa : Int)) = (m : Int) := by split <;> omega
  have hm1 : m ≤ 100000 := by omega
  have HXA := Aside.mk (And.intro hxa hxb)
  have HQ := Aside.mk (And.intro hby hw)
  clear hby hw hxa hxb hm hsm ha hb
  unfold dotA dotB at HXA
  go_enter Tryz.func26, Tryz.ntmps26
  go_wp2_with fail
  refine (rdisk_extents E _ y A _ _ HQ.out.2).mono ?_
  rintro e w1 ⟨rfl, h1⟩
  rw [← HXA.out.1]
  have H1 := Aside.mk h1
  clear h1
  go_wp2_with fail
  refine (rdisk_extents E _ y A _ _ H1.out).mono ?_
  rintro e w2 ⟨rfl, h2⟩
  rw [← HXA.out.2]
  have H2 := Aside.mk h2
  clear h2 H1 HXA
  by_cases hz : m = 0
  · have HX : Aside (loadP A name gen = none) := ⟨by unfold loadP; rw [if_pos (by rw [HM2.out]; exact hz)]⟩
    subst hz
    go_wp2
    all_goals
      go_ret2
      rw [HX.out]
      exact ⟨rfl, H2.out⟩
  · have hb0 : ((m : Int) == 0) = false := by rw [beq_eq_false_iff_ne]; omega
    have hb1 : ¬ (m : Int) = 0 := by omega
    have HS0 := Aside.mk (H2.out.row_nil 5 1 none)
    clear H2
    go_wp2
    go_loopw [9, 26] (fun v11 v30 wr => ∃ (i : Nat) (out : List Int), i ≤ m ∧ v30 = .int .i64 i ∧ out.length ≤ 106 * i ∧ Aside (loadG A name gen i (m - i) out = loadG A name gen 0 m []) ∧ Aside (Sat E wr (HP.row 5 1 v11 out.length (b8s out) * (HP.rdisk y A * q)))) (fun _ i _ => m - (intOf i).toNat)
    case atStart => exact ⟨0, [], by omega, rfl, by simp, ⟨rfl⟩, HS0⟩
    case round =>
      clear HS0
      obtain ⟨i, out, hi, rfl, ho, HG, HT⟩ := hrel
      by_cases hlt : i < m
      · have hlt2 : (i : Int) < m := by omega
        go_wp2_with fail
        refine (ref_getp E (HP.row 5 1 u9 out.length (b8s out) * q) y A name i _ hname (fun f hf c hc => HQ.out.1 f hf i c hc) HT.out.s2).mono ?_
        rintro e w4 ⟨v, rfl, h4⟩
        have hsm := getP_small A name i
        obtain ⟨j, hj⟩ : ∃ j, m - i = j + 1 := ⟨m - i - 1, by omega⟩
        have HL : Aside (loadG A name gen i (j + 1) out = if 0 ≤ (getP A name i).1 ∧ (getP A name i).1 = gen then loadG A name gen (i + 1) j (out ++ (getP A name i).2) else none) := ⟨rfl⟩
        rw [hj, HL.out] at HG
        clear HL
        have HP0 : Aside (loadP A name gen = loadG A name gen 0 m []) := ⟨by unfold loadP; rw [HM2.out, if_neg (by omega)]⟩
        obtain ⟨⟨best, p⟩, hst⟩ : ∃ st, st = getP A name i := ⟨_, rfl⟩
        rw [← hst] at h4 HG hsm ⊢
        clear hst
        dsimp only at h4 HG hsm
        unfold getEnd
        dsimp only
        by_cases hneg : best < 0
        · rw [if_pos hneg]
          have HX : Aside (loadP A name gen = none) := ⟨by rw [HP0.out, ← HG.out, if_neg (by omega)]⟩
          have H4 := Aside.mk (h4.right.perm (by ac_rfl) : Sat E w4 (HP.row 5 1 u9 out.length (b8s out) * (HP.rdisk y A * q)))
          clear h4 HG
          go_wp2
          go_ret2
          rw [HX.out]
          exact ⟨rfl, H4.out.right⟩
        · rw [if_neg hneg]
          obtain ⟨Av, cv, rfl, -, -⟩ := h4.row_slice
          by_cases heq : best = gen
          · subst heq
            rw [if_pos ⟨by omega, rfl⟩] at HG
            have h5 : Sat E w4 (HP.row 5 1 u9 out.length (b8s out) * (HP.row 5 1 (.slice Av p.length cv) p.length (b8s p) * (HP.rdisk y A * q))) := h4.perm (by ac_rfl)
            have H5 := Aside.mk (And.intro h5 (And.intro h4.row_cells (show (b8s p).length = p.length * 1 by rw [b8s_length, Nat.mul_one])))
            clear h4 h5
            obtain ⟨pl, hpl⟩ : ∃ pl, pl = p.length := ⟨_, rfl⟩
            obtain ⟨ol, hol⟩ : ∃ ol, ol = out.length := ⟨_, rfl⟩
            rw [← hpl, ← hol] at H5
            rw [← hpl] at hsm ⊢
            rw [← hol] at ho
            have HO := Aside.mk (And.intro hpl hol)
            clear hpl hol
            go_wp2_with (at_builtin; refine wpList_append_row slB8 rfl rfl (by rfl) (by rfl) H5.out.1 H5.out.2.1 H5.out.2.2 (b8s_one _) (by unfold maxLen; omega) (by omega) (fun v5 w5 hw5 => ?_); obtain ⟨A5, c5, rfl, -, -⟩ := hw5.row_slice; have HW5 := Aside.mk hw5; clear hw5)
            have H6 : Aside (Sat E w5 (HP.row 5 1 (.slice A5 (ol + pl) c5) (out ++ p).length (b8s (out ++ p)) * (HP.rdisk y A * q))) := ⟨by
              rw [List.length_append, b8s_append, ← HO.out.1, ← HO.out.2]
              exact HW5.out.drop2⟩
            have HG2 : Aside (loadG A name best (i + 1) (m - (i + 1)) (out ++ p) = loadG A name best 0 m []) := ⟨by rw [← HG.out, show m - (i + 1) = j by omega]⟩
            clear HG HW5 H5
            go_wp2
            go_roundw
            case rel => exact ⟨i + 1, out ++ p, by omega, by push_cast; rfl, by rw [List.length_append, ← HO.out.1, ← HO.out.2]; omega, HG2, H6⟩
            case measure => simp [intOf]; omega
          · rw [if_neg (fun h => heq h.2)] at HG
            have HX : Aside (loadP A name gen = none) := ⟨by rw [HP0.out, ← HG.out]⟩
            have H4 := Aside.mk (h4.right.perm (by ac_rfl) : Sat E w4 (HP.row 5 1 u9 out.length (b8s out) * (HP.rdisk y A * q)))
            clear h4 HG
            go_wp2
            go_ret2
            rw [HX.out]
            exact ⟨rfl, H4.out.right⟩
      · obtain rfl : i = m := by omega
        rw [Nat.sub_self] at HG
        have HX : Aside (loadP A name gen = some out) := ⟨by unfold loadP; rw [HM2.out, if_neg hz]; exact HG.out.symm⟩
        clear HG
        go_wp2
        go_ret2
        rw [HX.out]
        exact ⟨_, rfl, HT.out⟩
end Go.Proofs.YtmjnnbnbdcadbaaGreatDoor
/- dryrotref05.Drop, parts, Store over the document's disk. -/
namespace Go.Proofs.YtmjnnbnbdcadbaaGreatDoor
open Go.RowKit HP
set_option linter.unusedSimpArgs false
set_option linter.unusedVariables false

theorem slBB5 : SlTy Tryz.prog 72 34 (.slice none 0 0) 1 24 := ⟨Tryz.underlying72, by kernel_rfl, rfl, by decide⟩
set_option maxHeartbeats 4000000 in
set_option maxRecDepth 100000 in
theorem ref_dropp (E : Env) (q : HP) (y : Nat) (A : Dk) (name : ByteArray) (w : World) (hname : name.size + 2 ≤ maxLen) (hw : Sat E w (HP.rdisk y A * q)) :
    Calls Tryz.prog 23 #[.pointer (some ⟨y, 0, none⟩), .string name] w fun e w' => e = .returned (.int .i64 (dropP A name).1) ∧ Sat E w' (HP.rdisk y (dropP A name).2 * q) := by
  have HF : Aside (halvesL name = [name ++ dotA, name ++ dotB]) := ⟨rfl⟩
  have HR : Aside (dropP A name = dropL A (halvesL name)) := ⟨rfl⟩
  have HW0 := Aside.mk hw
  clear hw
  go_enter Tryz.func23, Tryz.ntmps23
  go_wp2_with fail
  refine (ref_halves E _ name _ hname HW0.out).mono ?_
  rintro e w1 ⟨g, rfl, h1⟩
  obtain ⟨fa, hfae⟩ : ∃ fa, fa = name ++ dotA := ⟨_, rfl⟩
  obtain ⟨fb, hfbe⟩ : ∃ fb, fb = name ++ dotB := ⟨_, rfl⟩
  rw [← hfae] at HF h1
  rw [← hfbe] at HF h1
  clear hfae hfbe
  have H1 := Aside.mk h1
  clear h1
  go_wp2
  go_loopw [11] (fun v20 wr => ∃ (h : Nat) (A' : Dk), h ≤ 2 ∧ v20 = .int .i64 h ∧ Aside (dropL A' ((halvesL name).drop h) = dropP A name) ∧ Aside (Sat E wr (HP.pt g (.cells #[.string fa, .string fb] 9) * (HP.rdisk y A' * q)))) (fun i _ => 2 - (intOf i).toNat)
  case atStart => exact ⟨0, A, by omega, rfl, ⟨by rw [HR.out]; rfl⟩, H1⟩
  case round =>
    clear H1
    obtain ⟨h, A', hh, rfl, HA, HS⟩ := hrel
    by_cases hlt : h < 2
    · obtain ⟨f, hff, hix⟩ : ∃ f : ByteArray, (halvesL name).drop h = f :: (halvesL name).drop (h + 1) ∧ (#[Value.string fa, Value.string fb] : Array Value)[h]? = some (.string f) := by
        rw [HF.out]
        rcases Nat.lt_or_ge h 1 with h0 | h0
        · obtain rfl : h = 0 := by omega
          exact ⟨fa, rfl, rfl⟩
        · obtain rfl : h = 1 := by omega
          exact ⟨fb, rfl, rfl⟩
      have kc : wr.cell? ⟨g, h, none⟩ = some (.string f) := by rw [HS.out.cell]; exact hix
      rw [hff] at HA
      clear hff hix
      have hlt2 : (h : Int) < 2 := by omega
      have HW : Aside (dropL A' (f :: (halvesL name).drop (h + 1)) = if (A'.at f).length = 0 then dropL A' ((halvesL name).drop (h + 1)) else if (A'.remove f).1 = 0 then dropL (A'.remove f).2 ((halvesL name).drop (h + 1)) else A'.remove f) := ⟨rfl⟩
      have HS2 := Aside.mk HS.out.s2
      clear HS
      go_wp2_with fail
      refine (rdisk_extents E _ y A' f _ HS2.out).mono ?_
      rintro e w3 ⟨rfl, h3⟩
      have H3 := Aside.mk h3
      clear h3 HS2 kc
      obtain ⟨x, hx⟩ : ∃ x, x = (A'.at f).length := ⟨_, rfl⟩
      rw [← hx] at HW ⊢
      clear hx
      by_cases hx0 : x = 0
      · subst hx0
        rw [if_pos rfl, HA.out] at HW
        have HW2 := Aside.mk HW.out.symm
        have H4 := Aside.mk H3.out.s2
        clear HW HA H3
        go_wp2
        go_roundw
        case rel => exact ⟨h + 1, A', by omega, by push_cast; rfl, HW2, H4⟩
        case measure => simp [intOf]; omega
      · rw [if_neg hx0] at HW
        have hx1 : (0 : Int) < (x : Int) := by omega
        go_wp2_with fail
        refine (ref_remove E _ y A' f _ H3.out).mono ?_
        rintro e w4 ⟨rfl, h4⟩
        have H4 := Aside.mk h4.s2
        clear h4 H3
        by_cases h0 : (A'.remove f).1 = 0
        · rw [h0]
          rw [if_pos h0, HA.out] at HW
          have HW2 := Aside.mk HW.out.symm
          clear HW HA h0
          generalize (A'.remove f).2 = B2 at *
          go_wp2
          go_roundw
          case rel => exact ⟨h + 1, B2, by omega, by push_cast; rfl, HW2, H4⟩
          case measure => simp [intOf]; omega
        · rw [if_neg h0, HA.out] at HW
          obtain ⟨ec, hec⟩ : ∃ ec, ec = (A'.remove f).1 := ⟨_, rfl⟩
          rw [← hec] at h0 ⊢
          have HE := Aside.mk hec
          clear hec HA
          go_wp2
          go_ret
          rw [HW.out, HE.out]
          exact ⟨rfl, H4.out.right⟩
    · obtain rfl : h = 2 := by omega
      rw [HF.out] at HA
      have HX : Aside (dropP A name = (0, A')) := ⟨by rw [← HA.out]; rfl⟩
      clear HA
      go_wp2
      go_ret
      rw [HX.out]
      exact ⟨rfl, HS.out.right⟩
theorem range_snoc_map {α : Type} (f : Nat → α) (j : Nat) : (List.range (j + 1)).map f = (List.range j).map f ++ [f j] := by
  rw [List.range_succ, List.map_append]; rfl
/-- What 'parts' hands back. -/
structure PartsEnd (E : Env) (q q0 : HP) (l : List Int) (V : Option Addr) (cv : Nat) (ss : List (Sl Int)) (w' : World) : Prop where
  same : ss.map (·.l) = piecesI l
  pay : ∀ s ∈ ss, PayOk s
  cells : ∀ w, Sat E w q0 → ∀ s ∈ ss, Cells w s.A (b8s s.l)
  sat : Sat E w' (HP.row 34 1 (.slice V ss.length cv) ss.length (ss.map Sl.val8) * q)
structure PartsAt (E : Env) (q0 : HP) (l : List Int) (c j : Nat) (Aj : Option Addr) (ss : List (Sl Int)) : Prop where
  same : ss.map (·.l) = (List.range j).map (piece l)
  pay : ∀ s ∈ ss, PayOk s
  cells : ∀ w, Sat E w q0 → ∀ s ∈ ss, Cells w s.A (b8s s.l)
  left : ∀ w, Sat E w q0 → Cells w Aj (b8s (l.drop (106 * j)))
  many : ss.length = j
theorem pieces_end {l : List Int} {j : Nat} (h1 : j = 0 ∨ 106 * j < l.length) (h2 : l.length - 106 * j ≤ 106) : (List.range j).map (piece l) ++ [l.drop (106 * j)] = piecesI l := by
  unfold piecesI
  by_cases h : l.length = 0
  · rw [if_pos h]
    have hj : j = 0 := by omega
    subst hj
    rw [List.eq_nil_of_length_eq_zero h]
    rfl
  · rw [if_neg h]
    have hc : chunkN l.length = j + 1 := by unfold chunkN; omega
    rw [hc, range_snoc_map]
    congr 2
    unfold piece
    rw [List.take_of_length_le (by rw [List.length_drop]; omega)]
set_option maxHeartbeats 4000000 in
set_option maxRecDepth 100000 in
theorem ref_parts (E : Env) (q q0 : HP) (A : Option Addr) (l : List Int) (n c : Nat) (w : World) (hln : l.length = n) (hnc : n ≤ c) (hcm : c ≤ maxLen) (hn64 : n ≤ 140737488351232) (hb : Bytes l) (hq : ∀ w, Sat E w q0 → Cells w A (b8s l)) (hsub : ∀ w, Sat E w q → Sat E w q0) (hw : Sat E w q) :
    Calls Tryz.prog 86 #[.slice A n c] w fun e w' => ∃ V cv ss, e = .returned (.slice V ss.length cv) ∧ PartsEnd E q q0 l V cv ss w' := by
  have HQ := Aside.mk (And.intro hq (And.intro hb hln))
  have HSUB := Aside.mk hsub
  have H1 := Aside.mk (hw.row_nil 34 1 none)
  have hcm' : (c : Int) ≤ 9223372036854775807 := by unfold maxLen at hcm; omega
  have HS0 : Aside (PartsAt E q0 l c 0 A []) := ⟨⟨rfl, (fun s hs => by cases hs), (fun w h s hs => by cases hs), fun w h => by rw [Nat.mul_zero, List.drop_zero]; exact hq w h, rfl⟩⟩
  clear hq hb hln hw hsub
  go_enter Tryz.func86, Tryz.ntmps86
  go_wp2
  go_loopw [0, 3] (fun v0 v3 wr => ∃ (j : Nat) (Aj : Option Addr) (ss : List (Sl Int)), 106 * j ≤ n ∧ (j = 0 ∨ 106 * j < n) ∧ v0 = .slice Aj (n - 106 * j) (c - 106 * j) ∧ Aside (PartsAt E q0 l c j Aj ss) ∧ Aside (Sat E wr (HP.row 34 1 v3 ss.length (ss.map Sl.val8) * q))) (fun x _ _ => sliceLen x)
  case atStart => exact ⟨0, A, [], by omega, .inl rfl, by simp, HS0, H1⟩
  case round =>
    clear H1 HS0
    obtain ⟨j, Aj, ss, hj, hj2, rfl, HPT, HS⟩ := hrel
    obtain ⟨Vo, co, rfl, -, -⟩ := HS.out.row_slice
    have hsl : ss.length ≤ 1400000000000 := by have := HPT.out.many; omega
    have hlj : (l.drop (106 * j)).length = n - 106 * j := by rw [List.length_drop, HQ.out.2.2]
    obtain ⟨m, hm⟩ : ∃ m, m = n - 106 * j := ⟨_, rfl⟩
    obtain ⟨cc, hcc⟩ : ∃ cc, cc = c - 106 * j := ⟨_, rfl⟩
    have hmc : m ≤ cc := by omega
    have hcc2 : (cc : Int) ≤ 9223372036854775807 := by omega
    rw [← hm] at hlj ⊢
    rw [← hcc]
    have HMC := Aside.mk (And.intro hm (And.intro hcc (And.intro hj (And.intro hj2 hlj))))
    have HC0 := Aside.mk (And.intro hnc hn64)
    clear hm hcc hj hj2 hlj hnc hcm hn64 hcm'
    by_cases hlt : 106 < m
    · have hlt2 : (106 : Int) < (m : Int) := by omega
      have hc0 := HPT.out.left _ (HSUB.out _ HS.out.right)
      obtain ⟨pa, rfl, -⟩ := hc0.at_ 0 (by rw [b8s_length, HMC.out.2.2.2.2]; omega)
      obtain ⟨g, o, rfl⟩ := slice_addr hc0 rfl (k := 0) (by rw [b8s_length, HMC.out.2.2.2.2]; omega)
      have h106c : ¬ (cc : Int) = 106 := by omega
      clear hc0
      go_wp2_with (at_builtin; (refine wpList_append_new slBB5 rfl rfl (by rfl) (by rfl) HS.out rfl rfl (by unfold maxLen; omega) (by omega) (fun v6 w6 hw6 => ?_); have HW6 := Aside.mk hw6; clear hw6))
      have hpl : (piece l j).length = 106 := by unfold piece; rw [List.length_take, HMC.out.2.2.2.2]; omega
      have HW7 : Aside (Sat E w6 (HP.row 34 1 v6 (ss ++ [(⟨some ⟨g, o, none⟩, cc, piece l j⟩ : Sl Int)]).length ((ss ++ [(⟨some ⟨g, o, none⟩, cc, piece l j⟩ : Sl Int)]).map Sl.val8) * q)) := ⟨by
        have h := HW6.out
        rw [List.length_append, List.map_append, List.map_cons, List.map_nil]
        unfold Sl.val8 at h ⊢
        rw [hpl]
        exact h⟩
      have HP7 : Aside (PartsAt E q0 l c (j + 1) (some ⟨g, o + 106, none⟩) (ss ++ [(⟨some ⟨g, o, none⟩, cc, piece l j⟩ : Sl Int)])) := ⟨by
        refine ⟨?_, fun s hs => ?_, fun w h s hs => ?_, fun w h => ?_, by rw [List.length_append, HPT.out.many]; rfl⟩
        · rw [List.map_append, HPT.out.same, range_snoc_map]; rfl
        · rcases List.mem_append.1 hs with hs | hs
          · exact HPT.out.pay s hs
          · obtain rfl := List.mem_singleton.1 hs
            exact ⟨by show (piece l j).length ≤ cc; omega, fun x hx => HQ.out.2.1 x (List.mem_of_mem_drop (List.mem_of_mem_take hx))⟩
        · rcases List.mem_append.1 hs with hs | hs
          · exact HPT.out.cells w h s hs
          · obtain rfl := List.mem_singleton.1 hs
            have := (HPT.out.left w h).take 106
            unfold piece b8s at this ⊢
            rw [List.map_take]; exact this
        · have := (HPT.out.left w h).drop 106
          rw [addr_add] at this
          unfold b8s at this ⊢
          rw [show 106 * (j + 1) = 106 * j + 106 by omega, ← List.drop_drop, List.map_drop (l := l.drop (106 * j))]
          exact this⟩
      have hfin : 106 * (j + 1) ≤ n ∧ 106 * (j + 1) < n ∧ n - 106 * (j + 1) = m - 106 ∧ c - 106 * (j + 1) = cc - 106 := by
        have h1 := HMC.out.1
        have h2 := HMC.out.2.1
        have h3 := HC0.out.1
        omega
      have HFN := Aside.mk hfin
      clear hfin HW6 HS
      go_wp2
      go_roundw
      case rel => exact ⟨j + 1, some ⟨g, o + 106, none⟩, ss ++ [(⟨some ⟨g, o, none⟩, cc, piece l j⟩ : Sl Int)], HFN.out.1, .inr HFN.out.2.1, by rw [HFN.out.2.2.1, HFN.out.2.2.2], HP7, HW7⟩
      case measure => simp only [sliceLen]; omega
    · have hlt2 : ¬ (106 : Int) < (m : Int) := by omega
      go_wp2_with (at_builtin; (refine wpList_append_new slBB5 rfl rfl (by rfl) (by rfl) HS.out rfl rfl (by unfold maxLen; omega) (by omega) (fun v6 w6 hw6 => ?_); have HW6 := Aside.mk hw6; clear hw6))
      obtain ⟨V, cv, rfl, -, -⟩ := HW6.out.row_slice
      have HW7 : Aside (PartsEnd E q q0 l V cv (ss ++ [(⟨Aj, cc, l.drop (106 * j)⟩ : Sl Int)]) w6) := ⟨by
        have h1 := HMC.out.1
        have h4 := HMC.out.2.2.2.1
        have h5 := HMC.out.2.2.2.2
        have h6 := HQ.out.2.2
        refine ⟨?_, fun s hs => ?_, fun w h s hs => ?_, ?_⟩
        · rw [List.map_append, HPT.out.same]
          exact pieces_end (by rw [h6]; exact h4) (by rw [h6]; omega)
        · rcases List.mem_append.1 hs with hs | hs
          · exact HPT.out.pay s hs
          · obtain rfl := List.mem_singleton.1 hs
            exact ⟨by show (l.drop (106 * j)).length ≤ cc; omega, fun x hx => HQ.out.2.1 x (List.mem_of_mem_drop hx)⟩
        · rcases List.mem_append.1 hs with hs | hs
          · exact HPT.out.cells w h s hs
          · obtain rfl := List.mem_singleton.1 hs
            exact HPT.out.left w h
        · have h := HW6.out
          rw [List.length_append, List.map_append, List.map_cons, List.map_nil]
          unfold Sl.val8 at h ⊢
          rw [h5]
          exact h⟩
      go_wp2
      go_ret
      exact ⟨V, cv, ss ++ [(⟨Aj, cc, l.drop (106 * j)⟩ : Sl Int)], by rw [List.length_append]; rfl, HW7.out⟩
set_option maxHeartbeats 4000000 in
set_option maxRecDepth 100000 in
theorem ref_storep (E : Env) (q : HP) (y : Nat) (A : Dk) (name : ByteArray) (gen : Int) (Ap : Option Addr) (l : List Int) (n c : Nat) (w : World) (hname : name.size + 2 ≤ maxLen) (hln : l.length = n) (hnc : n ≤ c) (hcm : c ≤ maxLen) (hn64 : n ≤ 140737488351232) (hl : Bytes l)
    (hq : ∀ w, Sat E w q → Cells w Ap (b8s l)) (hw : Sat E w (HP.rdisk y A * q)) :
    Calls Tryz.prog 17 #[.pointer (some ⟨y, 0, none⟩), .string name, .int .i64 gen, .slice Ap n c] w fun e w' => e = .returned (.int .i64 (if 0 ≤ gen ∧ gen ≤ 4611686018427387904 then storeP A name gen.toNat l else (1, A)).1) ∧ Sat E w' (HP.rdisk y (if 0 ≤ gen ∧ gen ≤ 4611686018427387904 then storeP A name gen.toNat l else (1, A)).2 * q) := by
  have HQ := Aside.mk (And.intro hq (And.intro hl (And.intro hln hw)))
  have HC := Aside.mk (And.intro hnc (And.intro hcm hn64))
  clear hq hl hln hw hnc hcm hn64
  by_cases hg : 0 ≤ gen ∧ gen ≤ 4611686018427387904
  · rw [if_pos hg]
    obtain ⟨hg0, hg1⟩ := hg
    obtain ⟨gen, rfl⟩ := Int.eq_ofNat_of_zero_le hg0
    rw [Int.toNat_natCast]
    have HS : Aside (storeP A name gen l = if (dropP A name).1 = 0 then wrP (dropP A name).2 name 0 gen (piecesI l) else dropP A name) := ⟨rfl⟩
    go_enter Tryz.func17, Tryz.ntmps17
    go_wp2_with fail
    refine (ref_dropp E q y A name _ hname HQ.out.2.2.2).mono ?_
    rintro e w1 ⟨rfl, h1⟩
    have H1 := Aside.mk h1
    clear h1
    by_cases h0 : (dropP A name).1 = 0
    · rw [h0]
      rw [if_pos h0] at HS
      clear h0
      generalize (dropP A name).2 = B at *
      go_wp2_with fail
      refine (ref_parts E (HP.rdisk y B * q) q Ap l n c _ HQ.out.2.2.1 HC.out.1 HC.out.2.1 HC.out.2.2 HQ.out.2.1 HQ.out.1 (fun w h => h.right) H1.out).mono ?_
      rintro e w2 ⟨V, cv, ss, rfl, hp⟩
      have HP' := Aside.mk hp
      have hsl : ss.length ≤ maxLen := by
        have e := congrArg List.length hp.same
        rw [List.length_map] at e
        rw [e]
        have h2 : (piecesI l).length ≤ l.length + 1 := by
          unfold piecesI
          split
          · exact Nat.le_add_left _ _
          · rw [List.length_map, List.length_range]; unfold chunkN; omega
        have := HQ.out.2.2.1
        have := HC.out.2.2
        unfold maxLen
        omega
      have HSL := Aside.mk hsl
      have H2 : Aside (Sat E w2 (HP.rdisk y B * (HP.row 34 1 (.slice V ss.length cv) ss.length (ss.map Sl.val8) * q))) := ⟨hp.sat.s2⟩
      clear hp hsl H1
      obtain ⟨m, hm⟩ : ∃ m, m = ss.length := ⟨_, rfl⟩
      rw [← hm] at H2 HSL ⊢
      have HM := Aside.mk hm
      clear hm
      go_wp2_with fail
      refine (ref_both E _ y B name 0 gen V ss m cv _ hname (by omega) hg1 HM.out.symm HSL.out HP'.out.pay (fun w h => ⟨h.row_cells, fun s hs => HP'.out.cells w h.right s hs⟩) H2.out).mono ?_
      rintro e w3 ⟨rfl, h3⟩
      rw [HP'.out.same] at h3 ⊢
      have H3 := Aside.mk h3.drop2
      clear h3 H2
      go_wp2
      go_ret
      rw [HS.out]
      exact ⟨rfl, H3.out⟩
    · rw [if_neg h0] at HS
      obtain ⟨ec, hec⟩ : ∃ ec, ec = (dropP A name).1 := ⟨_, rfl⟩
      rw [← hec] at h0 ⊢
      have HE := Aside.mk hec
      clear hec
      go_wp2
      go_ret
      rw [HS.out, HE.out]
      exact ⟨rfl, H1.out⟩
  · rw [if_neg hg]
    have hg2 : gen < 0 ∨ 4611686018427387904 < gen := by omega
    clear hg
    go_enter Tryz.func17, Tryz.ntmps17
    go_wp2
    all_goals (go_ret; exact ⟨rfl, HQ.out.2.2.2⟩)
end Go.Proofs.YtmjnnbnbdcadbaaGreatDoor
/- dryrotref05.Mend over the document's disk. -/
namespace Go.Proofs.YtmjnnbnbdcadbaaGreatDoor
open Go.RowKit HP
set_option linter.unusedSimpArgs false
set_option linter.unusedVariables false

set_option maxHeartbeats 4000000 in
set_option maxRecDepth 100000 in
theorem ref_mendp (E : Env) (q : HP) (y : Nat) (A : Dk) (name : ByteArray) (i : Int) (w : World) (hname : name.size + 2 ≤ maxLen) (hby : ∀ f ∈ halvesL name, ∀ c, A.cel f i = some c → Bytes c.read)
    (hso : Sorted A.files) (hw : Sat E w (HP.rdisk y A * q)) :
    Calls Tryz.prog 21 #[.pointer (some ⟨y, 0, none⟩), .string name, .int .i64 i] w fun e w' => e = .returned (.tuple #[.bool (mendP A name i).1.1, .int .i64 (mendP A name i).1.2]) ∧ Sat E w' (HP.rdisk y (mendP A name i).2 * q) := by
  have hfa : (name ++ dotA).size ≤ maxLen := by rw [dotA_size]; exact hname
  have hfb : (name ++ dotB).size ≤ maxLen := by rw [dotB_size]; exact hname
  have HF : Aside (halvesL name = [name ++ dotA, name ++ dotB]) := ⟨rfl⟩
  have HNE := Aside.mk (halves_ne name)
  have HM : Aside (mendP A name i = if (getP A name i).1 < 0 then ((false, 50), A) else mendL i.toNat (getP A name i).1.toNat (getP A name i).2 false A (halvesL name)) := ⟨rfl⟩
  have HQ := Aside.mk (And.intro hby (And.intro hw hso))
  have HG := Aside.mk (And.intro (getP_ok A name i) (getP_byt hby))
  clear hby hw hso
  go_enter Tryz.func21, Tryz.ntmps21
  go_wp2_with fail
  refine (ref_getp E q y A name i _ hname HQ.out.1 HQ.out.2.1).mono ?_
  rintro e w1 ⟨v, rfl, h1⟩
  obtain ⟨Av, cv, rfl, hcv, hcm⟩ := h1.row_slice
  obtain ⟨⟨G0, p⟩, hGp⟩ : ∃ r, r = getP A name i := ⟨_, rfl⟩
  rw [← hGp] at h1 HM HG ⊢
  clear hGp
  dsimp only at h1 HM HG ⊢
  have H1 := Aside.mk h1
  clear h1
  unfold getEnd
  by_cases hneg : G0 < 0
  · rw [if_pos (by exact hneg)]
    rw [if_pos hneg] at HM
    go_wp2
    go_ret2
    rw [HM.out]
    exact ⟨rfl, H1.out.right⟩
  · rw [if_neg (by exact hneg)]
    rw [if_neg hneg] at HM
    obtain ⟨i0, i1⟩ := HG.out.1.place (by show 0 ≤ G0; omega)
    obtain ⟨i, rfl⟩ := Int.eq_ofNat_of_zero_le i0
    obtain ⟨G, rfl⟩ := Int.eq_ofNat_of_zero_le (show 0 ≤ G0 by omega)
    rw [Int.toNat_natCast, Int.toNat_natCast] at HM
    have hG : (G : Int) ≤ 4611686018427387904 := HG.out.1.gen
    have hpl : p.length ≤ 106 := HG.out.1.len
    obtain ⟨n, hn⟩ : ∃ n, n = p.length := ⟨_, rfl⟩
    rw [← hn] at H1 hpl ⊢
    have HPL := Aside.mk (And.intro hn.symm HG.out.2)
    clear hn HG hneg hcv hcm
    go_wp2_with fail
    refine (ref_halves E _ name _ hname H1.out).mono ?_
    rintro e w2 ⟨g, rfl, h2⟩
    obtain ⟨fa, hfae⟩ : ∃ fa, fa = name ++ dotA := ⟨_, rfl⟩
    obtain ⟨fb, hfbe⟩ : ∃ fb, fb = name ++ dotB := ⟨_, rfl⟩
    rw [← hfae] at hfa HF HNE h2
    rw [← hfbe] at hfb HF HNE h2
    clear hfae hfbe
    obtain ⟨q2, hq2⟩ : ∃ q2, q2 = HP.pt g (.cells #[.string fa, .string fb] 9) * (HP.row 5 1 (.slice Av n cv) n (b8s p) * q) := ⟨_, rfl⟩
    have H2 : Aside (Sat E w2 (HP.rdisk y A * q2)) := ⟨by rw [hq2]; exact h2.perm (by ac_rfl)⟩
    have HQ2 : Aside (∀ E w, Sat E w q2 → Cells w Av (b8s p) ∧ (∀ h : Nat, ∀ u, (#[Value.string fa, Value.string fb] : Array Value)[h]? = some u → w.cell? ⟨g, h, none⟩ = some u) ∧ Sat E w q) := ⟨fun E w h => by
      rw [hq2] at h
      exact ⟨h.right.row_cells, fun k u hu => by rw [h.cell]; exact hu, h.right.right⟩⟩
    have HQE := Aside.mk hq2
    clear h2 H1 hq2
    go_wp2
    go_loopw [11, 34] (fun v11 v33 wr => ∃ (h : Nat) (wrote : Bool) (A' : Dk), h ≤ 2 ∧ v33 = .int .i64 h ∧ v11 = .bool wrote ∧ Aside (mendL i G p wrote A' ((halvesL name).drop h) = mendP A name i) ∧ Aside ((∀ f ∈ (halvesL name).drop h, ∀ c, A'.cel f i = some c → Bytes c.read) ∧ Sorted A'.files) ∧ Aside (Sat E wr (HP.rdisk y A' * q2))) (fun _ x _ => 2 - (intOf x).toNat)
    case atStart => exact ⟨0, false, A, by omega, rfl, rfl, ⟨HM.out.symm⟩, ⟨HQ.out.1, HQ.out.2.2⟩, H2⟩
    case round =>
      clear H2
      obtain ⟨h, wrote, A', hh, rfl, rfl, HL, HY, HS⟩ := hrel
      by_cases hlt : h < 2
      · obtain ⟨f, hf, hff, hne, hix⟩ : ∃ f : ByteArray, f.size ≤ maxLen ∧ (halvesL name).drop h = f :: (halvesL name).drop (h + 1) ∧ (∀ t ∈ (halvesL name).drop (h + 1), f ≠ t) ∧ (#[Value.string fa, Value.string fb] : Array Value)[h]? = some (.string f) := by
          rw [HF.out]
          rcases Nat.lt_or_ge h 1 with h0 | h0
          · obtain rfl : h = 0 := by omega
            exact ⟨fa, hfa, rfl, fun t ht => by obtain rfl := List.mem_singleton.1 ht; exact HNE.out, rfl⟩
          · obtain rfl : h = 1 := by omega
            exact ⟨fb, hfb, rfl, fun t ht => (by cases ht), rfl⟩
        have kc : wr.cell? ⟨g, h, none⟩ = some (.string f) := (HQ2.out _ _ HS.out.right).2.1 h _ hix
        rw [hff] at HL HY
        have HNX := Aside.mk hne
        clear hff hne hix
        have hlt2 : (h : Int) < 2 := by omega
        have hIl : (extI f i G p).length = 128 := extI_length (by rw [HPL.out.1]; exact hpl)
        have hIb : Bytes (extI f i G p) := extI_bytes (by rw [HPL.out.1]; exact hpl) HPL.out.2
        have HX : Aside (mendL i G p wrote A' (f :: (halvesL name).drop (h + 1)) = if readO A' f i = extI f i G p then mendL i G p wrote A' ((halvesL name).drop (h + 1))
          else if (A'.write f i (extI f i G p)).1 = 0 then
            if ((A'.write f i (extI f i G p)).2.sync f).1 = 0 then mendL i G p true ((A'.write f i (extI f i G p)).2.sync f).2 ((halvesL name).drop (h + 1))
            else ((false, ((A'.write f i (extI f i G p)).2.sync f).1), ((A'.write f i (extI f i G p)).2.sync f).2)
          else ((false, (A'.write f i (extI f i G p)).1), (A'.write f i (extI f i G p)).2)) := ⟨rfl⟩
        rw [HL.out] at HX
        go_wp2_with fail
        refine (ref_frame E (HP.rdisk y A' * q2) f i G Av p n cv _ hf i1 hG HPL.out.1 hpl HPL.out.2 (fun w h => (HQ2.out _ _ h.right).1) HS.out).mono ?_
        rintro e w3 ⟨vI, rfl, h3⟩
        obtain ⟨AI, cI, rfl, hcI, hcM⟩ := h3.row_slice
        obtain ⟨I, hIe⟩ : ∃ I, I = extI f i G p := ⟨_, rfl⟩
        rw [← hIe] at hIl hIb h3 HX
        clear hIe
        have HI := Aside.mk (And.intro hIl hIb)
        have H3 := Aside.mk h3.s2
        clear h3 hIl hIb HS HL kc
        go_wp2_with fail
        refine (rdisk_any E _ y A' f i _ (fun c hc => HY.out.1 f (List.mem_cons_self ..) c hc) H3.out).mono ?_
        rintro e w4 ⟨Ar, nr, cr, er, X, rfl, hrl, hnc, hcm, hrb, hX, h4⟩
        obtain ⟨R, hR⟩ : ∃ R, R = readO A' f i := ⟨_, rfl⟩
        rw [← hR] at hrl hrb hX HX
        have e0 := run_string_m (P := Tryz.prog) (c := cr) hrl Tryz.underlying34 Tryz.underlying5 Tryz.underlying9 (hX _ _ _ h4)
        have e1 := run_string_m (P := Tryz.prog) (c := cI) HI.out.1 Tryz.underlying34 Tryz.underlying5 Tryz.underlying9 h4.right.right.row_cells
        have e2 := strOf_eqb hrb HI.out.2
        have H5 : Aside (Sat E w4 (HP.rdisk y A' * (HP.row 5 1 (.slice AI 128 cI) 128 (b8s I) * q2))) := ⟨h4.right⟩
        clear h4 hR hrl hrb hX H3
        by_cases hRI : R = I
        · rw [decide_eq_true hRI] at e2
          rw [if_pos hRI] at HX
          have HZ : Aside (Sat E w4 (HP.rdisk y A' * q2)) := ⟨H5.out.drop2⟩
          have HY2 : Aside ((∀ f ∈ (halvesL name).drop (h + 1), ∀ c, A'.cel f i = some c → Bytes c.read) ∧ Sorted A'.files) := ⟨fun t ht => HY.out.1 t (List.mem_cons_of_mem _ ht), HY.out.2⟩
          have HX2 := Aside.mk HX.out.symm
          clear hRI HX HY H5
          generalize strOf I = s0 at *
          generalize strOf R = s1 at *
          go_wp2
          go_roundw
          case rel => exact ⟨h + 1, wrote, A', by omega, by push_cast; rfl, rfl, HX2, HY2, HZ⟩
          case measure => simp [intOf]; omega
        · rw [decide_eq_false hRI] at e2
          rw [if_neg hRI] at HX
          clear hRI
          have HSO := Aside.mk HY.out.2
          generalize strOf I = s0 at *
          generalize strOf R = s1 at *
          go_wp2_with fail
          refine (ref_write E _ y A' f i AI I 128 cI _ hf HI.out.1 (by unfold maxLen; omega) (fun w h => h.row_cells) H5.out).mono ?_
          rintro e w6 ⟨rfl, h6⟩
          have H6 : Aside (Sat E w6 (HP.rdisk y (A'.write f (i : Int) I).2 * q2)) := ⟨h6.drop2⟩
          clear h6 H5 e0 e1 e2
          by_cases hw0 : (A'.write f (i : Int) I).1 = 0
          · rw [hw0]
            rw [if_pos hw0] at HX
            have HY2 : Aside ((∀ t ∈ (halvesL name).drop (h + 1), ∀ c, (A'.write f (i : Int) I).2.cel t i = some c → Bytes c.read) ∧ Sorted (A'.write f (i : Int) I).2.files) := ⟨fun t ht c hc => HY.out.1 t (List.mem_cons_of_mem _ ht) c (by rw [← cel_of_at (write_at_ne HSO.out (HNX.out t ht) i I)]; exact hc), write_sorted HSO.out f i I⟩
            clear hw0 HY HSO
            generalize (A'.write f (i : Int) I).2 = B at *
            go_wp2_with fail
            refine (ref_sync E _ y B f _ H6.out).mono ?_
            rintro e w7 ⟨rfl, h7⟩
            have H7 := Aside.mk h7
            clear h7 H6
            by_cases hs0 : (B.sync f).1 = 0
            · rw [hs0]
              rw [if_pos hs0] at HX
              have HY3 : Aside ((∀ t ∈ (halvesL name).drop (h + 1), ∀ c, (B.sync f).2.cel t i = some c → Bytes c.read) ∧ Sorted (B.sync f).2.files) := ⟨fun t ht c hc => HY2.out.1 t ht c (by rw [← cel_of_at (sync_at_ne HY2.out.2 (HNX.out t ht)) i]; exact hc), sync_sorted HY2.out.2 f⟩
              have HX2 := Aside.mk HX.out.symm
              clear hs0 HX HY2
              generalize (B.sync f).2 = C at *
              go_wp2
              go_roundw
              case rel => exact ⟨h + 1, true, C, by omega, by push_cast; rfl, rfl, HX2, HY3, H7⟩
              case measure => simp [intOf]; omega
            · rw [if_neg hs0] at HX
              obtain ⟨ec, hec⟩ : ∃ ec, ec = (B.sync f).1 := ⟨_, rfl⟩
              rw [← hec] at hs0 HX ⊢
              clear hec HY2
              go_wp2
              go_ret2
              rw [HX.out]
              exact ⟨rfl, by have := H7.out; rw [HQE.out] at this; exact this.drop2.drop2⟩
          · rw [if_neg hw0] at HX
            obtain ⟨ec, hec⟩ : ∃ ec, ec = (A'.write f (i : Int) I).1 := ⟨_, rfl⟩
            rw [← hec] at hw0 HX ⊢
            clear hec HY
            go_wp2
            go_ret2
            rw [HX.out]
            exact ⟨rfl, by have := H6.out; rw [HQE.out] at this; exact this.drop2.drop2⟩
      · obtain rfl : h = 2 := by omega
        rw [HF.out] at HL
        have HX : Aside (mendP A name i = ((wrote, 0), A')) := ⟨by rw [← HL.out]; rfl⟩
        clear HL
        go_wp2
        go_ret2
        rw [HX.out]
        exact ⟨rfl, by have := HS.out; rw [HQE.out] at this; exact this.drop2.drop2⟩
end Go.Proofs.YtmjnnbnbdcadbaaGreatDoor
/- pair.Store of any generation; what Load and Get hand back, told alike whether they fail or not. -/
namespace Go.Proofs.YtmjnnbnbdcadbaaGreatDoor
open Go.RowKit HP
set_option linter.unusedSimpArgs false
set_option linter.unusedVariables false

def storeA (A : Dk) (name : ByteArray) (gen : Int) (l : List Int) : Int × Dk := if 0 ≤ gen ∧ gen ≤ 4611686018427387904 then storeP A name gen.toNat l else (1, A)
theorem Dk.Byt.storeA {A : Dk} (h : A.Byt) (x : ByteArray) (gen : Int) {l : List Int} (hb : Bytes l) : (storeA A x gen l).2.Byt := by
  unfold Go.Proofs.YtmjnnbnbdcadbaaGreatDoor.storeA
  split
  · exact h.storeP x _ hb
  · exact h
set_option maxHeartbeats 2000000 in
set_option maxRecDepth 100000 in
theorem pair_store_any (E : Env) (q : HP) (d : Nat) (A : Dk) (name : ByteArray) (gen : Int) (Ap : Option Addr) (l : List Int) (n c : Nat) (w : World) (hname : name.size + 2 ≤ maxLen) (hln : l.length = n) (hnc : n ≤ c) (hcm : c ≤ maxLen) (hn64 : n ≤ 140737488351232) (hl : Bytes l)
    (hq : ∀ w, Sat E w q → Quarter w ∧ Cells w Ap (b8s l)) (hw : Sat E w (HP.disk d A * q)) :
    Calls Tryz.prog 16 #[.pointer (some ⟨d, 0, none⟩), .string name, .int .i64 gen, .slice Ap n c] w fun e w' => e = .returned (.int .i64 (storeA A name gen l).1) ∧ Sat E w' (HP.disk d (storeA A name gen l).2 * q) := by
  by_cases hg : 0 ≤ gen ∧ gen ≤ 4611686018427387904
  · have HS : Aside (storeA A name gen l = storeP A name gen.toNat l) := ⟨by unfold storeA; rw [if_pos hg]⟩
    obtain ⟨g0, g1⟩ := hg
    obtain ⟨gen, rfl⟩ := Int.eq_ofNat_of_zero_le g0
    rw [HS.out, Int.toNat_natCast]
    exact pair_store E q d A name gen Ap l n c w hname g1 hln hnc hcm hn64 hl hq hw
  · have HS : Aside (storeA A name gen l = (1, A)) := ⟨by unfold storeA; rw [if_neg hg]⟩
    have HF : Aside (¬ FrameOk 0 gen 0) := ⟨fun h => hg ⟨h.2.2.1, h.2.2.2.1⟩⟩
    have HW := Aside.mk hw
    rw [HS.out]
    clear hg hq hw hl hln HS
    go_enter Tryz.func16, Tryz.ntmps16
    go_wp2_with fail
    refine (pair_none E q d A _ HW.out).mono ?_
    rintro e w1 ⟨rfl, k1⟩
    have K1 := Aside.mk k1
    clear k1 HW
    go_wp2_with fail
    refine (ext_frame_bad name 0 gen none 0 0 _ HF.out).mono ?_
    rintro e w2 ⟨rfl, hw2⟩
    subst w2
    go_wp2
    go_ret
    exact ⟨rfl, K1.out⟩
theorem ref_store_any (E : Env) (q : HP) (y : Nat) (A : Dk) (name : ByteArray) (gen : Int) (Ap : Option Addr) (l : List Int) (n c : Nat) (w : World) (hname : name.size + 2 ≤ maxLen) (hln : l.length = n) (hnc : n ≤ c) (hcm : c ≤ maxLen) (hn64 : n ≤ 140737488351232) (hl : Bytes l)
    (hq : ∀ w, Sat E w q → Cells w Ap (b8s l)) (hw : Sat E w (HP.rdisk y A * q)) :
    Calls Tryz.prog 17 #[.pointer (some ⟨y, 0, none⟩), .string name, .int .i64 gen, .slice Ap n c] w fun e w' => e = .returned (.int .i64 (storeA A name gen l).1) ∧ Sat E w' (HP.rdisk y (storeA A name gen l).2 * q) :=
  ref_storep E q y A name gen Ap l n c w hname hln hnc hcm hn64 hl hq hw
theorem loadG_byt {A : Dk} {name : ByteArray} {gen : Int} (hb : A.Byt) : ∀ (c i : Nat) (out l : List Int), Bytes out → loadG A name gen i c out = some l → Bytes l
  | 0, i, out, l, ho, h => by
    unfold loadG at h
    cases h; exact ho
  | c + 1, i, out, l, ho, h => by
    unfold loadG at h
    split at h
    · exact loadG_byt hb c (i + 1) _ l (ho.append (getP_byt fun f _ k hk => hb.reads f _ k hk)) h
    · cases h
theorem loadP_byt {A : Dk} (hb : A.Byt) (name : ByteArray) (gen : Int) : Bytes ((loadP A name gen).getD []) := by
  cases h : loadP A name gen with
  | none => exact fun x hx => by cases hx
  | some l =>
    unfold loadP at h
    split at h
    · cases h
    · exact loadG_byt hb _ _ _ l (fun x hx => by cases hx) h
theorem loadEnd_uni {E : Env} {q : HP} {r : Option (List Int)} {e : Ending} {w' : World} (h : loadEnd E q r e w') : ∃ (A : Option Addr) (n c : Nat) (X : HP), e = .returned (.tuple #[.slice A n c, .int .i64 (if r.isNone = true then 50 else 0)]) ∧ (r.getD []).length = n ∧ (∀ E w q', Sat E w (X * q') → Cells w A (b8s (r.getD []))) ∧ Sat E w' (X * q) := by
  unfold loadEnd at h
  cases r with
  | none => exact ⟨none, 0, 0, HP.emp, h.1, rfl, fun _ _ _ _ => Cells.nil _ _, h.2.emp_intro⟩
  | some l =>
    obtain ⟨v, h1, h2⟩ := h
    obtain ⟨A, c, rfl, -, -⟩ := h2.row_slice
    exact ⟨A, l.length, c, _, h1, rfl, fun _ _ _ h => h.row_cells, h2⟩
def gotL (st : Int × List Int) : List Int := if st.1 < 0 then [] else st.2
theorem gotL_byt {A : Dk} (hb : A.Byt) (name : ByteArray) (i : Int) : Bytes (gotL (getP A name i)) := by
  unfold gotL
  split
  · exact fun x hx => by cases hx
  · exact getP_byt fun f _ k hk => hb.reads f _ k hk
theorem getEnd_uni {E : Env} {q : HP} {st : Int × List Int} {e : Ending} {w' : World} {v : Value} (he : e = getEnd st v) (h : Sat E w' (HP.row 5 1 v st.2.length (b8s st.2) * q)) : ∃ (A : Option Addr) (n c : Nat) (X : HP), e = .returned (.tuple #[.slice A n c, .int .i64 (if st.1 < 0 then 0 else st.1), .int .i64 (if st.1 < 0 then 50 else 0)]) ∧ (gotL st).length = n ∧ (∀ E w q', Sat E w (X * q') → Cells w A (b8s (gotL st))) ∧ Sat E w' (X * q) := by
  unfold getEnd at he
  unfold gotL
  by_cases hn : st.1 < 0
  · rw [if_pos hn] at he
    rw [if_pos hn, if_pos hn, if_pos hn]
    exact ⟨none, 0, 0, HP.emp, he, rfl, fun _ _ _ _ => Cells.nil _ _, h.right.emp_intro⟩
  · rw [if_neg hn] at he
    rw [if_neg hn, if_neg hn, if_neg hn]
    obtain ⟨A, c, rfl, -, -⟩ := h.row_slice
    exact ⟨A, st.2.length, c, _, he, rfl, fun _ _ _ h => h.row_cells, h⟩
end Go.Proofs.YtmjnnbnbdcadbaaGreatDoor
/- bytes.Clone. -/
namespace Go.Proofs.YtmjnnbnbdcadbaaGreatDoor
open Go.RowKit HP
set_option linter.unusedSimpArgs false
set_option linter.unusedVariables false

set_option maxHeartbeats 1000000 in
set_option maxRecDepth 100000 in
theorem bytesClone_ok (E : Env) (q : HP) (A : Option Addr) (l : List Int) (n c : Nat) (w : World) (hn : l.length = n) (hl : n ≤ 140737488351232) (hw : Sat E w q) (hc : Cells w A (b8s l)) :
    Calls Tryz.prog 15 #[.slice A n c] w fun e w' => ∃ v, e = .returned v ∧ Sat E w' (HP.row 5 1 v n (b8s l) * q) := by
  go_enter Tryz.func15, Tryz.ntmps15
  cases A with
  | none =>
    have hl0 : l = [] := by
      cases l with
      | nil => rfl
      | cons x l => obtain ⟨a, ha, _⟩ := hc.at_ 0 (by simp [b8s]); cases ha
    subst hl0
    obtain rfl : n = 0 := by simpa using hn.symm
    have hnil := Lib.run_eql_slice_nil (P := Tryz.prog) w 34 5 none 0 c 0 0 Tryz.underlying34
    go_wp2
    go_ret
    exact ⟨_, rfl, hw.row_nil _ _ _⟩
  | some a =>
    have hil : (b8s l).length = n * 1 := by simp [b8s, hn]
    have hall : (b8s l).all Value.oneCell' = true := by simp [b8s, Value.oneCell']
    have HH := Aside.mk (And.intro hw (And.intro hc (And.intro hil hall)))
    clear hw hc hil hall hn
    have hnil := Lib.run_eql_slice_nil (P := Tryz.prog) w 34 5 (some a) n c 0 0 Tryz.underlying34
    go_wp2_with (at_builtin; refine wpList_append_row slB8 rfl rfl (by rfl) (by rfl) (((HH.out.1.alloc _).right).row_nil _ _ _) (HH.out.2.1.alloc _) HH.out.2.2.1 HH.out.2.2.2 (by unfold maxLen; omega) (by omega) (fun v4 w4 hw4 => ?_))
    go_ret
    refine ⟨_, rfl, ?_⟩
    simpa using hw4
end Go.Proofs.YtmjnnbnbdcadbaaGreatDoor
/- A law's arguments read, with the reach: no string, and no slice by its capacity, takes more bytes than a machine can address. -/
namespace Go.Proofs.YtmjnnbnbdcadbaaGreatDoor
open Go.ChangeShapes Go.WideShapes Go.ChangeAt Go.RowKit
set_option linter.unusedVariables false
set_option linter.unusedSimpArgs false

/-- As 'Rd.At'; and what z names is in reach. -/
def Rd.AtZ {α : Type} (r : Rd α) (z : α → List Nat) (P : Program) (t : TypeId) : Prop :=
  ∀ {H : Type} {enc : TypeId × Value → H} {W : World} {fuel : Nat} {cs : List Value} {x : DataW H × List MemPlace}, DataW.trod enc P W 0 (fun _ => true) true fuel t cs = some x → (∀ n ∈ x.1.weights P t, n ≤ reachBytes) → ∃ a, cs = r.cells a ∧ r.ok W a ∧ ∀ n ∈ z a, n ≤ reachBytes
section
variable {P : Program} {t : TypeId}
theorem Rd.At.toZ {α : Type} {r : Rd α} (h : r.At P t) : r.AtZ (fun _ => []) P t := by
  intro H enc W fuel cs x hx _
  obtain ⟨a, h1, h2⟩ := h hx
  exact ⟨a, h1, h2, fun n hn => by cases hn⟩
theorem rdStr_atZ (ht : P.underlying t = some .string) : rdStr.AtZ (fun s => [s.size]) P t := by
  intro H enc W fuel cs x h hz
  obtain ⟨n, rfl, rfl, hw⟩ := DataW.trod_string ht h
  refine ⟨n, rfl, hw, fun k hk => ?_⟩
  obtain rfl := List.mem_singleton.1 hk
  refine hz _ ?_
  simp [DataW.weights]
theorem weightsAll_mem {H : Type} {e : TypeId} {n : Nat} : ∀ {l : List (DataW H)} {d : DataW H}, d ∈ l → n ∈ d.weights P e → n ∈ DataW.weightsAll P e l
  | [], d, h, _ => by cases h
  | x :: l, d, h, hn => by
    simp only [DataW.weightsAll, List.mem_append]
    rcases List.mem_cons.1 h with rfl | h
    · exact .inl hn
    · exact .inr (weightsAll_mem h hn)
theorem weightsEach_mem {H : Type} {n : Nat} : ∀ {ts : List TypeId} {l : List (DataW H)} {i : Nat} {u : TypeId} {d : DataW H}, ts[i]? = some u → l[i]? = some d → n ∈ d.weights P u → n ∈ DataW.weightsEach P ts l
  | [], _, i, _, _, h, _, _ => by simp at h
  | _ :: _, [], i, _, _, _, h, _ => by simp at h
  | v :: ts, x :: l, 0, u, d, h1, h2, hn => by
    simp only [List.getElem?_cons_zero, Option.some.injEq] at h1 h2
    subst h1
    subst h2
    simp only [DataW.weightsEach, List.mem_append]
    exact .inl hn
  | v :: ts, x :: l, i + 1, u, d, h1, h2, hn => by
    simp only [DataW.weightsEach, List.mem_append]
    exact .inr (weightsEach_mem (by simpa using h1) (by simpa using h2) hn)
theorem rdSl_atZ {α : Type} {r : Rd α} {z : α → List Nat} {e : TypeId} {n b : Nat} (ht : P.underlying t = some (.slice e)) (hc : P.cellsOf e = n) (hb : P.bytesOf e = b) (hr : r.AtZ z P e) : (rdSl r).AtZ (fun s => s.cap * b :: s.l.flatMap z) P t := by
  intro H enc W fuel cs x h hz
  rcases Go.Deep.open_slice ht h with ⟨rfl, -⟩ | ⟨a, len, cap, m, n', D, Pl, rfl, -, hl, hm, hmm, rfl, hi⟩
  · refine ⟨⟨none, 0, []⟩, rfl, ⟨Nat.le_refl _, Nat.zero_le _, Cells.nil _ _, fun x hx => by cases hx⟩, fun k hk => ?_⟩
    simp at hk
    subst hk
    exact Nat.zero_le _
  · have hmc : m = cap := by rw [hmm]; simp
    have hml : len ≤ m := by omega
    have hw : ∀ k, k = m * b ∨ (∃ i, i < len ∧ k ∈ (D i).weights P e) → k ≤ reachBytes := by
      intro k hk
      refine hz k ?_
      simp only [DataW.weights, ht, List.mem_cons, List.mem_append]
      rcases hk with rfl | ⟨i, hil, hk⟩
      · refine .inl ?_
        rw [List.length_map, List.length_range, List.length_map, List.length_range, hb]
        congr 1
        omega
      · exact .inr (.inl (weightsAll_mem (List.mem_map.2 ⟨i, List.mem_range.2 hil, rfl⟩) hk))
    obtain ⟨l, hll, hp⟩ := choose_list len (fun i x => (r.ok W x ∧ W.cells? 0 (a.add (i * n)) n = some (r.cells x)) ∧ ∀ k ∈ z x, k ≤ reachBytes) fun i hil => by
      obtain ⟨cs', h1, h2⟩ := hi i (by omega)
      obtain ⟨x, rfl, hx, hzx⟩ := hr h2 (fun k hk => hw k (.inr ⟨i, hil, hk⟩))
      rw [hc] at h1
      exact ⟨x, ⟨hx, h1⟩, hzx⟩
    have hlen : ∀ x ∈ l, (r.cells x).length = n := fun x hx => by
      obtain ⟨i, hi'⟩ := List.getElem?_of_mem hx
      exact (World.cells?_some (hp i x hi').1.2).2.1
    refine ⟨⟨some a, cap, l⟩, by simp [rdSl, Sl.val, hll], ⟨by simpa [hll] using hl, hm, fun j u hj => ⟨a, rfl, ?_⟩, fun x hx => ?_⟩, fun k hk => ?_⟩
    · obtain ⟨i, k, x, h1, h2, h3, h4⟩ := flat_at r.cells n l hlen j u hj
      have h5 := (World.cells?_some (hp i x h1).1.2).2.2 k h2
      rw [h4, Cells.add_add] at h5
      rw [h3]; exact h5
    · obtain ⟨i, hi'⟩ := List.getElem?_of_mem hx
      exact (hp i x hi').1.1
    · rcases List.mem_cons.1 hk with rfl | hk
      · exact hw _ (.inl (by rw [hmc]))
      · obtain ⟨x, hx, hkx⟩ := List.mem_flatMap.1 hk
        obtain ⟨i, hi'⟩ := List.getElem?_of_mem hx
        exact (hp i x hi').2 k hkx
def Rd.FsZ {α : Type} (r : Rd α) (z : α → List Nat) (P : Program) (fs : List Field) (off total : Nat) : Prop :=
  ∀ {H : Type} {enc : TypeId × Value → H} {W : World} {n : Nat} {cs : List Value}, (∀ f ∈ fs, ∃ y, DataW.trod enc P W 0 (fun _ => true) true n f.type ((cs.drop f.offset).take (P.cellsOf f.type)) = some y ∧ ∀ k ∈ y.1.weights P f.type, k ≤ reachBytes) → off + total = cs.length →
    ∃ a, cs.drop off = r.cells a ∧ r.ok W a ∧ ∀ n ∈ z a, n ≤ reachBytes
theorem rdEnd_fsZ (off : Nat) : rdEnd.FsZ (fun _ => []) P [] off 0 := by
  intro H enc W n cs _ h
  exact ⟨(), by simp [rdEnd]; omega, trivial, fun n hn => by cases hn⟩
theorem rdPair_fsZ {α β : Type} {r : Rd α} {s : Rd β} {zr : α → List Nat} {zs : β → List Nat} {f : Field} {fs : List Field} {off size total : Nat} (hoff : f.offset = off) (hsz : P.cellsOf f.type = size) (hr : r.AtZ zr P f.type) (hs : s.FsZ zs P fs (off + size) total) : (rdPair r s).FsZ (fun x => zr x.1 ++ zs x.2) P (f :: fs) off (size + total) := by
  intro H enc W n cs h hl
  obtain ⟨y, hy, hyz⟩ := h f (by simp)
  obtain ⟨a, ha, hoa, hza⟩ := hr hy hyz
  obtain ⟨b, hb, hob, hzb⟩ := hs (fun g hg => h g (by simp [hg])) (by omega)
  refine ⟨(a, b), ?_, ⟨hoa, hob⟩, fun k hk => ?_⟩
  · show cs.drop off = r.cells a ++ s.cells b
    rw [← ha, ← hb, hoff, hsz, ← List.drop_drop, List.take_append_drop]
  · rcases List.mem_append.1 hk with hk | hk
    · exact hza k hk
    · exact hzb k hk
theorem rdStruct_atZ {α β : Type} {r : Rd α} {z : α → List Nat} {fs : Array Field} {total : Nat} (ht : P.underlying t = some (.struct fs)) (hc : P.cellsOf t = total) (hr : r.FsZ z P fs.toList 0 total) (f : α → β) (g : β → α) (hg : ∀ a, g (f a) = a) : (rdMap r f g hg).AtZ (fun b => z (g b)) P t := by
  intro H enc W fuel cs x h hz
  obtain ⟨xs, n, -, rfl, hl, hxl, hf⟩ := DataW.trod_struct ht h
  obtain ⟨a, ha, hoa, hza⟩ := hr (W := W) (n := n) (cs := cs) (fun fd hfd => by
    obtain ⟨i, hi⟩ := List.getElem?_of_mem hfd
    have hi' : fs[i]? = some fd := by simpa using hi
    have h1 := hf i fd hi'
    have hlt : i < xs.length := by rw [hxl]; exact (Array.getElem?_eq_some_iff.1 hi').1
    rw [List.getElem?_eq_getElem hlt] at h1
    refine ⟨_, h1, fun k hk => hz k ?_⟩
    simp only [DataW.weights, ht]
    exact weightsEach_mem (i := i) (u := fd.type) (d := xs[i].1) (by rw [List.getElem?_map, hi]; rfl) (by rw [List.getElem?_map, List.getElem?_eq_getElem hlt]; rfl) hk) (by omega)
  refine ⟨f a, ?_, ?_, ?_⟩
  · show cs = r.cells (g (f a))
    rw [hg, ← ha, List.drop_zero]
  · show r.ok W (g (f a))
    rw [hg]; exact hoa
  · show ∀ n ∈ z (g (f a)), n ≤ reachBytes
    rw [hg]; exact hza
theorem sl_argZ {α : Type} {r : Rd α} {z : Sl α → List Nat} {e : TypeId} {base : Nat} (ht : P.underlying t = some (.slice e)) (hr : (rdSl r).AtZ z P t) {H : Type} {enc : TypeId × Value → H} {W : World} {v : Value} {d0 : DataW H} {p : List MemPlace} (hv : Value.okWide P W .any base t v) (h0 : DataW.Trod enc P W 0 (fun _ => true) true t v d0 p) (hz : ∀ n ∈ d0.weights P t, n ≤ reachBytes) : ∃ s : Sl α, v = s.val ∧ (rdSl r).ok W s ∧ ∀ n ∈ z s, n ≤ reachBytes := by
  obtain ⟨a0, len, cap, rfl⟩ := okWide_slice ht hv
  obtain ⟨fuel, hf⟩ := h0
  obtain ⟨s, hs, ho, hzs⟩ := hr hf hz
  refine ⟨s, ?_, ho, hzs⟩
  have : [Value.slice a0 len cap] = [s.val] := hs
  simpa using this
end
end Go.Proofs.YtmjnnbnbdcadbaaGreatDoor
