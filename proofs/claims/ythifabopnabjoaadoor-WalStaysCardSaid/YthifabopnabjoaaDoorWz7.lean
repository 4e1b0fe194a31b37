/- Texts of one claim, one behind the other: WalW, WalQ, WalR, WalK, WalNeW, WalX, WalNoW, AppZ, WalCuW. -/
import Derived.Test.YthifabopnabjoaaDoorWz6
import Derived.Lib.SlBytesConst
import Derived.Lib.AppendZerosOnto
import Derived.Lib.SliceRun
/- wal.Append. -/
namespace Go.Proofs.YthifabopnabjoaaDoor
open Go.RowKit HP
set_option linter.unusedSimpArgs false
set_option linter.unusedVariables false

theorem appendW_bad {A : Dk} {seg at_ lsn : Int} {b : List Int} (h : ¬ AppOk seg at_ lsn (wneedI b.length)) : appendW A seg at_ lsn b = ((0, 1), A) := by
  unfold appendW
  rw [if_neg h]
set_option maxHeartbeats 4000000 in
set_option maxRecDepth 100000 in
theorem wal_append (E : Env) (q : HP) (d : Nat) (A : Dk) (seg at_ lsn : Int) (Ap : Option Addr) (b : List Int) (n c : Nat) (w : World) (hs : wf64 seg) (ha : wf64 at_) (hl : wf64 lsn) (hbn : b.length = n) (hnc : n ≤ c) (hcm : c ≤ maxLen) (hb : Bytes b)
    (hq : ∀ w, Sat E w q → Quarter w ∧ Lib.TabIs Tryd.prog w "internal/strconv.uint64pow10" .u64 Lib.pow10Tab ∧ Cells w Ap (b8s b)) (hw : Sat E w (HP.disk d A * q)) :
    Calls Tryd.prog 8 #[.pointer (some ⟨d, 0, none⟩), .int .i64 seg, .int .i64 at_, .int .i64 lsn, .slice Ap n c] w fun e w' => e = .returned (.tuple #[.int .i64 (appendW A seg at_ lsn b).1.1, .int .i64 (appendW A seg at_ lsn b).1.2]) ∧ Sat E w' (HP.disk d (appendW A seg at_ lsn b).2 * q) := by
  have hn64 : wf64 (n : Int) := by unfold wf64 maxLen at *; omega
  have HQ := Aside.mk (And.intro hq (And.intro hw (And.intro hbn (And.intro hb hn64))))
  have HSZ := Aside.mk (nameW_size hs)
  have H64 := Aside.mk hs
  unfold wf64 at hs ha hl
  obtain ⟨N, hN⟩ : ∃ N, N = wneedI n := ⟨_, rfl⟩
  have HN := Aside.mk hN
  have hN0 : 0 ≤ N ∧ N ≤ 10000 := by rw [hN]; unfold wneedI; split <;> omega
  have HBAD : Aside (¬ AppOk seg at_ lsn N → appendW A seg at_ lsn b = ((0, 1), A)) := ⟨fun h => appendW_bad (by rw [hbn, ← hN]; exact h)⟩
  have HOK : Aside (AppOk seg at_ lsn N → appendW A seg at_ lsn b = (if (wrP A (nameW seg) at_.toNat lsn.toNat (piecesW (textW b))).1 = 0 then (N, 0) else (0, (wrP A (nameW seg) at_.toNat lsn.toNat (piecesW (textW b))).1), (wrP A (nameW seg) at_.toNat lsn.toNat (piecesW (textW b))).2)) := ⟨fun h => by
    unfold appendW
    rw [hbn, ← hN, if_pos h]⟩
  have HCH : Aside (N ≠ 0 → 1 ≤ n ∧ n ≤ 1000000 ∧ N = (chunkW (n + 4) : Int)) := ⟨fun h => by
    have h1 : 1 ≤ n ∧ n ≤ 1000000 := by
      rw [hN] at h
      unfold wneedI at h
      split at h
      · exact absurd rfl h
      · omega
    exact ⟨h1.1, h1.2, by rw [hN]; exact wneed_chunk h1.1 h1.2⟩⟩
  clear hq hw hbn hb hN hn64 hcm
  go_enter Tryd.func8, Tryd.ntmps8
  go_wp2_with fail
  refine (wal_need n _ HQ.out.2.2.2.2).mono ?_
  rintro e w0 ⟨rfl, hw0⟩
  subst w0
  rw [← HN.out]
  go_wp2_with fail
  refine (disk_asked E q d A _ HQ.out.2.1).mono ?_
  rintro e w1 ⟨rfl, h1⟩
  have H1 := Aside.mk h1
  clear h1
  by_cases g0 : N = 0
  · subst g0
    have HX : Aside (appendW A seg at_ lsn b = ((0, 1), A)) := ⟨HBAD.out (fun h => by obtain ⟨a1, a2, a3, a4, a5, a6, a7⟩ := h; omega)⟩
    go_wp2
    all_goals (go_ret2; rw [HX.out]; exact ⟨rfl, H1.out⟩)
  by_cases g1 : seg < 0
  · have HX : Aside (appendW A seg at_ lsn b = ((0, 1), A)) := ⟨HBAD.out (fun h => by obtain ⟨a1, a2, a3, a4, a5, a6, a7⟩ := h; omega)⟩
    go_wp2
    all_goals (go_ret2; rw [HX.out]; exact ⟨rfl, H1.out⟩)
  by_cases g2 : 4611686018427387904 < seg
  · have HX : Aside (appendW A seg at_ lsn b = ((0, 1), A)) := ⟨HBAD.out (fun h => by obtain ⟨a1, a2, a3, a4, a5, a6, a7⟩ := h; omega)⟩
    go_wp2
    all_goals (go_ret2; rw [HX.out]; exact ⟨rfl, H1.out⟩)
  by_cases g3 : lsn < 0
  · have HX : Aside (appendW A seg at_ lsn b = ((0, 1), A)) := ⟨HBAD.out (fun h => by obtain ⟨a1, a2, a3, a4, a5, a6, a7⟩ := h; omega)⟩
    go_wp2
    all_goals (go_ret2; rw [HX.out]; exact ⟨rfl, H1.out⟩)
  by_cases g4 : 4611686018427387904 < lsn
  · have HX : Aside (appendW A seg at_ lsn b = ((0, 1), A)) := ⟨HBAD.out (fun h => by obtain ⟨a1, a2, a3, a4, a5, a6, a7⟩ := h; omega)⟩
    go_wp2
    all_goals (go_ret2; rw [HX.out]; exact ⟨rfl, H1.out⟩)
  by_cases g5 : at_ < 0
  · have HX : Aside (appendW A seg at_ lsn b = ((0, 1), A)) := ⟨HBAD.out (fun h => by obtain ⟨a1, a2, a3, a4, a5, a6, a7⟩ := h; omega)⟩
    go_wp2
    all_goals (go_ret2; rw [HX.out]; exact ⟨rfl, H1.out⟩)
  by_cases g6 : 2147483647 - N < at_
  · have HX : Aside (appendW A seg at_ lsn b = ((0, 1), A)) := ⟨HBAD.out (fun h => by obtain ⟨a1, a2, a3, a4, a5, a6, a7⟩ := h; omega)⟩
    go_wp2
    all_goals (go_ret2; rw [HX.out]; exact ⟨rfl, H1.out⟩)
  have hok : AppOk seg at_ lsn N := ⟨g0, by omega, by omega, by omega, by omega, by omega, by omega⟩
  have HX0 := Aside.mk (HOK.out hok)
  obtain ⟨n1, n2, hNc⟩ := HCH.out g0
  obtain ⟨K, hK⟩ : ∃ K, K = chunkW (n + 4) := ⟨_, rfl⟩
  rw [← hK] at hNc
  subst hNc
  obtain ⟨at1, rfl⟩ : ∃ at1 : Nat, at_ = (at1 : Int) := ⟨at_.toNat, by omega⟩
  obtain ⟨gen, rfl⟩ : ∃ gen : Nat, lsn = (gen : Int) := ⟨lsn.toNat, by omega⟩
  rw [Int.toNat_natCast, Int.toNat_natCast] at HX0
  have hKb : ((K : Int) == 0) = false := by rw [beq_eq_false_iff_ne]; exact g0
  have HK := Aside.mk hK
  have hwn : IntKind.u64.wrap (n : Int) = (n : Int) := by rw [IntKind.wrap_u64]; omega
  clear hok hK HBAD HOK HCH HN
  go_wp2_with fail
  refine (crc_put E _ n 4 _ (by omega) (by omega) H1.out).mono ?_
  rintro e w2 ⟨gp, rfl, h2⟩
  have h3 := h2.alloc (.cells #[.slice (some ⟨gp, 0, none⟩) 4 4, .slice Ap n c] 22)
  have H3 := Aside.mk h3
  have HQ3 : Aside (∀ w', Sat E w' (HP.row 5 1 (.slice (some ⟨gp, 0, none⟩) 4 4) 4 (b8s (putI n 4)) * (HP.disk d A * q)) → Cells w' (some ⟨gp, 0, none⟩) (b8s (putI n 4)) ∧ Cells w' Ap (b8s b)) := ⟨fun w' h => ⟨h.row_cells, (HQ.out.1 _ h.right.right).2.2⟩⟩
  clear h2 h3
  go_wp2_with fail
  refine (joined_ok E _ w2.heap.size (some ⟨gp, 0, none⟩) Ap (putI n 4) b 4 n 4 c _ (putI_length _ _) HQ.out.2.2.1 (by omega) (by omega) (by omega) HQ3.out H3.out).mono ?_
  rintro e w3 ⟨AT, cT, rfl, hcT, hmT, h4⟩
  have e4 : putI n 4 ++ b = textW b := by unfold textW; rw [HQ.out.2.2.1]
  rw [e4] at h4
  clear e4 H3 HQ3
  have htl : (textW b).length = 4 + n := by rw [textW_length, HQ.out.2.2.1]; omega
  obtain ⟨T, hT⟩ : ∃ T, T = textW b := ⟨_, rfl⟩
  have htb : Bytes T := by rw [hT]; exact textW_bytes HQ.out.2.2.2.1
  rw [← hT] at htl h4 HX0
  have HT := Aside.mk hT
  clear hT
  have hcl := h4.row_cells
  obtain ⟨a0, rfl, -⟩ := hcl.at_ 0 (by rw [b8s_length, htl]; omega)
  obtain ⟨gT, oT, rfl⟩ := slice_addr hcl rfl (k := 0) (by rw [b8s_length, htl]; omega)
  obtain ⟨L, hL⟩ : ∃ L, L = 4 + n := ⟨_, rfl⟩
  rw [← hL] at h4 htl hcT ⊢
  have HLL := Aside.mk hL
  clear hL
  have hQ2 : ∀ w', Sat E w' (HP.row 5 1 (.slice (some ⟨gT, oT, none⟩) L cT) L (b8s T) * q) → Quarter w' ∧ Lib.TabIs Tryd.prog w' "internal/strconv.uint64pow10" .u64 Lib.pow10Tab ∧ Cells w' (some ⟨gT, oT, none⟩) (b8s T) ∧ Sat E w' q := fun w' h => by
    have := HQ.out.1 _ h.right
    exact ⟨this.1, this.2.1, h.row_cells, h.right⟩
  have h5 : Sat E w3 (HP.disk d A * (HP.row 5 1 (.slice (some ⟨gT, oT, none⟩) L cT) L (b8s T) * q)) := h4.drop2.s2
  have HQ2 := Aside.mk (And.intro hQ2 (And.intro htb htl))
  have H5 := Aside.mk h5
  clear h4 h5 hQ2 htb htl hcl H1
  go_wp2_with fail
  refine (wal_name E _ seg _ H64.out (fun w' h => (HQ2.out.1 _ h.right).2.1) H5.out).mono ?_
  rintro e w4 ⟨rfl, h6⟩
  obtain ⟨name, hname⟩ : ∃ name, name = nameW seg := ⟨_, rfl⟩
  have hsz : name.size + 2 ≤ maxLen := by rw [hname]; have := HSZ.out; unfold maxLen; omega
  rw [← hname] at HX0 ⊢
  clear hname
  have hfa : (name ++ dotA).size ≤ maxLen := by rw [dotA_size]; exact hsz
  have hfb : (name ++ dotB).size ≤ maxLen := by rw [dotB_size]; exact hsz
  have HF : Aside (halvesL name = [name ++ dotA, name ++ dotB]) := ⟨rfl⟩
  have H6 := Aside.mk h6
  clear h6 H5
  go_wp2_with fail
  refine (wal_files E _ name _ hsz H6.out).mono ?_
  rintro e w5 ⟨rfl, h7⟩
  obtain ⟨fa, hfae⟩ : ∃ fa, fa = name ++ dotA := ⟨_, rfl⟩
  obtain ⟨fb, hfbe⟩ : ∃ fb, fb = name ++ dotB := ⟨_, rfl⟩
  rw [← hfae] at hfa HF ⊢
  rw [← hfbe] at hfb HF ⊢
  clear hfae hfbe hsz
  have H7 := Aside.mk h7
  clear h7 H6
  obtain ⟨ps, hps⟩ : ∃ ps, ps = piecesW T := ⟨_, rfl⟩
  rw [← hps] at HX0
  have HPS := Aside.mk (And.intro hps (And.intro HK.out HLL.out))
  clear hps HLL
  have HR : Aside (wrP A name at1 gen ps = wrL A at1 gen ps (halvesL name)) := ⟨rfl⟩
  have i0 : ∀ w, (Instr.index 55 (.agg #[.string fa, .string fb]) (.int .i64 0)).run Tryd.prog w = .ok (.string fa) w := fun w => by kernel_rfl
  have i1 : ∀ w, (Instr.index 55 (.agg #[.string fa, .string fb]) (.int .i64 1)).run Tryd.prog w = .ok (.string fb) w := fun w => by kernel_rfl
  have hL6 : L ≤ 1000004 := by have := HPS.out.2.2; omega
  have hLK : 106 * K ≤ L + 105 ∧ L ≤ 106 * K := by have := HPS.out.2.1; have := HPS.out.2.2; unfold chunkW at *; omega
  have hatK : (at1 : Int) + K ≤ 2147483647 := by omega
  have hgen : (gen : Int) ≤ 4611686018427387904 := by omega
  clear g0 g1 g2 g3 g4 g5 g6 hN0 n1 n2 hs ha hl
  go_wp2
  go_loopw [67] (fun v67 wr => ∃ (h : Nat) (A' : Dk), h ≤ 2 ∧ v67 = .int .i64 h ∧ Aside (wrL A' at1 gen ps ((halvesL name).drop h) = wrP A name at1 gen ps) ∧ Aside (Sat E wr (HP.disk d A' * (HP.row 5 1 (.slice (some ⟨gT, oT, none⟩) L cT) L (b8s T) * q)))) (fun i _ => 2 - (intOf i).toNat)
  case atStart => exact ⟨0, A, by omega, rfl, ⟨by rw [HR.out]; rfl⟩, H7⟩
  case round =>
    obtain ⟨h, A', hh, rfl, HA, HS⟩ := hrel
    by_cases hlt : h < 2
    · obtain ⟨f, hf, hff, hix⟩ : ∃ f : ByteArray, f.size ≤ maxLen ∧ (halvesL name).drop h = f :: (halvesL name).drop (h + 1) ∧ ∀ w, (Instr.index 55 (.agg #[.string fa, .string fb]) (.int .i64 (h : Int))).run Tryd.prog w = .ok (.string f) w := by
        rw [HF.out]
        rcases Nat.lt_or_ge h 1 with h0 | h0
        · obtain rfl : h = 0 := by omega
          exact ⟨fa, hfa, rfl, i0⟩
        · obtain rfl : h = 1 := by omega
          exact ⟨fb, hfb, rfl, i1⟩
      rw [hff] at HA
      clear hff
      have hlt2 : (h : Int) < 2 := by omega
      have HW : Aside (wrL A' at1 gen ps (f :: (halvesL name).drop (h + 1)) = if (wrF A' f gen at1 ps).1 = 0 then wrL (wrF A' f gen at1 ps).2 at1 gen ps ((halvesL name).drop (h + 1)) else wrF A' f gen at1 ps) := ⟨rfl⟩
      go_wp2
      go_loopw [71] (fun v71 w2 => ∃ (k : Nat) (B : Dk), k ≤ K ∧ v71 = .int .i64 k ∧ Aside (wrF B f gen (at1 + k) (ps.drop k) = wrF A' f gen at1 ps) ∧ Aside (Sat E w2 (HP.disk d B * (HP.row 5 1 (.slice (some ⟨gT, oT, none⟩) L cT) L (b8s T) * q)))) (fun i _ => K - (intOf i).toNat)
      case atStart => exact ⟨0, A', by omega, rfl, ⟨by rw [Nat.add_zero]; rfl⟩, HS⟩
      case round =>
        obtain ⟨k, B, hk, rfl, HB, HTT⟩ := hrel
        by_cases hkn : k < K
        · have hpk : ps.drop k = pieceW T k :: ps.drop (k + 1) := by
            rw [HPS.out.1]
            have hl : k < (piecesW T).length := by rw [piecesW_length, HQ2.out.2.2, HPS.out.2.2, Nat.add_comm 4 n, ← HPS.out.2.1]; exact hkn
            rw [List.drop_eq_getElem_cons hl]
            congr 1
            have := piecesW_at (l := T) (k := k) (by rw [← piecesW_length]; exact hl)
            rw [List.getElem?_eq_getElem hl] at this
            exact Option.some.inj this
          rw [hpk] at HB
          clear hpk
          obtain ⟨j, hj⟩ : ∃ j, j = 106 * k := ⟨_, rfl⟩
          obtain ⟨m, hm⟩ : ∃ m, m = min (j + 106) L := ⟨_, rfl⟩
          have x1 : (k : Int) * 106 = (j : Int) := by omega
          obtain ⟨j2, hj2⟩ : ∃ j2, j2 = j + 106 := ⟨_, rfl⟩
          have x2 : ((k : Int) + 1) * 106 = (j2 : Int) := by omega
          have x3 : (if (L : Int) < (j2 : Int) then (L : Int) else (j2 : Int)) = (m : Int) := by split <;> omega
          have x4 : min (j2 : Int) (L : Int) = (m : Int) := by omega
          have x5 : j ≤ m := by omega
          have x6 : m ≤ cT := by omega
          have x7 : m - j ≤ 106 := by omega
          have x8 : j < cT := by omega
          have hkn2 : (k : Int) < K := by omega
          obtain ⟨p, hp⟩ : ∃ p, p = pieceW T k := ⟨_, rfl⟩
          have hpl : p.length = m - j := by rw [hp, pieceW_length, HQ2.out.2.2]; omega
          have hpb : Bytes p := fun y hy => by rw [hp] at hy; exact HQ2.out.2.1 y (List.mem_of_mem_drop (List.mem_of_mem_take hy))
          have hpc : ∀ w', Sat E w' (HP.disk d B * (HP.row 5 1 (.slice (some ⟨gT, oT, none⟩) L cT) L (b8s T) * q)) → Quarter w' ∧ Cells w' (some ⟨gT, oT + j, none⟩) (b8s p) := fun w' h => by
            have h2 := HQ2.out.1 _ h.right
            refine ⟨h2.1, ?_⟩
            have h3 := (h2.2.2.1.drop j).take 106
            rw [addr_add] at h3
            rw [hp, hj] at *
            unfold pieceW
            unfold b8s at h3 ⊢
            rw [List.map_take, List.map_drop]
            exact h3
          rw [← hp] at HB
          have HP2 := Aside.mk (And.intro hpl (And.intro hpb hpc))
          clear hp hpl hpb hpc hm hj hj2
          have HN2 : Aside (wrF B f gen (at1 + k) (p :: ps.drop (k + 1)) = if ¬ FrameOk ((at1 + k : Nat) : Int) gen p.length then (1, B)
            else if (B.write f ((at1 + k : Nat) : Int) (extI f (at1 + k) gen p)).1 = 0 then wrF (B.write f ((at1 + k : Nat) : Int) (extI f (at1 + k) gen p)).2 f gen (at1 + k + 1) (ps.drop (k + 1))
            else B.write f ((at1 + k : Nat) : Int) (extI f (at1 + k) gen p)) := ⟨rfl⟩
          rw [HB.out] at HN2
          obtain ⟨i, hi⟩ : ∃ i : Nat, (at1 : Int) + k = i := ⟨at1 + k, by omega⟩
          have hi2 : at1 + k = i := by omega
          have hi3 : (i : Int) ≤ 2147483647 := by omega
          rw [hi2] at HN2
          rw [if_neg (by
            intro hn
            exact hn ⟨by omega, hi3, by omega, hgen, by rw [HP2.out.1]; exact x7⟩)] at HN2
          go_wp2_with fail
          refine (ext_frame E (HP.disk d B * (HP.row 5 1 (.slice (some ⟨gT, oT, none⟩) L cT) L (b8s T) * q)) f i gen (some ⟨gT, oT + j, none⟩) p (m - j) (cT - j) _ hf hi3 hgen HP2.out.1 x7 HP2.out.2.1 HP2.out.2.2 HTT.out).mono ?_
          rintro e w3 ⟨gI, rfl, h3⟩
          have hIl : (extI f i gen p).length = 128 := extI_length (by rw [HP2.out.1]; exact x7)
          obtain ⟨I, hIe⟩ : ∃ I, I = extI f i gen p := ⟨_, rfl⟩
          rw [← hIe] at hIl h3 HN2
          clear hIe
          have H3 := Aside.mk (And.intro h3 hIl)
          clear h3 hIl HP2
          go_wp2_with fail
          refine (disk_write E (HP.pt gI (.cells (b8s I).toArray 83) * (HP.row 5 1 (.slice (some ⟨gT, oT, none⟩) L cT) L (b8s T) * q)) d B f i (some ⟨gI, 0, none⟩) I 128 128 _ hf H3.out.2 (by unfold maxLen; omega) (fun w h => Sat.ptCells (off := 0) h (by rw [List.drop_zero, List.take_length])) H3.out.1.s2).mono ?_
          rintro e w4 ⟨rfl, h4⟩
          have H4 := Aside.mk h4.drop2
          clear h4 H3
          by_cases h0 : (B.write f (i : Int) I).1 = 0
          · rw [h0]
            rw [if_pos h0] at HN2
            generalize (B.write f (i : Int) I).2 = B2 at *
            have HX : Aside (wrF B2 f gen (at1 + (k + 1)) (ps.drop (k + 1)) = wrF A' f gen at1 ps) := ⟨by rw [HN2.out, show at1 + (k + 1) = i + 1 by omega]⟩
            clear HN2 h0 HB
            go_wp2
            go_roundw
            case rel => exact ⟨k + 1, B2, by omega, by push_cast; rfl, HX, H4⟩
            case measure => simp [intOf]; omega
          · rw [if_neg h0] at HN2
            have HX : Aside (wrP A name at1 gen ps = B.write f (i : Int) I) := ⟨by rw [← HA.out, HW.out, HN2.out, if_neg h0]⟩
            obtain ⟨ec, hec⟩ : ∃ ec, ec = (B.write f (i : Int) I).1 := ⟨_, rfl⟩
            rw [← hec] at h0 ⊢
            have HE := Aside.mk (And.intro hec h0)
            clear HN2 hec HB HA HW
            go_wp2
            go_ret2
            rw [HX0.out, HX.out, ← HE.out.1, if_neg HE.out.2]
            exact ⟨rfl, H4.out.drop2⟩
        · have hkn' : k = K := by omega
          subst hkn'
          have hpl : ps.drop k = [] := by rw [HPS.out.1]; exact List.drop_eq_nil_of_le (by rw [piecesW_length, HQ2.out.2.2, HPS.out.2.2, Nat.add_comm 4 n, ← HPS.out.2.1]; exact Nat.le_refl _)
          rw [hpl] at HB
          clear hpl
          have HB2 : Aside (wrF A' f gen at1 ps = B.sync f) := ⟨by rw [← HB.out]; rfl⟩
          clear HB hix i0 i1
          rw [HB2.out] at HW
          go_wp2_with fail
          refine (disk_sync E (HP.row 5 1 (.slice (some ⟨gT, oT, none⟩) L cT) L (b8s T) * q) d B f _ hf HTT.out).mono ?_
          rintro e w4 ⟨rfl, h4⟩
          have H4 := Aside.mk h4
          clear h4
          by_cases h0 : (B.sync f).1 = 0
          · rw [h0]
            rw [if_pos h0] at HW
            have HX : Aside (wrL (B.sync f).2 at1 gen ps ((halvesL name).drop (h + 1)) = wrP A name at1 gen ps) := ⟨by rw [← HW.out, HA.out]⟩
            generalize (B.sync f).2 = B2 at *
            clear HW HA HB2 h0
            go_wp2
            go_roundw
            case rel => exact ⟨h + 1, B2, by omega, by push_cast; rfl, HX, H4⟩
            case measure => simp [intOf]; omega
          · rw [if_neg h0] at HW
            have HX : Aside (wrP A name at1 gen ps = B.sync f) := ⟨by rw [← HA.out, HW.out]⟩
            obtain ⟨ec, hec⟩ : ∃ ec, ec = (B.sync f).1 := ⟨_, rfl⟩
            rw [← hec] at h0 ⊢
            have HE := Aside.mk (And.intro hec h0)
            clear hec HB2 HA HW
            go_wp2
            go_ret2
            rw [HX0.out, HX.out, ← HE.out.1, if_neg HE.out.2]
            exact ⟨rfl, H4.out.drop2⟩
    · have hh2 : h = 2 := by omega
      subst hh2
      rw [HF.out] at HA
      have HX : Aside (wrP A name at1 gen ps = (0, A')) := ⟨by rw [← HA.out]; rfl⟩
      clear HA i0 i1
      go_wp2
      go_ret2
      rw [HX0.out, HX.out, if_pos rfl]
      exact ⟨rfl, HS.out.drop2⟩
end Go.Proofs.YthifabopnabjoaaDoor
/- wal, the plain part: records on a new disk. -/
namespace Go.Proofs.YthifabopnabjoaaDoor
open Go.RowKit HP
set_option linter.unusedSimpArgs false
set_option linter.unusedVariables false

structure NewHas (room : Int) (x : ByteArray) (gen : Nat) (ps : List (List Int)) (B : Dk) : Prop where
  eq : wrP (Dk.new room) x 0 gen ps = (0, B)
  held : Holds B x gen ps
  has : HasBoth B x 0 gen ps
  free : B.free = room - 2 * ps.length
  fuse : B.fuse = -1
  sorted : Sorted B.files
  bytes : ∀ f ∈ halvesL x, ∀ i c, B.cel f i = some c → Bytes c.read
theorem holds_bytes {B : Dk} {x : ByteArray} {gen : Nat} {ps : List (List Int)} (h : Holds B x gen ps) (hl : ∀ p ∈ ps, p.length ≤ 106) (hb : ∀ p ∈ ps, Bytes p) : ∀ f ∈ halvesL x, ∀ i c, B.cel f i = some c → Bytes c.read := by
  have key : ∀ f, B.at f = (newCels f gen 0 ps).map Cel.syncd → ∀ i c, B.cel f i = some c → Bytes c.read := by
    intro f hf i c hc
    have hc2 := hc
    unfold Dk.cel at hc
    split at hc
    · rename_i h0
      rw [hf, List.getElem?_map] at hc
      have hlt : i.toNat < ps.length := by
        refine Nat.lt_of_not_le fun hn => ?_
        rw [List.getElem?_eq_none (by rw [newCels_length]; omega)] at hc
        cases hc
      have hg := held_cel (k := i.toNat) hf (List.getElem?_eq_getElem hlt)
      rw [show ((i.toNat : Nat) : Int) = i by omega, hc2] at hg
      cases hg
      exact extI_bytes (hl _ (List.getElem_mem hlt)) (hb _ (List.getElem_mem hlt))
    · cases hc
  intro f hf
  rcases List.mem_cons.1 hf with rfl | hf
  · exact key _ h.a
  · rcases List.mem_cons.1 hf with rfl | hf
    · exact key _ h.b
    · cases hf
theorem holds_has {B : Dk} {x : ByteArray} {gen : Nat} {ps : List (List Int)} (h : Holds B x gen ps) : HasBoth B x 0 gen ps :=
  ⟨fun k p hp => ⟨_, by rw [Nat.zero_add]; exact held_cel h.a hp, by rw [Nat.zero_add]; rfl⟩, fun k p hp => ⟨_, by rw [Nat.zero_add]; exact held_cel h.b hp, by rw [Nat.zero_add]; rfl⟩⟩
theorem cel_past {B : Dk} {f : ByteArray} {k : Nat} (h : (B.at f).length ≤ k) : B.cel f k = none := by
  unfold Dk.cel
  rw [if_pos (by omega), Int.toNat_natCast, List.getElem?_eq_none h]
theorem holds_past {B : Dk} {x : ByteArray} {gen k : Nat} {ps : List (List Int)} (h : Holds B x gen ps) (hk : ps.length ≤ k) : (getP B x k).1 = -1 :=
  none_get (cel_past (by rw [h.a, List.length_map, newCels_length]; exact hk)) (cel_past (by rw [h.b, List.length_map, newCels_length]; exact hk))
theorem new_has {x : ByteArray} (T : TwoNames (x ++ dotA) (x ++ dotB)) {room : Int} {gen : Nat} {ps : List (List Int)} (hg : (gen : Int) ≤ 4611686018427387904) (h0 : 0 < ps.length) (hr : 2 * (ps.length : Int) ≤ room) (hm : ps.length ≤ 2147483647) (hp : ∀ p ∈ ps, p.length ≤ 106) (hb : ∀ p ∈ ps, Bytes p) : ∃ B, NewHas room x gen ps B := by
  have hs0 : Sorted (Dk.new room).files := List.Pairwise.nil
  have hz : sizeF (Dk.new room).files = 0 := rfl
  have c1 : (ps.length : Int) ≤ (Dk.new room).free := by show _ ≤ room - (0 : Nat); omega
  obtain ⟨B1, h1, f1, -⟩ := wrF_fresh (f := x ++ dotA) T.na hg ps (Dk.new room) 0 hs0 rfl rfl c1 hp (by omega) (by omega)
  have g1 := wrF_cels (f := x ++ dotA) T.na hg ps (Dk.new room) 0 hs0 rfl rfl c1 hp (by omega) (by omega)
  have hr1 : B1.room = room := f1.room
  have c2 : (ps.length : Int) ≤ B1.free := by
    have := f1.size
    unfold Dk.free
    omega
  have hb0 : (B1.at (x ++ dotB)).length = 0 := by rw [f1.others _ T.ne]; rfl
  obtain ⟨B2, h2, f2, -⟩ := wrF_fresh (f := x ++ dotB) T.nb hg ps B1 0 f1.sorted f1.fuse hb0 c2 hp (by omega) (by omega)
  have g2 := wrF_cels (f := x ++ dotB) T.nb hg ps B1 0 f1.sorted f1.fuse hb0 c2 hp (by omega) (by omega)
  have hst : wrP (Dk.new room) x 0 gen ps = (0, B2) := by
    unfold wrP halvesL
    simp only [wrL, h1, h2, if_pos rfl]
    rfl
  rw [h1] at g1
  rw [h2] at g2
  have hH : Holds B2 x gen ps := by
    refine ⟨?_, ?_⟩
    · rw [f2.others _ (Ne.symm T.ne)]
      exact g1
    · rw [List.eq_nil_of_length_eq_zero hb0, List.nil_append] at g2
      exact g2
  exact ⟨B2, hst, hH, holds_has hH, by
    have := f1.size
    have := f2.size
    have := f2.room
    unfold Dk.free
    omega, f2.fuse, f2.sorted, holds_bytes hH hp hb⟩
theorem nameW_one : nameW 1 = ⟨#[119, 49]⟩ := by
  unfold nameW
  rw [show (1 : Int).toNat = 1 from rfl, decB_small (by omega)]
  rfl
theorem nameW_three : nameW 3 = ⟨#[119, 51]⟩ := by
  unfold nameW
  rw [show (3 : Int).toNat = 3 from rfl, decB_small (by omega)]
  rfl
theorem twoW1 : TwoNames (nameW 1 ++ dotA) (nameW 1 ++ dotB) := by
  rw [nameW_one]
  exact ⟨by kernel_rfl, by kernel_rfl, by decide, by kernel_rfl, by kernel_rfl⟩
theorem twoW3 : TwoNames (nameW 3 ++ dotA) (nameW 3 ++ dotB) := by
  rw [nameW_three]
  exact ⟨by kernel_rfl, by kernel_rfl, by decide, by kernel_rfl, by kernel_rfl⟩
theorem piecesW_bytes {b : List Int} (hb : Bytes b) : ∀ p ∈ piecesW (textW b), Bytes p := fun p hp x hx => textW_bytes hb x ((piecesW_mem hp).2 x hx)
/-- A record appended to an empty disk. -/
structure AppNew (room seg : Int) (b : List Int) (B : Dk) : Prop where
  eq : appendW (Dk.new room) seg 0 1 b = ((wneedI b.length, 0), B)
  has : NewHas room (nameW seg) 1 (piecesW (textW b)) B
theorem app_new {room seg : Int} {b : List Int} (T : TwoNames (nameW seg ++ dotA) (nameW seg ++ dotB)) (hs : 0 ≤ seg) (hs2 : seg ≤ 4611686018427387904) (hb : Bytes b) (h1 : 1 ≤ b.length) (h2 : b.length ≤ 1000000) (hr : 2 * wneedI b.length ≤ room) : ∃ B, AppNew room seg b B := by
  have hw := wneed_chunk h1 h2
  have hc : (piecesW (textW b)).length = chunkW (b.length + 4) := by rw [piecesW_length, textW_length]
  have hc0 : 0 < chunkW (b.length + 4) := by unfold chunkW; omega
  have hc1 : chunkW (b.length + 4) ≤ 10000 := by unfold chunkW; omega
  obtain ⟨B, hB⟩ := new_has T (room := room) (gen := 1) (ps := piecesW (textW b)) (by omega) (by omega) (by omega) (by omega) (fun p hp => (piecesW_mem hp).1) (piecesW_bytes hb)
  refine ⟨B, ?_, hB⟩
  unfold appendW
  rw [if_pos ⟨by omega, hs, hs2, by omega, by omega, by omega, by omega⟩]
  have e : wrP (Dk.new room) (nameW seg) (0 : Int).toNat (1 : Int).toNat (piecesW (textW b)) = (0, B) := hB.eq
  rw [e]
  rfl
theorem app_none {A : Dk} {seg at_ lsn : Int} : appendW A seg at_ lsn [] = ((0, 1), A) := by
  unfold appendW
  rw [if_neg (fun h => h.1 rfl)]
/-- What a record's segment gives, read so far. -/
theorem read_all {room seg : Int} {b : List Int} {B : Dk} (h : AppNew room seg b B) (h1 : 1 ≤ b.length) (h2 : b.length ≤ 1000000) : readG B (nameW seg) (chunkW (b.length + 4)) (chunkW (b.length + 4)) 0 [] = some [b] := by
  have h0 : 0 < chunkW (b.length + 4) := by unfold chunkW; omega
  have hc1 : chunkW (b.length + 4) ≤ 10000 := by unfold chunkW; omega
  have hr := rec_has (en := chunkW (b.length + 4)) h1 h2 h.has.has (by omega) (by omega) h0
  obtain ⟨c, hc⟩ : ∃ c, chunkW (b.length + 4) = c + 1 := ⟨chunkW (b.length + 4) - 1, by omega⟩
  rw [if_pos (by omega), Nat.zero_add] at hr
  rw [hc] at hr ⊢
  unfold readG
  rw [if_pos (by omega), hr]
  dsimp only
  cases c with
  | zero => rfl
  | succ c => unfold readG; rw [if_neg (by omega)]; rfl
theorem read_cut {room seg : Int} {b : List Int} {B : Dk} (h : AppNew room seg b B) (h1 : 1 ≤ b.length) (h2 : b.length ≤ 1000000) {m : Nat} (hm : 0 < m) (hm2 : m < chunkW (b.length + 4)) : readG B (nameW seg) m m 0 [] = none := by
  have hc1 : chunkW (b.length + 4) ≤ 10000 := by unfold chunkW; omega
  have hr := rec_has (en := m) h1 h2 h.has.has (by omega) (by omega) hm
  obtain ⟨c, rfl⟩ : ∃ c, m = c + 1 := ⟨m - 1, by omega⟩
  unfold readG
  rw [if_pos (by omega), hr, if_neg (by omega)]
theorem rec_past {B : Dk} {x : ByteArray} {en at_ : Nat} (h : (getP B x at_).1 < 0) : recW B x en at_ = none := by
  unfold recW
  rw [if_neg (fun h2 => by omega)]
theorem read_past {room seg : Int} {b : List Int} {B : Dk} (h : AppNew room seg b B) (h1 : 1 ≤ b.length) (h2 : b.length ≤ 1000000) : readG B (nameW seg) (chunkW (b.length + 4) + 1) (chunkW (b.length + 4) + 1) 0 [] = none := by
  have h0 : 0 < chunkW (b.length + 4) := by unfold chunkW; omega
  have hc1 : chunkW (b.length + 4) ≤ 10000 := by unfold chunkW; omega
  have hr := rec_has (en := chunkW (b.length + 4) + 1) h1 h2 h.has.has (by omega) (by omega) (by omega)
  rw [if_pos (by omega), Nat.zero_add] at hr
  have hp := holds_past (k := chunkW (b.length + 4)) h.has.held (by rw [piecesW_length, textW_length]; exact Nat.le_refl _)
  have hl := rec_past (B := B) (x := nameW seg) (en := chunkW (b.length + 4) + 1) (at_ := chunkW (b.length + 4)) (by rw [hp]; decide)
  obtain ⟨c, hc⟩ : ∃ c, chunkW (b.length + 4) = c + 1 := ⟨chunkW (b.length + 4) - 1, by omega⟩
  rw [hc] at hr hl ⊢
  unfold readG
  rw [if_pos (by omega), hr]
  dsimp only
  unfold readG
  rw [if_pos (by omega), hl]
end Go.Proofs.YthifabopnabjoaaDoor
/- wal, the plain part: a record appended behind another one, wherever it stops. -/
namespace Go.Proofs.YthifabopnabjoaaDoor
open Go.RowKit HP
set_option linter.unusedSimpArgs false
set_option linter.unusedVariables false

theorem write_goes {A : Dk} {f : ByteArray} {I : List Int} (hn : namedB f = true) (hl : I.length = 128) (he : A.goes = true) (hf : 0 < A.free) : A.write f ((A.at f).length : Int) I = (0, A.burnt.set f (A.at f ++ [Cel.zero.wrote I])) := by
  unfold Dk.write
  rw [if_neg (by rw [hn, hl]; simp), if_neg (by rw [he]; simp), if_neg (by omega), if_pos rfl]
theorem write_stops {A : Dk} {f : ByteArray} {I : List Int} (hn : namedB f = true) (hl : I.length = 128) (he : A.goes = false) : A.write f ((A.at f).length : Int) I = (31, A.burnt) := by
  unfold Dk.write
  rw [if_neg (by rw [hn, hl]; simp), if_pos he]
structure Fz (A : Dk) (f : ByteArray) (gen i : Nat) (ps : List (List Int)) (r : Int × Dk) : Prop where
  sorted : Sorted r.2.files
  room : r.2.room = A.room
  others : ∀ t, f ≠ t → r.2.at t = A.at t
  out : (r.1 = 0 ∧ r.2.at f = (A.at f ++ newCels f gen i ps).map Cel.syncd ∧ sizeF r.2.files = sizeF A.files + ps.length) ∨ (r.1 = 31 ∧ ∃ j, r.2.at f = A.at f ++ newCels f gen i (ps.take j))
theorem wrF_fz {f : ByteArray} {gen : Nat} (hn : namedB f = true) (hg : (gen : Int) ≤ 4611686018427387904) : ∀ (ps : List (List Int)) (A : Dk) (i : Nat), Sorted A.files → (A.at f).length = i → (ps.length : Int) ≤ A.free → (∀ p ∈ ps, p.length ≤ 106) → i + ps.length ≤ 2147483647 → 0 < i + ps.length → Fz A f gen i ps (wrF A f gen i ps)
  | [], A, i, hs, hi, _, _, _, h0 => by
    have hl := at_some (A := A) (f := f) (by rw [hi]; simpa using h0)
    show Fz A f gen i [] (A.sync f)
    cases hgo : A.goes with
    | false =>
      have e : A.sync f = (31, A.burnt) := by unfold Dk.sync; rw [hl]; simp [hgo]
      rw [e]
      exact ⟨hs, rfl, fun _ _ => rfl, .inr ⟨rfl, 0, by simp [newCels]; rfl⟩⟩
    | true =>
      rw [sync_some hl hgo]
      have hs2 : Sorted A.burnt.files := hs
      have hz := sizeF_put hs f ((A.at f).map Cel.syncd)
      refine ⟨sorted_put f _ hs2, rfl, fun t ht => by show (A.burnt.set f _).at t = _; rw [at_set hs2, if_neg ht]; rfl, .inl ⟨rfl, ?_, ?_⟩⟩
      · show (A.burnt.set f _).at f = _
        rw [at_set hs2, if_pos rfl]
        simp [newCels]
      · show sizeF (putF A.files f _) = _
        have h2 : ((lk A.files f).getD []).length = (A.at f).length := rfl
        rw [List.length_map] at hz
        simp only [List.length_nil]
        omega
  | p :: ps, A, i, hs, hi, hf, hp, hm, _ => by
    have hpl := hp p (List.mem_cons_self ..)
    simp only [List.length_cons] at hf hm
    have hfo : FrameOk (i : Int) gen p.length := ⟨by omega, by omega, by omega, hg, hpl⟩
    cases hgo : A.goes with
    | false =>
      have hw : A.write f (i : Int) (extI f i gen p) = (31, A.burnt) := by
        have := write_stops (A := A) (f := f) (I := extI f i gen p) hn (extI_length hpl) hgo
        rw [hi] at this
        exact this
      unfold wrF
      rw [if_neg (by simpa using hfo), hw, if_neg (show ¬ ((31 : Int) = 0) by decide)]
      exact ⟨hs, rfl, fun _ _ => rfl, .inr ⟨rfl, 0, by simp [newCels]; rfl⟩⟩
    | true =>
      have hw : A.write f (i : Int) (extI f i gen p) = (0, A.burnt.set f (A.at f ++ [Cel.zero.wrote (extI f i gen p)])) := by
        have := write_goes (A := A) (f := f) (I := extI f i gen p) hn (extI_length hpl) hgo (by omega)
        rw [hi] at this
        exact this
      have hs2 : Sorted A.burnt.files := hs
      have hz := sizeF_put hs f (A.at f ++ [Cel.zero.wrote (extI f i gen p)])
      have h2 : ((lk A.files f).getD []).length = (A.at f).length := rfl
      rw [List.length_append, List.length_cons, List.length_nil] at hz
      have hA : (A.burnt.set f (A.at f ++ [Cel.zero.wrote (extI f i gen p)])).at f = A.at f ++ [Cel.zero.wrote (extI f i gen p)] := by rw [at_set hs2, if_pos rfl]
      have hA2 : ∀ t, f ≠ t → (A.burnt.set f (A.at f ++ [Cel.zero.wrote (extI f i gen p)])).at t = A.at t := fun t ht => by rw [at_set hs2, if_neg ht]; rfl
      have hsz : sizeF (A.burnt.set f (A.at f ++ [Cel.zero.wrote (extI f i gen p)])).files = sizeF A.files + 1 := by
        show sizeF (putF A.files f _) = _
        omega
      have hrm : (A.burnt.set f (A.at f ++ [Cel.zero.wrote (extI f i gen p)])).room = A.room := rfl
      have hst : Sorted (A.burnt.set f (A.at f ++ [Cel.zero.wrote (extI f i gen p)])).files := sorted_put f _ hs2
      unfold wrF
      rw [if_neg (by simpa using hfo), hw, if_pos rfl]
      generalize A.burnt.set f (A.at f ++ [Cel.zero.wrote (extI f i gen p)]) = A2 at *
      have ih := wrF_fz hn hg ps A2 (i + 1) hst (by rw [hA, List.length_append, hi]; rfl) (by unfold Dk.free at hf ⊢; omega) (fun x hx => hp x (List.mem_cons_of_mem _ hx)) (by omega) (by omega)
      refine ⟨ih.sorted, ih.room.trans hrm, fun t ht => (ih.others t ht).trans (hA2 t ht), ?_⟩
      rcases ih.out with ⟨e1, e2, e3⟩ | ⟨e1, j, e2⟩
      · refine .inl ⟨e1, ?_, ?_⟩
        · rw [e2, hA, List.append_assoc]; rfl
        · rw [e3, hsz, List.length_cons]; omega
      · refine .inr ⟨e1, j + 1, ?_⟩
        rw [e2, hA, List.append_assoc]; rfl
theorem keepOf_nil (s : ByteArray) (i : Int) : keepOf [] s i = 0 := rfl
theorem crash_at (B : Dk) (t : ByteArray) : (B.crash []).at t = (B.at t).map fun c => c.crashd 0 := by
  unfold Dk.at Dk.crash
  rw [lk_map (crashL [])]
  cases lk B.files t with
  | none => rfl
  | some l =>
    simp only [Option.map_some, Option.getD_some, crashL, keepOf_nil]
    apply List.ext_getElem?
    intro i
    simp
theorem crash_stl (I : List Int) : (stl I).crashd 0 = stl I := rfl
theorem crash_wrote_read (I : List Int) : ((Cel.zero.wrote I).crashd 0).read = List.replicate 128 0 := by
  show ([] : List Int) ++ z128 = _
  rfl
theorem newCels_mem {f : ByteArray} {gen : Nat} : ∀ {ps : List (List Int)} {i : Nat} {c : Cel}, c ∈ newCels f gen i ps → ∃ k p, p ∈ ps ∧ c = Cel.zero.wrote (extI f k gen p)
  | [], i, c, h => by cases h
  | p :: ps, i, c, h => by
    rcases List.mem_cons.1 h with rfl | h
    · exact ⟨i, p, List.mem_cons_self .., rfl⟩
    · obtain ⟨k, q, h1, h2⟩ := newCels_mem h
      exact ⟨k, q, List.mem_cons_of_mem _ h1, h2⟩
/-- A file of settled cells, and what a second writing makes of it. -/
def Later (B B2 : Dk) (f : ByteArray) (gen i : Nat) (ps : List (List Int)) : Prop := (∃ j, B2.at f = B.at f ++ newCels f gen i (ps.take j)) ∨ B2.at f = (B.at f ++ newCels f gen i ps).map Cel.syncd
theorem later_has {B B2 : Dk} {f : ByteArray} {g1 g2 i : Nat} {p1 p2 : List (List Int)} (h : B.at f = (newCels f g1 0 p1).map Cel.syncd) (hL : Later B B2 f g2 i p2) : HasAt (B2.crash []) f 0 g1 p1 := by
  intro k p hp
  have hk : k < p1.length := (List.getElem?_eq_some_iff.1 hp).1
  have h1 : (B.at f)[k]? = some (stl (extI f k g1 p)) := by
    rw [h, List.getElem?_map, newCels_get p1 0 k p hp, Nat.zero_add]; rfl
  have hkl : k < (B.at f).length := by rw [h, List.length_map, newCels_length]; exact hk
  refine ⟨stl (extI f k g1 p), ?_, by rw [Nat.zero_add]; rfl⟩
  unfold Dk.cel
  rw [if_pos (by omega), Int.toNat_natCast, Nat.zero_add, crash_at, List.getElem?_map]
  rcases hL with ⟨j, e⟩ | e
  · rw [e, List.getElem?_append_left hkl, h1]; rfl
  · rw [e, List.getElem?_map, List.getElem?_append_left hkl, h1]; rfl
theorem later_new {B B2 : Dk} {f : ByteArray} {g2 i : Nat} {p2 : List (List Int)} (hi : (B.at f).length = i) (e : B2.at f = (B.at f ++ newCels f g2 i p2).map Cel.syncd) : HasAt (B2.crash []) f i g2 p2 := by
  intro k p hp
  refine ⟨stl (extI f (i + k) g2 p), ?_, rfl⟩
  unfold Dk.cel
  rw [if_pos (by omega), Int.toNat_natCast, crash_at, List.getElem?_map, e, List.getElem?_map, List.getElem?_append_right (by omega), hi, Nat.add_sub_cancel_left, newCels_get p2 i k p hp]
  rfl
theorem later_bytes {B B2 : Dk} {f : ByteArray} {g1 g2 i : Nat} {p1 p2 : List (List Int)} (h : B.at f = (newCels f g1 0 p1).map Cel.syncd) (hL : Later B B2 f g2 i p2) (hl1 : ∀ p ∈ p1, p.length ≤ 106) (hb1 : ∀ p ∈ p1, Bytes p) (hl2 : ∀ p ∈ p2, p.length ≤ 106) (hb2 : ∀ p ∈ p2, Bytes p) :
    ∀ j c, (B2.crash []).cel f j = some c → Bytes c.read := by
  have hs1 : ∀ c ∈ B.at f, c.syncd = c ∧ c.crashd 0 = c ∧ Bytes c.read := by
    intro c hc
    rw [h] at hc
    obtain ⟨c0, h0, rfl⟩ := List.mem_map.1 hc
    obtain ⟨k, p, hp, rfl⟩ := newCels_mem h0
    exact ⟨rfl, rfl, extI_bytes (name := f) (index := k) (gen := g1) (hl1 p hp) (hb1 p hp)⟩
  intro j c hc
  unfold Dk.cel at hc
  split at hc
  · have hm := List.mem_of_getElem? hc
    rw [crash_at] at hm
    obtain ⟨c0, h0, rfl⟩ := List.mem_map.1 hm
    rcases hL with ⟨j2, e⟩ | e
    · rw [e] at h0
      rcases List.mem_append.1 h0 with h0 | h0
      · rw [(hs1 c0 h0).2.1]; exact (hs1 c0 h0).2.2
      · obtain ⟨k, p, hp, rfl⟩ := newCels_mem h0
        rw [crash_wrote_read]
        exact z_bytes 128
    · rw [e] at h0
      obtain ⟨c1, h1, rfl⟩ := List.mem_map.1 h0
      rcases List.mem_append.1 h1 with h1 | h1
      · rw [(hs1 c1 h1).1, (hs1 c1 h1).2.1]; exact (hs1 c1 h1).2.2
      · obtain ⟨k, p, hp, rfl⟩ := newCels_mem h1
        exact extI_bytes (name := f) (index := k) (gen := g2) (hl2 p hp) (hb2 p hp)
  · cases hc
structure StaysEnd (x : ByteArray) (p1 p2 : List (List Int)) (r : Int × Dk) : Prop where
  code : r.1 = 0 ∨ r.1 = 31
  first : HasBoth (r.2.crash []) x 0 1 p1
  second : r.1 = 0 → HasBoth (r.2.crash []) x p1.length 2 p2
  bytes : ∀ f ∈ halvesL x, ∀ j c, (r.2.crash []).cel f j = some c → Bytes c.read
theorem stays_end {x : ByteArray} (T : TwoNames (x ++ dotA) (x ++ dotB)) {room : Int} {p1 p2 : List (List Int)} {B : Dk} (h : NewHas room x 1 p1 B) (fz : Int) (h0 : 0 < p1.length) (h2 : 0 < p2.length) (hr : 2 * (p1.length : Int) + 2 * p2.length ≤ room) (hm : p1.length + p2.length ≤ 2147483647)
    (hl1 : ∀ p ∈ p1, p.length ≤ 106) (hb1 : ∀ p ∈ p1, Bytes p) (hl2 : ∀ p ∈ p2, p.length ≤ 106) (hb2 : ∀ p ∈ p2, Bytes p) : StaysEnd x p1 p2 (wrP { B with fuse := fz } x p1.length 2 p2) := by
  have la : (B.at (x ++ dotA)).length = p1.length := by rw [h.held.a, List.length_map, newCels_length]
  have lb : (B.at (x ++ dotB)).length = p1.length := by rw [h.held.b, List.length_map, newCels_length]
  have hfr := h.free
  have z1 := wrF_fz (f := x ++ dotA) (gen := 2) T.na (by omega) p2 { B with fuse := fz } p1.length h.sorted la (by show (p2.length : Int) ≤ B.free; omega) hl2 hm (by omega)
  have nob : Later B { B with fuse := fz } (x ++ dotB) 2 p1.length p2 := .inl ⟨0, by simp [newCels]; rfl⟩
  have fin : ∀ r : Int × Dk, (r.1 = 0 ∨ r.1 = 31) → Later B r.2 (x ++ dotA) 2 p1.length p2 → Later B r.2 (x ++ dotB) 2 p1.length p2 →
      (r.1 = 0 → r.2.at (x ++ dotA) = (B.at (x ++ dotA) ++ newCels (x ++ dotA) 2 p1.length p2).map Cel.syncd ∧ r.2.at (x ++ dotB) = (B.at (x ++ dotB) ++ newCels (x ++ dotB) 2 p1.length p2).map Cel.syncd) → StaysEnd x p1 p2 r := by
    intro r hc hA hB h3
    refine ⟨hc, ⟨later_has h.held.a hA, later_has h.held.b hB⟩, fun hz => ⟨later_new la (h3 hz).1, later_new lb (h3 hz).2⟩, fun f hf => ?_⟩
    rcases List.mem_cons.1 hf with rfl | hf
    · exact later_bytes h.held.a hA hl1 hb1 hl2 hb2
    · rcases List.mem_cons.1 hf with rfl | hf
      · exact later_bytes h.held.b hB hl1 hb1 hl2 hb2
      · cases hf
  unfold wrP halvesL
  show StaysEnd x p1 p2 (if (wrF { B with fuse := fz } (x ++ dotA) 2 p1.length p2).1 = 0 then wrL (wrF { B with fuse := fz } (x ++ dotA) 2 p1.length p2).2 p1.length 2 p2 [x ++ dotB] else wrF { B with fuse := fz } (x ++ dotA) 2 p1.length p2)
  generalize wrF { B with fuse := fz } (x ++ dotA) 2 p1.length p2 = r1 at *
  have ob1 : r1.2.at (x ++ dotB) = B.at (x ++ dotB) := z1.others _ T.ne
  have nob1 : Later B r1.2 (x ++ dotB) 2 p1.length p2 := .inl ⟨0, by rw [ob1]; simp [newCels]⟩
  rcases z1.out with ⟨e1, e2, e3⟩ | ⟨e1, j, e2⟩
  · rw [if_pos e1]
    have hsz : sizeF r1.2.files = sizeF B.files + p2.length := e3
    have hrm : r1.2.room = B.room := z1.room
    have z2 := wrF_fz (f := x ++ dotB) (gen := 2) T.nb (by omega) p2 r1.2 p1.length z1.sorted (by rw [ob1]; exact lb) (by unfold Dk.free at hfr ⊢; omega) hl2 hm (by omega)
    show StaysEnd x p1 p2 (if (wrF r1.2 (x ++ dotB) 2 p1.length p2).1 = 0 then (0, (wrF r1.2 (x ++ dotB) 2 p1.length p2).2) else wrF r1.2 (x ++ dotB) 2 p1.length p2)
    generalize wrF r1.2 (x ++ dotB) 2 p1.length p2 = r2 at *
    have oa2 : r2.2.at (x ++ dotA) = r1.2.at (x ++ dotA) := z2.others _ (Ne.symm T.ne)
    have hA : Later B r2.2 (x ++ dotA) 2 p1.length p2 := .inr (by rw [oa2]; exact e2)
    rcases z2.out with ⟨d1, d2, d3⟩ | ⟨d1, j, d2⟩
    · rw [if_pos d1]
      rw [ob1] at d2
      exact fin (0, r2.2) (.inl rfl) hA (.inr d2) (fun _ => ⟨by show r2.2.at _ = _; rw [oa2]; exact e2, d2⟩)
    · rw [if_neg (by rw [d1]; decide)]
      rw [ob1] at d2
      exact fin r2 (.inr d1) hA (.inl ⟨j, d2⟩) (fun hz => by rw [d1] at hz; cases hz)
  · rw [if_neg (by rw [e1]; decide)]
    exact fin r1 (.inr e1) (.inl ⟨j, e2⟩) nob1 (fun hz => by rw [e1] at hz; cases hz)
end Go.Proofs.YthifabopnabjoaaDoor
/- A record is appended on a new disk, and read: awake of layer 18. -/
namespace Go.Proofs.YthifabopnabjoaaDoor
open Go.RowKit HP
set_option linter.unusedSimpArgs false
set_option linter.unusedVariables false

theorem map_one {l : List Int} : ∀ {ss : List (Sl Int)}, ss.map (·.l) = [l] → ∃ s, ss = [s] ∧ s.l = l
  | [], h => by cases h
  | [s], h => ⟨s, rfl, by simpa using h⟩
  | s :: t :: ss, h => by simp at h
theorem map_two {l m : List Int} : ∀ {ss : List (Sl Int)}, ss.map (·.l) = [l, m] → ∃ s t, ss = [s, t] ∧ s.l = l ∧ t.l = m
  | [], h => by cases h
  | [s], h => by simp at h
  | [s, t], h => ⟨s, t, rfl, by simpa using h⟩
  | s :: t :: u :: ss, h => by simp at h
set_option maxHeartbeats 2000000 in
set_option maxRecDepth 100000 in
theorem awake18_ok (E : Env) (q : HP) (w : World) (hq : ∀ w, Sat E w q → Quarter w ∧ Lib.TabIs Tryd.prog w "internal/strconv.uint64pow10" .u64 Lib.pow10Tab) (hw : Sat E w q) :
    Calls Tryd.prog 14 #[] w fun e w' => e = .returned (.bool true) ∧ Sat E w' q := by
  have hb2 : Bytes [97, 98] := by intro x hx; simp at hx; omega
  obtain ⟨B, hB⟩ := app_new (room := 10) (seg := 1) (b := [97, 98]) twoW1 (by omega) (by omega) hb2 (by decide) (by decide) (by decide)
  have HB := Aside.mk hB
  have HRA : Aside (readG B (nameW 1) 1 1 0 [] = some [[97, 98]]) := ⟨read_all hB (by decide) (by decide)⟩
  have HEQ : Aside (appendW (Dk.new 10) 1 0 1 [97, 98] = ((1, 0), B)) := ⟨hB.eq⟩
  have HBY := Aside.mk hB.has.bytes
  have HQ := Aside.mk (And.intro hq hw)
  have HB2 := Aside.mk hb2
  clear hB hq hw hb2
  go_enter Tryd.func14, Tryd.ntmps14
  go_wp2_with fail
  refine (disk_new_ok E q 10 _ ⟨by omega, by omega⟩ HQ.out.2).mono ?_
  rintro e w1 ⟨d, rfl, h1⟩
  have h2 := h1.alloc (.cells #[.int .u8 97, .int .u8 98] 5 (2, 3))
  have H2 : Aside (Sat E (w1.alloc (.cells #[.int .u8 97, .int .u8 98] 5 (2, 3))) (HP.disk d (Dk.new 10) * (HP.pt w1.heap.size (.cells (b8s [97, 98]).toArray 5 (2, 3)) * q))) := ⟨h2.perm (by ac_rfl)⟩
  have HQ2 : Aside (∀ w, Sat E w (HP.pt w1.heap.size (.cells (b8s [97, 98]).toArray 5 (2, 3)) * q) → Quarter w ∧ Lib.TabIs Tryd.prog w "internal/strconv.uint64pow10" .u64 Lib.pow10Tab ∧ Cells w (some ⟨w1.heap.size, 0, none⟩) (b8s [97, 98])) := ⟨fun w h => ⟨(HQ.out.1 w h.right).1, (HQ.out.1 w h.right).2, h.ptCells rfl⟩⟩
  have cv : (convert 22 22 (.slice (some ⟨w1.heap.size, 0, none⟩) 2 2)).run Tryd.prog (w1.alloc (.cells #[.int .u8 97, .int .u8 98] 5)) = .ok (.slice (some ⟨w1.heap.size, 0, none⟩) 2 2) (w1.alloc (.cells #[.int .u8 97, .int .u8 98] 5 (2, 3))) := Lib.run_convert_bytes_const w1 _ _ #[.int .u8 97, .int .u8 98] 2 2 Tryd.underlying22 Tryd.underlying5
  have HL : Aside ((2 : Nat) ≤ maxLen) := ⟨by unfold maxLen; omega⟩
  clear h1 h2
  go_wp2_with fail
  refine (wal_append E _ d (Dk.new 10) 1 0 1 (some ⟨w1.heap.size, 0, none⟩) [97, 98] 2 2 _ (by unfold wf64; omega) (by unfold wf64; omega) (by unfold wf64; omega) rfl (by omega) HL.out HB2.out HQ2.out H2.out).mono ?_
  rintro e w2 ⟨rfl, h2⟩
  rw [HEQ.out] at h2 ⊢
  have H3 : Aside (Sat E w2 (HP.disk d B * q)) := ⟨h2.perm (by ac_rfl : _ = HP.pt w1.heap.size (.cells (b8s [97, 98]).toArray 5 (2, 3)) * (HP.disk d B * q)) |>.right⟩
  clear h2 H2 HQ2 cv
  go_wp2_with fail
  refine (wal_read E q d B 1 1 _ (by omega) (by omega) (by omega) HBY.out HQ.out.1 H3.out).mono ?_
  intro e w3 h3
  rw [HRA.out] at h3
  obtain ⟨V, c, R, ss, hss, rfl, hsc, h3, hR⟩ := h3
  obtain ⟨s, rfl, hsl⟩ := map_one hss
  obtain ⟨As, cs, ls⟩ := s
  dsimp only at hsl
  subst hsl
  have h4 := hR _ _ h3
  have c5 : Cells w3 V [.slice As 2 cs] := h4.1
  have c6 : Cells w3 As (b8s [97, 98]) := h4.2 _ (List.mem_singleton.2 rfl)
  obtain ⟨a0, rfl, -⟩ := c5.at_ 0 (Nat.zero_lt_succ _)
  obtain ⟨gV, oV, rfl⟩ := slice_addr c5 rfl (k := 0) (Nat.zero_lt_succ _)
  obtain ⟨a1, ha1, cc⟩ := c5.at_ 0 (Nat.zero_lt_succ _)
  cases ha1
  have cl : w3.cell? ⟨gV, oV, none⟩ = some (.slice As 2 cs) := by simpa [Addr.add] using cc
  clear cc
  have e0 : (convert 22 9 (.slice As 2 cs)).run Tryd.prog w3 = .ok (.string ⟨#[97, 98]⟩) w3 := run_string (P := Tryd.prog) (c := cs) Tryd.underlying22 Tryd.underlying5 Tryd.underlying9 c6
  have H4 := Aside.mk h3
  clear h3 H3 h4 c5 c6 hR hss
  go_wp2
  go_ret
  exact ⟨rfl, H4.out.right.right⟩
end Go.Proofs.YthifabopnabjoaaDoor
/- WalNeeds: the walk. -/
namespace Go.Proofs.YthifabopnabjoaaDoor
open Go.RowKit HP
set_option linter.unusedSimpArgs false
set_option linter.unusedVariables false

structure AppW (b : List Int) (m : Nat) (B : Dk) (K ec : Int) : Prop where
  eq : appendW (Dk.new 20) 3 0 1 b = ((K, ec), B)
  free : B.free = 20 - 2 * K
  need : K = wneedI m
  small : 0 ≤ K ∧ K ≤ 10
  code : (m = 0 ∧ ec = 1) ∨ (0 < m ∧ ec = 0)
theorem appW_of {b : List Int} {m : Nat} (hm : b.length = m) (hm2 : m ≤ 500) (hb : Bytes b) : ∃ B K ec, AppW b m B K ec := by
  rcases Nat.eq_zero_or_pos m with h0 | h0
  · subst h0
    have := List.eq_nil_of_length_eq_zero hm
    subst this
    exact ⟨_, 0, 1, app_none, rfl, rfl, by omega, .inl ⟨rfl, rfl⟩⟩
  · have hw := wneed_chunk (n := m) h0 (by omega)
    have hc : chunkW (m + 4) ≤ 5 := by unfold chunkW; omega
    obtain ⟨B, hB⟩ := app_new (room := 20) (seg := 3) (b := b) twoW3 (by omega) (by omega) hb (by omega) (by omega) (by rw [hm, hw]; omega)
    have hf := hB.has.free
    rw [piecesW_length, textW_length, hm] at hf
    have he := hB.eq
    rw [hm] at he
    exact ⟨B, wneedI m, 0, he, by rw [hf, hw], rfl, by omega, .inr ⟨h0, rfl⟩⟩
set_option maxHeartbeats 2000000 in
set_option maxRecDepth 100000 in
theorem walNeeds_ok (E : Env) (q : HP) (size seg : Int) (A0 : Option Addr) (l0 : List Int) (n0 c0 : Nat) (w : World) (hz : wf64 size) (hs : wf64 seg) (e0 : l0.length = n0) (k0 : n0 ≤ c0) (m0 : c0 ≤ maxLen) (b0 : Bytes l0)
    (hq : ∀ w, Sat E w q → Quarter w ∧ Lib.TabIs Tryd.prog w "internal/strconv.uint64pow10" .u64 Lib.pow10Tab) (hc : ∀ w, Sat E w q → Cells w A0 (b8s l0)) (hw : Sat E w q) :
    Calls Tryd.prog 3 #[.int .i64 size, .int .i64 seg, .slice A0 n0 c0] w fun e w' => e = .returned (.bool true) ∧ Sat E w' q := by
  have HQ := Aside.mk (And.intro hq (And.intro hw (And.intro hz (And.intro hs (And.intro m0 hc)))))
  obtain ⟨m, hm⟩ : ∃ m, m = min n0 500 := ⟨_, rfl⟩
  have hmn : m ≤ n0 := by omega
  obtain ⟨t, ht⟩ : ∃ t, t = l0.take m := ⟨_, rfl⟩
  have htl : t.length = m := by rw [ht, List.length_take]; omega
  have htb : Bytes t := by rw [ht]; exact fun x hx => b0 x (List.mem_of_mem_take hx)
  have htc : ∀ w, Sat E w q → Cells w A0 (b8s t) := fun w h => by
    have := (hc w h).take m
    rw [ht]
    unfold b8s at this ⊢
    rw [List.map_take]; exact this
  obtain ⟨B, K, ec, hX⟩ := appW_of htl (by omega) htb
  obtain ⟨K2, hK2⟩ : ∃ K2, K2 = wneedI size := ⟨_, rfl⟩
  obtain ⟨nm, hnm⟩ : ∃ nm, nm = nameW seg := ⟨_, rfl⟩
  have HT := Aside.mk (And.intro htl (And.intro htb htc))
  have HX := Aside.mk (And.intro hX (And.intro hK2 hnm))
  have hK := hX.small
  have hcode := hX.code
  have HMC : Aside (m ≤ c0) := ⟨by omega⟩
  clear hq hw hz hs m0 hc htl htb htc hX b0 e0 ht hK2 hnm
  have hbr : (500 < n0 ∧ m = 500) ∨ (n0 ≤ 500 ∧ m = n0) := by omega
  clear hm
  rcases hbr with ⟨g0, g1⟩ | ⟨g0, g1⟩ <;> subst g1 <;> rcases hcode with ⟨g2, g3⟩ | ⟨g2, g3⟩ <;> (try (exfalso; omega)) <;> subst g3
  all_goals (try subst g2)
  all_goals (
    go_enter Tryd.func3, Tryd.ntmps3
    go_wp2_with fail
    refine (disk_new_ok E q 20 _ ⟨by omega, by omega⟩ HQ.out.2.1).mono ?_
    rintro e w1 ⟨d, rfl, h1⟩
    have H1 := Aside.mk h1
    clear h1
    go_wp2_with fail
    refine (wal_append E q d (Dk.new 20) 3 0 1 A0 t _ c0 _ (by unfold wf64; omega) (by unfold wf64; omega) (by unfold wf64; omega) HT.out.1 HMC.out HQ.out.2.2.2.2.1 HT.out.2.1 (fun w h => ⟨(HQ.out.1 w h).1, (HQ.out.1 w h).2, HT.out.2.2 w h⟩) H1.out).mono ?_
    rintro e w2 ⟨rfl, h2⟩
    rw [HX.out.1.eq] at h2 ⊢
    have H2 := Aside.mk h2
    clear h2 H1
    go_wp2_with fail
    refine (wal_need _ _ (by unfold wf64; omega)).mono ?_
    rintro e w3 ⟨rfl, hw3⟩
    subst w3
    first
      | rw [show wneedI 500 = K from HX.out.1.need.symm]
      | rw [show wneedI 0 = K from HX.out.1.need.symm]
      | rw [← HX.out.1.need]
    go_wp2_with fail
    refine (disk_free_ok E q d B _ H2.out).mono ?_
    rintro e w4 ⟨rfl, h4⟩
    rw [HX.out.1.free]
    have H4 := Aside.mk h4
    clear h4 H2
    go_wp2_with fail
    refine (wal_need size _ HQ.out.2.2.1).mono ?_
    rintro e w5 ⟨rfl, hw5⟩
    subst w5
    rw [← HX.out.2.1]
    go_wp2_with fail
    refine (ref_wneed size _ HQ.out.2.2.1).mono ?_
    rintro e w5 ⟨rfl, hw5⟩
    subst w5
    rw [← HX.out.2.1]
    go_wp2_with fail
    refine (wal_name E _ seg _ HQ.out.2.2.2.1 (fun w h => (HQ.out.1 w h.right).2) H4.out).mono ?_
    rintro e w6 ⟨rfl, h6⟩
    rw [← HX.out.2.2]
    have H6 := Aside.mk h6
    clear h6 H4
    go_wp2_with fail
    refine (ref_wname seg _ HQ.out.2.2.2.1).mono ?_
    rintro e w7 ⟨rfl, hw7⟩
    subst w7
    rw [← HX.out.2.2]
    go_wp2_with fail
    refine (awake18_ok E _ _ (fun w h => HQ.out.1 w h.right) H6.out).mono ?_
    rintro e w8 ⟨rfl, h8⟩
    have H8 := Aside.mk h8
    clear h8 H6
    go_wp2
    go_ret
    exact ⟨rfl, H8.out.right⟩)
end Go.Proofs.YthifabopnabjoaaDoor
/- A record as an argument; what is short enough of it. -/
namespace Go.Proofs.YthifabopnabjoaaDoor
open Go.ChangeShapes Go.WideShapes Go.ChangeAt Go.RowKit HP
set_option linter.unusedVariables false
set_option linter.unusedSimpArgs false

structure RecV where
  seg : Int
  at_ : Int
  lsn : Int
  b : Sl Int
def rdRec : Rd RecV := rdMap (rdPair (rdInt .i64) (rdPair (rdInt .i64) (rdPair (rdInt .i64) (rdPair (rdSl (rdInt .u8)) rdEnd)))) (fun x => (⟨x.1, x.2.1, x.2.2.1, x.2.2.2.1⟩ : RecV)) (fun s => (s.seg, s.at_, s.lsn, s.b, ())) (fun a => rfl)
theorem rdRec_at : rdRec.At Tryd.prog 35 :=
  rdStruct_at Tryd.underlying35 (total := 1 + (1 + (1 + (1 + 0)))) (by kernel_rfl) (rdPair_fs rfl (by kernel_rfl) (rdInt_at Tryd.underlying3) (rdPair_fs rfl (by kernel_rfl) (rdInt_at Tryd.underlying3) (rdPair_fs rfl (by kernel_rfl) (rdInt_at Tryd.underlying3)
    (rdPair_fs rfl (by kernel_rfl) (rdSl_at (n := 1) Tryd.underlying22 (by kernel_rfl) (rdInt_at Tryd.underlying5)) (rdEnd_fs _))))) _ _ _
/-- What a law is told of a record. -/
structure RecOk (W : World) (r : RecV) : Prop where
  seg : wf64 r.seg
  at_ : wf64 r.at_
  lsn : wf64 r.lsn
  le : r.b.l.length ≤ r.b.cap
  cap : r.b.cap ≤ maxLen
  cells : Cells W r.b.A (b8s r.b.l)
  bytes : Bytes r.b.l
def RecV.cut (r : RecV) : List Int := r.b.l.take (min r.b.l.length 500)
theorem RecV.cut_length (r : RecV) : r.cut.length = min r.b.l.length 500 := by unfold RecV.cut; rw [List.length_take]; omega
theorem RecOk.cut_bytes {W : World} {r : RecV} (h : RecOk W r) : Bytes r.cut := fun x hx => h.bytes x (List.mem_of_mem_take hx)
theorem RecOk.cut_cells {W : World} {r : RecV} (h : RecOk W r) : Cells W r.b.A (b8s r.cut) := by
  have := h.cells.take (min r.b.l.length 500)
  unfold RecV.cut
  unfold b8s at this ⊢
  rw [List.map_take]; exact this
theorem RecOk.carry {W W' : World} {r : RecV} (h : RecOk W r) (hb : ∀ k, k < W.heap.size → W'.heap[k]? = W.heap[k]?) : RecOk W' r := ⟨h.seg, h.at_, h.lsn, h.le, h.cap, h.cells.carry hb, h.bytes⟩
theorem agRec : AgTy Tryd.prog 35 4 := ⟨⟨_, Tryd.underlying35, rfl⟩, by kernel_rfl⟩
def RecV.cs (r : RecV) : Array Value := #[.int .i64 r.seg, .int .i64 r.at_, .int .i64 r.lsn, .slice r.b.A r.b.l.length r.b.cap]
set_option maxHeartbeats 1000000 in
set_option maxRecDepth 100000 in
theorem rec_cut (E : Env) (q : HP) (x0 x1 x2 : Value) (A : Option Addr) (n c : Nat) (w : World) (hn : n ≤ c) (hc : c ≤ maxLen) (hw : Sat E w q) :
    Calls Tryd.prog 15 #[.agg #[x0, x1, x2, .slice A n c]] w fun e w' => e = .returned (.slice A (min n 500) c) ∧ Sat E w' q := by
  have hn0 : (if 500 < (n : Int) then 500 else (n : Int)) = (min n 500 : Nat) := by split <;> omega
  obtain ⟨m, hm⟩ : ∃ m, m = min n 500 := ⟨_, rfl⟩
  have HM : Aside ((min (n : Int) 500).toNat = m) := ⟨by omega⟩
  have hmn : m ≤ n := by omega
  have hmc : m ≤ c := by omega
  have hcl : (c : Int) ≤ 9223372036854775807 := by unfold maxLen at hc; omega
  rw [← hm] at hn0 ⊢
  clear hm
  have h1 := hw.alloc (.cells #[x0, x1, x2, .slice A n c] 35)
  have H1 := Aside.mk h1
  clear hw h1
  go_enter Tryd.func15, Tryd.ntmps15
  go_wp2
  go_ret
  exact ⟨by rw [← HM.out]; rfl, H1.out.right⟩
theorem rec_ok {W : World} {r : RecV} (h : rdRec.ok W r) : RecOk W r := by
  obtain ⟨h0, h1, h2, h3, -⟩ := h
  have b := bytes_ok h3
  exact ⟨wf64_of h0, wf64_of h1, wf64_of h2, b.1, b.2.1, b.2.2.1, b.2.2.2⟩
end Go.Proofs.YthifabopnabjoaaDoor
/- WalNobody: the walk. -/
namespace Go.Proofs.YthifabopnabjoaaDoor
open Go.RowKit HP
set_option linter.unusedSimpArgs false
set_option linter.unusedVariables false

def NoDk (p : Value) (w : World) : Prop := Calls Tryd.prog 27 #[p] w fun e w' => e = .returned (.bool true) ∧ w' = w
set_option maxHeartbeats 1000000 in
set_option maxRecDepth 100000 in
theorem wnone_append (p x1 x2 x3 : Value) (A : Option Addr) (n c : Nat) (w : World) (hn5 : n ≤ 500) (hn : NoDk p w) : Calls Tryd.prog 8 #[p, x1, x2, x3, .slice A n c] w fun e w' => e = .returned (.tuple #[.int .i64 0, .int .i64 2]) ∧ w' = w := by
  have HN := Aside.mk (none_fuse p (-1) w hn)
  clear hn
  go_enter Tryd.func8, Tryd.ntmps8
  go_wp2_with fail
  refine (wal_need n _ (by unfold wf64; omega)).mono ?_
  rintro e w1 ⟨rfl, hw1⟩
  subst w1
  go_wp2_with fail
  refine HN.out.mono ?_
  rintro e w1 ⟨rfl, hw1⟩
  subst w1
  clear HN
  go_wp2
  go_ret2
  exact ⟨rfl, rfl⟩
set_option maxHeartbeats 1000000 in
set_option maxRecDepth 100000 in
theorem wnone_read (p x1 x2 : Value) (w : World) (hn : NoDk p w) : Calls Tryd.prog 16 #[p, x1, x2] w fun e w' => e = .returned (.tuple #[.slice none 0 0, .int .i64 2]) ∧ w' = w := by
  have HN := Aside.mk (none_fuse p (-1) w hn)
  clear hn
  go_enter Tryd.func16, Tryd.ntmps16
  go_wp2_with fail
  refine HN.out.mono ?_
  rintro e w1 ⟨rfl, hw1⟩
  subst w1
  clear HN
  go_wp2
  go_ret2
  exact ⟨rfl, rfl⟩
set_option maxHeartbeats 4000000 in
set_option maxRecDepth 100000 in
theorem walNobody_ok (E : Env) (q : HP) (x0 x1 x2 : Value) (A : Option Addr) (n c : Nat) (w : World) (hn : n ≤ c) (hc : c ≤ maxLen) (hq : ∀ w, Sat E w q → Quarter w ∧ Lib.TabIs Tryd.prog w "internal/strconv.uint64pow10" .u64 Lib.pow10Tab) (hw : Sat E w q) :
    Calls Tryd.prog 4 #[.agg #[x0, x1, x2, .slice A n c]] w fun e w' => e = .returned (.bool true) ∧ Sat E w' q := by
  have h1 := ((hw.alloc (.cells #[x0, x1, x2, .slice A n c] 35)).alloc (.cells #[.int .i64 0, .map none, .int .i64 0] 38)).alloc (.cells #[.pointer none, .pointer (some ⟨w.heap.size + 1, 0, none⟩)] 23)
  have hz : (w.alloc (.cells #[x0, x1, x2, .slice A n c] 35)).heap.size = w.heap.size + 1 := by simp
  have hz2 : ((w.alloc (.cells #[x0, x1, x2, .slice A n c] 35)).alloc (.cells #[.int .i64 0, .map none, .int .i64 0] 38)).heap.size = w.heap.size + 1 + 1 := by simp
  rw [hz, hz2] at h1
  have HQ := Aside.mk (And.intro hq (And.intro hn hc))
  have H1 := Aside.mk h1
  clear hq hw h1 hz hz2 hn hc
  go_enter Tryd.func4, Tryd.ntmps4
  go_wp2
  go_loopw [13] (fun v13 wr => ∃ k : Nat, k ≤ 2 ∧ v13 = .int .i64 k ∧ Aside (Sat E wr (HP.pt (w.heap.size + 1 + 1) (.cells #[.pointer none, .pointer (some ⟨w.heap.size + 1, 0, none⟩)] 23) * (HP.pt (w.heap.size + 1) (.cells #[.int .i64 0, .map none, .int .i64 0] 38) * (HP.pt w.heap.size (.cells #[x0, x1, x2, .slice A n c] 35) * q))))) (fun i _ => 2 - (intOf i).toNat)
  case atStart => exact ⟨0, by omega, rfl, H1⟩
  case round =>
    clear H1
    obtain ⟨k, hk, rfl, HS⟩ := hrel
    by_cases hlt : k < 2
    · have hlt2 : (k : Int) < 2 := by omega
      obtain ⟨X, hX⟩ : ∃ X, X = (HP.pt (w.heap.size + 1 + 1) (.cells #[.pointer none, .pointer (some ⟨w.heap.size + 1, 0, none⟩)] 23) * (HP.pt (w.heap.size + 1) (.cells #[.int .i64 0, .map none, .int .i64 0] 38) * (HP.pt w.heap.size (.cells #[x0, x1, x2, .slice A n c] 35) * q))) := ⟨_, rfl⟩
      obtain ⟨p, hp, HN⟩ : ∃ p, wr.cell? ⟨w.heap.size + 1 + 1, k, none⟩ = some p ∧ Aside (∀ w', Sat E w' X → NoDk p w') := by
        rw [hX]
        rcases Nat.lt_or_ge k 1 with h0 | h0
        · obtain rfl : k = 0 := by omega
          have := HS.out.cell 0
          exact ⟨_, this, ⟨fun w' _ => disk_none_nil w'⟩⟩
        · obtain rfl : k = 1 := by omega
          have := HS.out.cell 1
          exact ⟨_, this, ⟨fun w' h => disk_none_new E _ _ w' h.s2⟩⟩
      have HG : Aside (∀ w', Sat E w' X → w'.cell? ⟨w.heap.size, 0, none⟩ = some x0 ∧ w'.cell? ⟨w.heap.size, 1, none⟩ = some x1 ∧ w'.cell? ⟨w.heap.size, 2, none⟩ = some x2 ∧ w'.cell? ⟨w.heap.size, 3, none⟩ = some (.slice A n c)) := ⟨fun w' h => by
        rw [hX] at h
        exact ⟨h.right.right.cell 0, h.right.right.cell 1, h.right.right.cell 2, h.right.right.cell 3⟩⟩
      have HR7 : Aside (∀ w', Sat E w' X → (loadVar 35 ⟨w.heap.size, 0, none⟩).run Tryd.prog w' = .ok (.agg #[x0, x1, x2, .slice A n c]) w') := ⟨fun w' h => by
        rw [hX] at h
        exact run_loadAgg agRec (cs := [x0, x1, x2, .slice A n c]) rfl (Sat.ptCells (off := 0) h.right.right rfl)⟩
      rw [← hX] at HS
      have HXE := Aside.mk hX
      clear hX
      have HD : Aside (Sat E wr.drew X) := ⟨HS.out.drew⟩
      have gp : wr.drew.cell? ⟨w.heap.size + 1 + 1, k, none⟩ = some p := hp
      have r7 := HR7.out _ HD.out
      have hm5 : min n 500 ≤ 500 := Nat.min_le_right _ _
      go_wp2
    
      refine region_R [8, 9] [8] (fun w' => Sat E w' X) #[false, false, false, false, false, false, false, false, false, false, false, false, false, false, false] (by kernel_rfl) rfl rfl ?_
      refine wpR_pu 0 #[true, false, false, false, false, false, false, false, false, false, false, false, false, false, false] rfl onlyN_noPanic (by kernel_rfl) (fun K hK => ?_); (go_simp; try go_bits); refine hK _ ?_; clear hK K
      refine wpR_pu 1 #[true, true, false, false, false, false, false, false, false, false, false, false, false, false, false] rfl onlyN_noPanic (by kernel_rfl) (fun K hK => ?_); (go_simp; try go_bits); refine hK _ ?_; clear hK K
      refine wpR_held (i := 2) (v := x0) #[true, true, true, false, false, false, false, false, false, false, false, false, false, false, false] rfl onlyN_noPanic (by kernel_rfl) HD.out (.inl ⟨rfl, fun w' hT => ?_⟩) ?_
      · obtain ⟨g0, g1, g2, g3⟩ := HG.out _ hT; clear gp; go_simp
      simp only [Act.put, List.setIfInBounds_toArray, List.set_cons_zero, List.set_cons_succ]
      refine wpR_pu 3 #[true, true, true, true, false, false, false, false, false, false, false, false, false, false, false] rfl onlyN_noPanic (by kernel_rfl) (fun K hK => ?_); (go_simp; try go_bits); refine hK _ ?_; clear hK K
      refine wpR_held (i := 4) (v := x1) #[true, true, true, true, true, false, false, false, false, false, false, false, false, false, false] rfl onlyN_noPanic (by kernel_rfl) HD.out (.inl ⟨rfl, fun w' hT => ?_⟩) ?_
      · obtain ⟨g0, g1, g2, g3⟩ := HG.out _ hT; clear gp; go_simp
      simp only [Act.put, List.setIfInBounds_toArray, List.set_cons_zero, List.set_cons_succ]
      refine wpR_pu 5 #[true, true, true, true, true, true, false, false, false, false, false, false, false, false, false] rfl onlyN_noPanic (by kernel_rfl) (fun K hK => ?_); (go_simp; try go_bits); refine hK _ ?_; clear hK K
      refine wpR_held (i := 6) (v := x2) #[true, true, true, true, true, true, true, false, false, false, false, false, false, false, false] rfl onlyN_noPanic (by kernel_rfl) HD.out (.inl ⟨rfl, fun w' hT => ?_⟩) ?_
      · obtain ⟨g0, g1, g2, g3⟩ := HG.out _ hT; clear gp; go_simp
      simp only [Act.put, List.setIfInBounds_toArray, List.set_cons_zero, List.set_cons_succ]
      refine wpR_read (i := 7) #[true, true, true, true, true, true, true, true, false, false, false, false, false, false, false] rfl onlyN_noPanic (by kernel_rfl) (.inl ⟨rfl, exec_load rfl rfl r7⟩) ?_
      simp only [Act.put, List.setIfInBounds_toArray, List.set_cons_zero, List.set_cons_succ]
      refine wpR_keep #[true, true, true, true, true, true, true, true, true, false, false, false, false, false, false] (i := 8) rfl (by kernel_rfl) (fun K hK => ?_)
      go_simp; refine (rec_cut E X x0 x1 x2 A n c _ HQ.out.2.1 HQ.out.2.2 HD.out).mono ?_; rintro e w5 ⟨rfl, h5⟩; have H5 := Aside.mk h5; clear HD gp r7; refine hK _ _ h5 ?_; clear hK K h5
      refine wpR_eff #[true, true, true, true, true, true, true, true, true, true, false, false, false, false, false] (i := 9) rfl (by kernel_rfl) (fun K hK => ?_)
      go_simp; refine (wnone_append p x0 x1 x2 A _ c _ hm5 (HN.out _ H5.out)).mono ?_; rintro e w6 ⟨rfl, hw6⟩; subst w6; refine hK _ _ ?_; clear hK K
      refine wpR_rd 10 #[true, true, true, true, true, true, true, true, true, true, true, false, false, false, false] rfl onlyN_noPanic (by kernel_rfl) (fun K hK => ?_); (go_simp; try go_bits); refine hK _ ?_; clear hK K
      refine wpR_rd 11 #[true, true, true, true, true, true, true, true, true, true, true, true, false, false, false] rfl onlyN_noPanic (by kernel_rfl) (fun K hK => ?_); (go_simp; try go_bits); refine hK _ ?_; clear hK K
      refine wpR_rd 12 #[true, true, true, true, true, true, true, true, true, true, true, true, true, false, false] rfl onlyN_noPanic (by kernel_rfl) (fun K hK => ?_); (go_simp; try go_bits); refine hK _ ?_; clear hK K
      refine wpR_rd 13 #[true, true, true, true, true, true, true, true, true, true, true, true, true, true, false] rfl onlyN_noPanic (by kernel_rfl) (fun K hK => ?_); (go_simp; try go_bits); refine hK _ ?_; clear hK K
      refine wpR_rd 14 #[true, true, true, true, true, true, true, true, true, true, true, true, true, true, true] rfl onlyN_noPanic (by kernel_rfl) (fun K hK => ?_); (go_simp; try go_bits); refine hK _ ?_; clear hK K
      refine wpR_done (by kernel_rfl) ?_ _
      simp only [OnlyN]
      obtain ⟨g0, g1, g2, g3⟩ := HG.out _ H5.out
      have HN5 := Aside.mk (HN.out _ H5.out)
      go_wp2_with fail
      refine (wnone_read p x0 x1 _ HN5.out).mono ?_
      rintro e w6 ⟨rfl, hw6⟩
      subst w6
      have HS2 : Aside (Sat E w5 (HP.pt (w.heap.size + 1 + 1) (.cells #[.pointer none, .pointer (some ⟨w.heap.size + 1, 0, none⟩)] 23) * (HP.pt (w.heap.size + 1) (.cells #[.int .i64 0, .map none, .int .i64 0] 38) * (HP.pt w.heap.size (.cells #[x0, x1, x2, .slice A n c] 35) * q)))) := ⟨by rw [← HXE.out]; exact H5.out⟩
      clear g0 g1 g2 g3 HN5 HG HR7 HN H5 HXE hp HS
      go_wp2
      go_roundw
      case rel => exact ⟨k + 1, by omega, by push_cast; rfl, HS2⟩
      case measure => simp [intOf]; omega
    · obtain rfl : k = 2 := by omega
      go_wp2_with fail
      refine (awake18_ok E _ _ (fun w h => HQ.out.1 w h.right.right.right) HS.out).mono ?_
      rintro e w2 ⟨rfl, h2⟩
      go_wp2
      go_ret
      exact ⟨rfl, h2.right.right.right⟩
end Go.Proofs.YthifabopnabjoaaDoor
/- 'append(v, make([]T, k)...)' at a row of one's own: the builtin gets the number. -/
namespace Go.Proofs.YthifabopnabjoaaDoor
open Go.RowKit HP
set_option linter.unusedSimpArgs false
set_option linter.unusedVariables false

theorem zeros_one (z : Value) (n : Nat) (h : z.cells = #[z]) : Builtin.zeroCells z.cells n = (List.replicate n z).toArray := by
  unfold Builtin.zeroCells
  rw [h]
  apply Array.ext
  · simp
  · intro i h1 h2
    simp [Nat.mod_one]
theorem run_append_zeros {P : Program} {E : Env} {q : HP} {w : World} {v : Value} {n : Nat} {cs : List Value} {e t tn ty : TypeId} {i : TypeInfo} {z : Value} {kq kn : IntKind} {bytes : Nat} (ht : P.underlying t = some (.slice e)) (htn : P.underlying tn = some (.int kn)) (hi : P.info? e = some i) (hz : i.zero = some z)
    (hsize : i.size = 1) (hby : i.bytes = bytes) (hz1 : z.cells = #[z]) (hz2 : z.oneCell' = true)
    (h : Sat E w (row e 1 v n cs * q)) (k : Nat) (h0 : 0 < k) (h63 : n + k ≤ maxLen) (hbytes : (n + k) * bytes ≤ 140737488355328) :
    ∃ v' w', (Builtin.append_ #[t, tn] ty #[v, .int kq k]).run P w = .ok v' w' ∧ Sat E w' (row e 1 v' (n + k) (cs ++ List.replicate k z) * q) := by
  subst hby
  have hsmall : n + k ≤ 9223372036854775807 := by simp only [maxLen] at h63; omega
  have hcl := h.row_cases.1
  rw [Nat.mul_one] at hcl
  have hlen : (cs ++ List.replicate k z).length = n + k := by rw [List.length_append, hcl, List.length_replicate]
  have hkb : k * i.bytes ≤ 140737488355328 := by
    rw [Nat.add_mul] at hbytes
    omega
  have grown : ∀ (old : Nat), old < n + k → Sat E w q →
      Sat E (w.drew.alloc (.cells (cs.toArray ++ Builtin.zeroCells z.cells k ++ Builtin.zeroCells z.cells (grownCap w (n + k) old e - (n + k))) e)) (row e 1 (.slice (some ⟨w.heap.size, 0, none⟩) (n + k) (grownCap w (n + k) old e)) (n + k) (cs ++ List.replicate k z) * q) := by
    intro old ho hq
    have hge := grownCap_ge w (n + k) old e
    have hcm : grownCap w (n + k) old e ≤ maxLen := grownCap_le_maxLen w (n + k) old e h63
    have hs := Sat.row_mk (n := n + k) (cap := grownCap w (n + k) old e) (off := 0) (size := 1) (cs := cs ++ List.replicate k z) (hq.drew.alloc (.cells (cs.toArray ++ Builtin.zeroCells z.cells k ++ Builtin.zeroCells z.cells (grownCap w (n + k) old e - (n + k))) e)) hge hcm ?_ ?_
    · simpa using hs
    · simp only [Array.size_append, List.size_toArray, zeros_one z _ hz1, List.length_replicate, hcl]
      omega
    · rw [zeros_one z _ hz1, zeros_one z _ hz1]
      simp only [Array.toList_append, Nat.zero_mul, List.drop_zero, Nat.mul_one, ← hlen]
      exact List.take_left
  rcases h.row_cases.2 with ⟨B, hv, hn, hq⟩ | ⟨g, off, cap, cur, hv, hnc, hcm, hs, htk, hp⟩
  · subst hv
    subst hn
    have hx : cs = [] := List.eq_nil_of_length_eq_zero hcl
    subst hx
    have hgr := grown 0 (by omega) hq
    cases B with
    | none =>
      have hr := Lib.run_append_nil_zeros (P := P) w t tn ty e i z kq kn ht htn hi hz k h0 (by omega) (by omega) (by omega)
      simp only [Nat.zero_add, List.nil_append, Array.empty_append] at hgr ⊢
      exact ⟨_, _, hr, hgr⟩
    | some b =>
      have hold : (Builtin.firstCells i.size 0 (.slice (some b) 0 0)).run P w.drew = .ok ([] : List Value).toArray w.drew := by
        simp [Builtin.firstCells, loadCells, loadCellsFrom]
      have hr := Lib.run_append_grow_zeros (P := P) w t tn ty e i z kq kn ht htn hi hz (some b) 0 0 [] hold k h0 (by omega) (by omega) (by omega) (by omega) (growslice_fits (by omega) (by simpa using hbytes))
      simp only [Nat.zero_add, List.nil_append, Array.empty_append] at hgr hr ⊢
      exact ⟨_, _, hr, hgr⟩
  · subst hv
    simp only [Nat.mul_one] at hs htk h ⊢
    have hcells : ∀ j u, cs[j]? = some u → w.cell? ((⟨g, off, none⟩ : Addr).add j) = some u := h.row_cells.some_
    by_cases hroom : n + k ≤ cap
    · have hfit : off + n + (List.replicate k z).length ≤ cur.size := by rw [List.length_replicate]; omega
      have hst := run_storeCells_at P g (off + n) e (List.replicate k z) 0 cur w hp.get (by simpa using hfit) (fun u hu => by rw [List.eq_of_mem_replicate hu]; exact hz2)
      simp only [Nat.add_zero] at hst
      have hneg : ¬ ((k : Int) < 0) := by omega
      have hk63 : IntKind.i64.wrap (k : Int) = k := by rw [IntKind.wrap_i64]; omega
      have h48i : ¬ (281474976710656 < (k : Int) * (i.bytes : Int)) := by
        rw [← Int.natCast_mul]
        omega
      have hkn : k ≠ 0 := by omega
      refine ⟨.slice (some ⟨g, off, none⟩) (n + k) cap, w.setRow g (cur.toList.take (off + n) ++ List.replicate k z ++ cur.toList.drop (off + n + (List.replicate k z).length)).toArray, ?_, ?_⟩
      · simp [Builtin.append_, run_underlying ht, run_underlying htn, sizeOf, typeInfo, zeroValue, hi, hz, asInt, asIntOf, hk63, hneg, h48i, hsize, hkn, hroom, Addr.add_lit, zeros_one z _ hz1, hst]
      · have ht' := hp.turn (w' := w.setRow g (cur.toList.take (off + n) ++ List.replicate k z ++ cur.toList.drop (off + n + (List.replicate k z).length)).toArray) (o' := .cells (cur.toList.take (off + n) ++ List.replicate k z ++ cur.toList.drop (off + n + (List.replicate k z).length)).toArray e) ⟨rfl, rfl, rfl, by simp⟩
          (setRow_heap w g cur _ e _ hp.get) (fun j hj _ => setRow_other w g j _ hj)
        have hm := ht'.row_mk (off := off) (size := 1) (n := n + k) (cap := cap) (cs := cs ++ List.replicate k z) hroom hcm ?_ ?_
        · simpa using hm
        · simp only [List.size_toArray, List.length_append, List.length_take, List.length_drop, Array.length_toList, List.length_replicate]
          omega
        · have := splice_take cur.toList (List.replicate k z) off n (by simpa using hfit)
          rw [htk, List.length_replicate] at this
          simp only [Nat.mul_one, List.length_replicate]
          exact this
    · have hold : (Builtin.firstCells i.size n (.slice (some ⟨g, off, none⟩) n cap)).run P w.drew = .ok cs.toArray w.drew := by
        have := run_firstCells_some (P := P) w.drew i.size n ⟨g, off, none⟩ n cap cs (by rw [hsize, hcl]; omega) (fun j u hj => hcells j u hj)
        exact this
      have hr := Lib.run_append_grow_zeros (P := P) w t tn ty e i z kq kn ht htn hi hz (some ⟨g, off, none⟩) n cap cs hold k h0 (by omega) (by omega) (by omega) (by omega) (growslice_fits (by omega) hbytes)
      exact ⟨_, _, hr, grown cap (by omega) hp.right⟩
theorem wpList_append_zeros {P : Program} {E : Env} {q : HP} {w : World} {v : Value} {n : Nat} {cs : List Value} {e t tn : TypeId} {z : Value} {kq kn : IntKind} {bytes : Nat} {ops : Array Oper} {rest : List Oper} {o : Oper} {a : Act} {Q : Exit → Act → World → Prop} {s x : Operand} (T : SlTy P t e z 1 bytes) (htn : P.underlying tn = some (.int kn)) (hz1 : z.cells = #[z]) (hz2 : z.oneCell' = true) (hgd : o.guard = none)
    (ho : o.op = .call { callee := .builtin .append, args := #[s, x], argTypes := #[t, tn] }) {k : Nat} (hs : a.eval s = v) (hx : a.eval x = .int kq k)
    (h : Sat E w (row e 1 v n cs * q)) (h0 : 0 < k) (h63 : n + k ≤ maxLen) (hbytes : (n + k) * bytes ≤ 140737488355328)
    (hk : ∀ v' w', Sat E w' (row e 1 v' (n + k) (cs ++ List.replicate k z) * q) → wpList P ops Q rest (a.put o.dst v') w') : wpList P ops Q (o :: rest) a w := by
  obtain ⟨i, hi, hz, hsize, hby⟩ := info_parts T.info
  obtain ⟨v', w', hr, h2⟩ := run_append_zeros (P := P) (ty := o.type) (kq := kq) T.under htn hi hz hsize hby hz1 hz2 h k h0 h63 hbytes
  exact Lib.wpList_append_run w hgd s x t tn ho v (.int kq k) hs hx v' w' hr (hk v' w' h2)
end Go.Proofs.YthifabopnabjoaaDoor
/- WalCuts: the walk. -/
namespace Go.Proofs.YthifabopnabjoaaDoor
open Go.RowKit HP
set_option linter.unusedSimpArgs false
set_option linter.unusedVariables false

set_option maxHeartbeats 1000000 in
set_option maxRecDepth 100000 in
theorem bytesClone_ok (E : Env) (q : HP) (A : Option Addr) (l : List Int) (n c : Nat) (w : World) (hn : l.length = n) (hl : n ≤ 1000000) (hw : Sat E w q) (hc : Cells w A (b8s l)) :
    Calls Tryd.prog 17 #[.slice A n c] w fun e w' => ∃ v, e = .returned v ∧ Sat E w' (HP.row 5 1 v n (b8s l) * q) := by
  go_enter Tryd.func17, Tryd.ntmps17
  cases A with
  | none =>
    have hl0 : l = [] := by
      cases l with
      | nil => rfl
      | cons x l => obtain ⟨a, ha, _⟩ := hc.at_ 0 (by simp [b8s]); cases ha
    subst hl0
    obtain rfl : n = 0 := by simpa using hn.symm
    have hnil := Lib.run_eql_slice_nil (P := Tryd.prog) w 22 5 none 0 c 0 0 Tryd.underlying22
    go_wp2
    go_ret
    exact ⟨_, rfl, hw.row_nil _ _ _⟩
  | some a =>
    have hil : (b8s l).length = n * 1 := by simp [b8s, hn]
    have hall : (b8s l).all Value.oneCell' = true := by simp [b8s, Value.oneCell']
    have HH := Aside.mk (And.intro hw (And.intro hc (And.intro hil hall)))
    clear hw hc hil hall hn
    have hnil := Lib.run_eql_slice_nil (P := Tryd.prog) w 22 5 (some a) n c 0 0 Tryd.underlying22
    go_wp2_with (at_builtin; refine wpList_append_row slB8 rfl rfl (by rfl) (by rfl) (((HH.out.1.alloc _).right).row_nil _ _ _) (HH.out.2.1.alloc _) HH.out.2.2.1 HH.out.2.2.2 (by unfold maxLen; omega) (by omega) (fun v4 w4 hw4 => ?_))
    go_ret
    refine ⟨_, rfl, ?_⟩
    simpa using hw4
set_option maxHeartbeats 2000000 in
set_option maxRecDepth 100000 in
theorem walCuts_ok (E : Env) (q : HP) (r : RecV) (f : Int) (w : World) (hf : wf64 f) (hr : ∀ w, Sat E w q → RecOk w r) (hq : ∀ w, Sat E w q → Quarter w ∧ Lib.TabIs Tryd.prog w "internal/strconv.uint64pow10" .u64 Lib.pow10Tab) (hw : Sat E w q) :
    Calls Tryd.prog 5 #[.agg #[.int .i64 r.seg, .int .i64 r.at_, .int .i64 r.lsn, .slice r.b.A r.b.l.length r.b.cap], .int .i64 f] w fun e w' => e = .returned (.bool true) ∧ Sat E w' q := by
  have hr0 := hr w hw
  obtain ⟨m, hm⟩ : ∃ m, m = min r.b.l.length 500 := ⟨_, rfl⟩
  obtain ⟨T, hT⟩ : ∃ T, T = r.cut ++ List.replicate 200 0 := ⟨_, rfl⟩
  have hTl : T.length = m + 200 := by rw [hT, List.length_append, r.cut_length, List.length_replicate, hm]
  have hTb : Bytes T := by
    rw [hT]
    exact hr0.cut_bytes.append (fun x hx => by rw [List.eq_of_mem_replicate hx]; omega)
  have hTc : b8s r.cut ++ List.replicate 200 (.int .u8 0) = b8s T := by rw [hT]; unfold b8s; rw [List.map_append, List.map_replicate]
  have hm5 : m ≤ 500 := by omega
  have hwn := wneed_chunk (n := m + 200) (by omega) (by omega)
  obtain ⟨KN, hKN⟩ : ∃ KN, KN = chunkW (m + 200 + 4) := ⟨_, rfl⟩
  have hK2 : 2 ≤ KN ∧ KN ≤ 7 := by rw [hKN]; unfold chunkW; omega
  obtain ⟨B, hB⟩ := app_new (room := 60) (seg := 1) (b := T) twoW1 (by omega) (by omega) hTb (by omega) (by omega) (by rw [hTl, hwn, ← hKN]; omega)
  have HEQ : Aside (appendW (Dk.new 60) 1 0 1 T = (((KN : Int), 0), B)) := ⟨by have := hB.eq; rw [hTl, hwn, ← hKN] at this; exact this⟩
  have HCUT : Aside (∀ j, 0 < j → j < KN → readG B (nameW 1) j j 0 [] = none) := ⟨fun j h1 h2 => read_cut hB (by omega) (by omega) h1 (by rw [hTl, ← hKN]; exact h2)⟩
  have HPAST : Aside (readG B (nameW 1) (KN + 1) (KN + 1) 0 [] = none) := ⟨by have := read_past hB (by omega) (by omega); rw [hTl, ← hKN] at this; exact this⟩
  have HBY := Aside.mk hB.has.bytes
  have HQ := Aside.mk (And.intro hq (And.intro hr (And.intro hw (And.intro hm (And.intro hTl (And.intro hTb hTc))))))
  obtain ⟨U, hU⟩ : ∃ U, U = IntKind.u64.wrap f := ⟨_, rfl⟩
  have hU0 : 0 ≤ U ∧ U < 18446744073709551616 := by rw [hU, IntKind.wrap_u64]; omega
  obtain ⟨j, hj⟩ : ∃ j : Nat, (j : Int) = U.tmod ((KN : Int) - 1) := ⟨(U.tmod ((KN : Int) - 1)).toNat, by rw [Int.tmod_eq_emod_of_nonneg hU0.1]; have := Int.emod_nonneg U (show (KN : Int) - 1 ≠ 0 by omega); omega⟩
  have hj2 : j + 1 < KN := by
    have : (j : Int) < (KN : Int) - 1 := by rw [hj, Int.tmod_eq_emod_of_nonneg hU0.1]; exact Int.emod_lt_of_pos _ (by omega)
    omega
  clear hq hr hw hm hTl hTb hTc hB hwn hKN hr0 hT
  have h1 := HQ.out.2.2.1.alloc (.cells #[.int .i64 r.seg, .int .i64 r.at_, .int .i64 r.lsn, .slice r.b.A r.b.l.length r.b.cap] 35)
  have H1 := Aside.mk h1
  clear h1
  go_enter Tryd.func5, Tryd.ntmps5
  go_wp2_with fail
  refine (rec_cut E _ _ _ _ r.b.A r.b.l.length r.b.cap _ (HQ.out.2.1 _ HQ.out.2.2.1).le (HQ.out.2.1 _ HQ.out.2.2.1).cap H1.out).mono ?_
  rintro e w2 ⟨rfl, h2⟩
  rw [← HQ.out.2.2.2.1]
  have H2 := Aside.mk h2
  clear h2 H1
  go_wp2_with fail
  refine (bytesClone_ok E _ r.b.A r.cut m r.b.cap _ (by rw [r.cut_length]; exact HQ.out.2.2.2.1.symm) (by omega) H2.out.right (HQ.out.2.1 _ H2.out.right).cut_cells).mono ?_
  rintro e w3 ⟨v, rfl, h3⟩
  have H3 := Aside.mk h3
  clear h3 H2
  go_wp2_with (at_builtin; refine wpList_append_zeros slB8 Tryd.underlying3 (by rfl) (by rfl) rfl rfl (k := 200) (by rfl) (by rfl) H3.out (by omega) (by unfold maxLen; omega) (by omega) (fun v4 w4 hw4 => ?_); have H4 := Aside.mk hw4; clear hw4)
  have h4 := H4.out
  clear H4
  rw [HQ.out.2.2.2.2.2.2] at h4
  obtain ⟨A4, c4, rfl, hc4, hm4⟩ := h4.row_slice
  have H4 := Aside.mk h4
  have HC4 := Aside.mk (And.intro hc4 hm4)
  clear h4 H3 hc4 hm4
  go_wp2_with fail
  refine (disk_new_ok E _ 60 _ ⟨by omega, by omega⟩ H4.out).mono ?_
  rintro e w5 ⟨d, rfl, h5⟩
  have H5 := Aside.mk h5
  clear h5
  go_wp2_with fail
  refine (wal_append E _ d (Dk.new 60) 1 0 1 A4 T (m + 200) c4 _ (by unfold wf64; omega) (by unfold wf64; omega) (by unfold wf64; omega) HQ.out.2.2.2.2.1 HC4.out.1 HC4.out.2 HQ.out.2.2.2.2.2.1 (fun w' h => ⟨(HQ.out.1 w' h.right).1, (HQ.out.1 w' h.right).2, h.row_cells⟩) H5.out).mono ?_
  rintro e w6 ⟨rfl, h6⟩
  rw [HEQ.out] at h6 ⊢
  have H6 := Aside.mk h6.drop2
  clear h6 H5 H4
  have x1 : IntKind.u64.wrap ((KN : Int) - 1) = (KN : Int) - 1 := by rw [IntKind.wrap_u64]; omega
  have x2 : IntKind.i64.wrap (j : Int) = (j : Int) := by rw [IntKind.wrap_i64]; omega
  have x3 : IntKind.u64.wrap (j : Int) = (j : Int) := by rw [IntKind.wrap_u64]; omega
  have x4 : ((KN : Int) - 1 == 0) = false := by rw [beq_eq_false_iff_ne]; omega
  have x5 : ¬ ((KN : Int) - 1 = 0) := by omega
  have x6 := hj.symm
  have x7 := hU.symm
  clear hj hU
  have HRD : Aside (∀ w', Sat E w' (HP.disk d B * q) → Calls Tryd.prog 16 #[.pointer (some ⟨d, 0, none⟩), .int .i64 1, .int .i64 (1 + (j : Int))] w' fun e w'' => e = .returned (.tuple #[.slice none 0 0, .int .i64 50]) ∧ Sat E w'' (HP.disk d B * q)) := ⟨fun w' h => by
    have h1 := wal_read E q d B 1 (1 + j) w' (by omega) (by omega) (by omega) HBY.out HQ.out.1 h
    rw [HCUT.out (1 + j) (by omega) (by omega)] at h1
    exact h1⟩
  have HRD2 : Aside (∀ w', Sat E w' (HP.disk d B * q) → Calls Tryd.prog 16 #[.pointer (some ⟨d, 0, none⟩), .int .i64 1, .int .i64 ((KN : Int) + 1)] w' fun e w'' => e = .returned (.tuple #[.slice none 0 0, .int .i64 50]) ∧ Sat E w'' (HP.disk d B * q)) := ⟨fun w' h => by
    have h1 := wal_read E q d B 1 (KN + 1) w' (by omega) (by omega) (by omega) HBY.out HQ.out.1 h
    rw [HPAST.out] at h1
    exact h1⟩
  go_wp2_with fail
  refine (HRD.out _ H6.out).mono ?_
  rintro e w7 ⟨rfl, h7⟩
  have H7 := Aside.mk h7
  clear h7 H6 HRD x1 x2 x3 x4 x5 x6 x7
  go_wp2_with fail
  refine (HRD2.out _ H7.out).mono ?_
  rintro e w8 ⟨rfl, h8⟩
  have H8 := Aside.mk h8
  clear h8 H7 HRD2
  go_wp2
  go_ret
  exact ⟨rfl, H8.out.right⟩
end Go.Proofs.YthifabopnabjoaaDoor
