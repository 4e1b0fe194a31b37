/- wal.Append. -/
import Derived.Test.YtanlgadijndmaaaDoorWb2
import Derived.Lib.SlBytesConst
namespace Go.Proofs.YtanlgadijndmaaaDoor
open Go.RowKit HP
set_option linter.unusedSimpArgs false
set_option linter.unusedVariables false

theorem appendW_bad {A : Dk} {seg at_ lsn : Int} {b : List Int} (h : ¬ AppOk seg at_ lsn (wneedI b.length)) : appendW A seg at_ lsn b = ((0, 1), A) := by
  unfold appendW
  rw [if_neg h]
set_option maxHeartbeats 4000000 in
set_option maxRecDepth 100000 in
theorem wal_append (E : Env) (q : HP) (d : Nat) (A : Dk) (seg at_ lsn : Int) (Ap : Option Addr) (b : List Int) (n c : Nat) (w : World) (hs : wf64 seg) (ha : wf64 at_) (hl : wf64 lsn) (hbn : b.length = n) (hnc : n ≤ c) (hcm : c ≤ maxLen) (hb : Bytes b)
    (hq : ∀ w, Sat E w q → Quarter w ∧ Lib.TabIs Tryd.prog w "internal/strconv.uint64pow10" .u64 Lib.pow10Tab ∧ Cells w Ap (b8s b)) (hw : Sat E w (HP.disk d A * q)) :
    Calls Tryd.prog 38 #[.pointer (some ⟨d, 0, none⟩), .int .i64 seg, .int .i64 at_, .int .i64 lsn, .slice Ap n c] w fun e w' => e = .returned (.tuple #[.int .i64 (appendW A seg at_ lsn b).1.1, .int .i64 (appendW A seg at_ lsn b).1.2]) ∧ Sat E w' (HP.disk d (appendW A seg at_ lsn b).2 * q) := by
  have hn64 : wf64 (n : Int) := by unfold wf64 maxLen at *; omega
  have HQ := Aside.mk (And.intro hq (And.intro hw (And.intro hbn (And.intro hb hn64))))
  have HSZ := Aside.mk (nameW_size hs)
  have H64 := Aside.mk hs
  unfold wf64 at hs ha hl
  obtain ⟨N, hN⟩ : ∃ N, N = wneedI n := ⟨_, rfl⟩
  have HN := Aside.mk hN
  have hN0 : 0 ≤ N ∧ N ≤ 10000 := by rw [hN]; unfold wneedI; split <;> omega
  have HBAD : Aside (¬ AppOk seg at_ lsn N → appendW A seg at_ lsn b = ((0, 1), A)) := ⟨fun h => appendW_bad (by rw [hbn, ← hN]; exact h)⟩
  have HOK : Aside (AppOk seg at_ lsn N → appendW A seg at_ lsn b = (if (wrP A (nameW seg) at_.toNat lsn.toNat (piecesW (textW b))).1 = 0 then (N, 0) else (0, (wrP A (nameW seg) at_.toNat lsn.toNat (piecesW (textW b))).1), (wrP A (nameW seg) at_.toNat lsn.toNat (piecesW (textW b))).2)) := ⟨fun h => by
    unfold appendW
    rw [hbn, ← hN, if_pos h]⟩
  have HCH : Aside (N ≠ 0 → 1 ≤ n ∧ n ≤ 1000000 ∧ N = (chunkW (n + 4) : Int)) := ⟨fun h => by
    have h1 : 1 ≤ n ∧ n ≤ 1000000 := by
      rw [hN] at h
      unfold wneedI at h
      split at h
      · exact absurd rfl h
      · omega
    exact ⟨h1.1, h1.2, by rw [hN]; exact wneed_chunk h1.1 h1.2⟩⟩
  clear hq hw hbn hb hN hn64 hcm
  go_enter Tryd.func38, Tryd.ntmps38
  go_wp2_with fail
  refine (wal_need n _ HQ.out.2.2.2.2).mono ?_
  rintro e w0 ⟨rfl, hw0⟩
  subst w0
  rw [← HN.out]
  go_wp2_with fail
  refine (disk_asked E q d A _ HQ.out.2.1).mono ?_
  rintro e w1 ⟨rfl, h1⟩
  have H1 := Aside.mk h1
  clear h1
  by_cases g0 : N = 0
  · subst g0
    have HX : Aside (appendW A seg at_ lsn b = ((0, 1), A)) := ⟨HBAD.out (fun h => by obtain ⟨a1, a2, a3, a4, a5, a6, a7⟩ := h; omega)⟩
    go_wp2
    all_goals (go_ret2; rw [HX.out]; exact ⟨rfl, H1.out⟩)
  by_cases g1 : seg < 0
  · have HX : Aside (appendW A seg at_ lsn b = ((0, 1), A)) := ⟨HBAD.out (fun h => by obtain ⟨a1, a2, a3, a4, a5, a6, a7⟩ := h; omega)⟩
    go_wp2
    all_goals (go_ret2; rw [HX.out]; exact ⟨rfl, H1.out⟩)
  by_cases g2 : 4611686018427387904 < seg
  · have HX : Aside (appendW A seg at_ lsn b = ((0, 1), A)) := ⟨HBAD.out (fun h => by obtain ⟨a1, a2, a3, a4, a5, a6, a7⟩ := h; omega)⟩
    go_wp2
    all_goals (go_ret2; rw [HX.out]; exact ⟨rfl, H1.out⟩)
  by_cases g3 : lsn < 0
  · have HX : Aside (appendW A seg at_ lsn b = ((0, 1), A)) := ⟨HBAD.out (fun h => by obtain ⟨a1, a2, a3, a4, a5, a6, a7⟩ := h; omega)⟩
    go_wp2
    all_goals (go_ret2; rw [HX.out]; exact ⟨rfl, H1.out⟩)
  by_cases g4 : 4611686018427387904 < lsn
  · have HX : Aside (appendW A seg at_ lsn b = ((0, 1), A)) := ⟨HBAD.out (fun h => by obtain ⟨a1, a2, a3, a4, a5, a6, a7⟩ := h; omega)⟩
    go_wp2
    all_goals (go_ret2; rw [HX.out]; exact ⟨rfl, H1.out⟩)
  by_cases g5 : at_ < 0
  · have HX : Aside (appendW A seg at_ lsn b = ((0, 1), A)) := ⟨HBAD.out (fun h => by obtain ⟨a1, a2, a3, a4, a5, a6, a7⟩ := h; omega)⟩
    go_wp2
    all_goals (go_ret2; rw [HX.out]; exact ⟨rfl, H1.out⟩)
  by_cases g6 : 2147483647 - N < at_
  · have HX : Aside (appendW A seg at_ lsn b = ((0, 1), A)) := ⟨HBAD.out (fun h => by obtain ⟨a1, a2, a3, a4, a5, a6, a7⟩ := h; omega)⟩
    go_wp2
    all_goals (go_ret2; rw [HX.out]; exact ⟨rfl, H1.out⟩)
  have hok : AppOk seg at_ lsn N := ⟨g0, by omega, by omega, by omega, by omega, by omega, by omega⟩
  have HX0 := Aside.mk (HOK.out hok)
  obtain ⟨n1, n2, hNc⟩ := HCH.out g0
  obtain ⟨K, hK⟩ : ∃ K, K = chunkW (n + 4) := ⟨_, rfl⟩
  rw [← hK] at hNc
  subst hNc
  obtain ⟨at1, rfl⟩ : ∃ at1 : Nat, at_ = (at1 : Int) := ⟨at_.toNat, by omega⟩
  obtain ⟨gen, rfl⟩ : ∃ gen : Nat, lsn = (gen : Int) := ⟨lsn.toNat, by omega⟩
  rw [Int.toNat_natCast, Int.toNat_natCast] at HX0
  have hKb : ((K : Int) == 0) = false := by rw [beq_eq_false_iff_ne]; exact g0
  have HK := Aside.mk hK
  have hwn : IntKind.u64.wrap (n : Int) = (n : Int) := by rw [IntKind.wrap_u64]; omega
  clear hok hK HBAD HOK HCH HN
  go_wp2_with fail
  refine (crc_put E _ n 4 _ (by omega) (by omega) H1.out).mono ?_
  rintro e w2 ⟨gp, rfl, h2⟩
  have h3 := h2.alloc (.cells #[.slice (some ⟨gp, 0, none⟩) 4 4, .slice Ap n c] 52)
  have H3 := Aside.mk h3
  have HQ3 : Aside (∀ w', Sat E w' (HP.row 5 1 (.slice (some ⟨gp, 0, none⟩) 4 4) 4 (b8s (putI n 4)) * (HP.disk d A * q)) → Cells w' (some ⟨gp, 0, none⟩) (b8s (putI n 4)) ∧ Cells w' Ap (b8s b)) := ⟨fun w' h => ⟨h.row_cells, (HQ.out.1 _ h.right.right).2.2⟩⟩
  clear h2 h3
  go_wp2_with fail
  refine (joined_ok E _ w2.heap.size (some ⟨gp, 0, none⟩) Ap (putI n 4) b 4 n 4 c _ (putI_length _ _) HQ.out.2.2.1 (by omega) (by omega) (by omega) HQ3.out H3.out).mono ?_
  rintro e w3 ⟨AT, cT, rfl, hcT, hmT, h4⟩
  have e4 : putI n 4 ++ b = textW b := by unfold textW; rw [HQ.out.2.2.1]
  rw [e4] at h4
  clear e4 H3 HQ3
  have htl : (textW b).length = 4 + n := by rw [textW_length, HQ.out.2.2.1]; omega
  obtain ⟨T, hT⟩ : ∃ T, T = textW b := ⟨_, rfl⟩
  have htb : Bytes T := by rw [hT]; exact textW_bytes HQ.out.2.2.2.1
  rw [← hT] at htl h4 HX0
  have HT := Aside.mk hT
  clear hT
  have hcl := h4.row_cells
  obtain ⟨a0, rfl, -⟩ := hcl.at_ 0 (by rw [b8s_length, htl]; omega)
  obtain ⟨gT, oT, rfl⟩ := slice_addr hcl rfl (k := 0) (by rw [b8s_length, htl]; omega)
  obtain ⟨L, hL⟩ : ∃ L, L = 4 + n := ⟨_, rfl⟩
  rw [← hL] at h4 htl hcT ⊢
  have HLL := Aside.mk hL
  clear hL
  have hQ2 : ∀ w', Sat E w' (HP.row 5 1 (.slice (some ⟨gT, oT, none⟩) L cT) L (b8s T) * q) → Quarter w' ∧ Lib.TabIs Tryd.prog w' "internal/strconv.uint64pow10" .u64 Lib.pow10Tab ∧ Cells w' (some ⟨gT, oT, none⟩) (b8s T) ∧ Sat E w' q := fun w' h => by
    have := HQ.out.1 _ h.right
    exact ⟨this.1, this.2.1, h.row_cells, h.right⟩
  have h5 : Sat E w3 (HP.disk d A * (HP.row 5 1 (.slice (some ⟨gT, oT, none⟩) L cT) L (b8s T) * q)) := h4.drop2.s2
  have HQ2 := Aside.mk (And.intro hQ2 (And.intro htb htl))
  have H5 := Aside.mk h5
  clear h4 h5 hQ2 htb htl hcl H1
  go_wp2_with fail
  refine (wal_name E _ seg _ H64.out (fun w' h => (HQ2.out.1 _ h.right).2.1) H5.out).mono ?_
  rintro e w4 ⟨rfl, h6⟩
  obtain ⟨name, hname⟩ : ∃ name, name = nameW seg := ⟨_, rfl⟩
  have hsz : name.size + 2 ≤ maxLen := by rw [hname]; have := HSZ.out; unfold maxLen; omega
  rw [← hname] at HX0 ⊢
  clear hname
  have hfa : (name ++ dotA).size ≤ maxLen := by rw [dotA_size]; exact hsz
  have hfb : (name ++ dotB).size ≤ maxLen := by rw [dotB_size]; exact hsz
  have HF : Aside (halvesL name = [name ++ dotA, name ++ dotB]) := ⟨rfl⟩
  have H6 := Aside.mk h6
  clear h6 H5
  go_wp2_with fail
  refine (wal_files E _ name _ hsz H6.out).mono ?_
  rintro e w5 ⟨rfl, h7⟩
  obtain ⟨fa, hfae⟩ : ∃ fa, fa = name ++ dotA := ⟨_, rfl⟩
  obtain ⟨fb, hfbe⟩ : ∃ fb, fb = name ++ dotB := ⟨_, rfl⟩
  rw [← hfae] at hfa HF ⊢
  rw [← hfbe] at hfb HF ⊢
  clear hfae hfbe hsz
  have H7 := Aside.mk h7
  clear h7 H6
  obtain ⟨ps, hps⟩ : ∃ ps, ps = piecesW T := ⟨_, rfl⟩
  rw [← hps] at HX0
  have HPS := Aside.mk (And.intro hps (And.intro HK.out HLL.out))
  clear hps HLL
  have HR : Aside (wrP A name at1 gen ps = wrL A at1 gen ps (halvesL name)) := ⟨rfl⟩
  have i0 : ∀ w, (Instr.index 144 (.agg #[.string fa, .string fb]) (.int .i64 0)).run Tryd.prog w = .ok (.string fa) w := fun w => by kernel_rfl
  have i1 : ∀ w, (Instr.index 144 (.agg #[.string fa, .string fb]) (.int .i64 1)).run Tryd.prog w = .ok (.string fb) w := fun w => by kernel_rfl
  have hL6 : L ≤ 1000004 := by have := HPS.out.2.2; omega
  have hLK : 106 * K ≤ L + 105 ∧ L ≤ 106 * K := by have := HPS.out.2.1; have := HPS.out.2.2; unfold chunkW at *; omega
  have hatK : (at1 : Int) + K ≤ 2147483647 := by omega
  have hgen : (gen : Int) ≤ 4611686018427387904 := by omega
  clear g0 g1 g2 g3 g4 g5 g6 hN0 n1 n2 hs ha hl
  go_wp2
  go_loopw [67] (fun v67 wr => ∃ (h : Nat) (A' : Dk), h ≤ 2 ∧ v67 = .int .i64 h ∧ Aside (wrL A' at1 gen ps ((halvesL name).drop h) = wrP A name at1 gen ps) ∧ Aside (Sat E wr (HP.disk d A' * (HP.row 5 1 (.slice (some ⟨gT, oT, none⟩) L cT) L (b8s T) * q)))) (fun i _ => 2 - (intOf i).toNat)
  case atStart => exact ⟨0, A, by omega, rfl, ⟨by rw [HR.out]; rfl⟩, H7⟩
  case round =>
    obtain ⟨h, A', hh, rfl, HA, HS⟩ := hrel
    by_cases hlt : h < 2
    · obtain ⟨f, hf, hff, hix⟩ : ∃ f : ByteArray, f.size ≤ maxLen ∧ (halvesL name).drop h = f :: (halvesL name).drop (h + 1) ∧ ∀ w, (Instr.index 144 (.agg #[.string fa, .string fb]) (.int .i64 (h : Int))).run Tryd.prog w = .ok (.string f) w := by
        rw [HF.out]
        rcases Nat.lt_or_ge h 1 with h0 | h0
        · obtain rfl : h = 0 := by omega
          exact ⟨fa, hfa, rfl, i0⟩
        · obtain rfl : h = 1 := by omega
          exact ⟨fb, hfb, rfl, i1⟩
      rw [hff] at HA
      clear hff
      have hlt2 : (h : Int) < 2 := by omega
      have HW : Aside (wrL A' at1 gen ps (f :: (halvesL name).drop (h + 1)) = if (wrF A' f gen at1 ps).1 = 0 then wrL (wrF A' f gen at1 ps).2 at1 gen ps ((halvesL name).drop (h + 1)) else wrF A' f gen at1 ps) := ⟨rfl⟩
      go_wp2
      go_loopw [71] (fun v71 w2 => ∃ (k : Nat) (B : Dk), k ≤ K ∧ v71 = .int .i64 k ∧ Aside (wrF B f gen (at1 + k) (ps.drop k) = wrF A' f gen at1 ps) ∧ Aside (Sat E w2 (HP.disk d B * (HP.row 5 1 (.slice (some ⟨gT, oT, none⟩) L cT) L (b8s T) * q)))) (fun i _ => K - (intOf i).toNat)
      case atStart => exact ⟨0, A', by omega, rfl, ⟨by rw [Nat.add_zero]; rfl⟩, HS⟩
      case round =>
        obtain ⟨k, B, hk, rfl, HB, HTT⟩ := hrel
        by_cases hkn : k < K
        · have hpk : ps.drop k = pieceW T k :: ps.drop (k + 1) := by
            rw [HPS.out.1]
            have hl : k < (piecesW T).length := by rw [piecesW_length, HQ2.out.2.2, HPS.out.2.2, Nat.add_comm 4 n, ← HPS.out.2.1]; exact hkn
            rw [List.drop_eq_getElem_cons hl]
            congr 1
            have := piecesW_at (l := T) (k := k) (by rw [← piecesW_length]; exact hl)
            rw [List.getElem?_eq_getElem hl] at this
            exact Option.some.inj this
          rw [hpk] at HB
          clear hpk
          obtain ⟨j, hj⟩ : ∃ j, j = 106 * k := ⟨_, rfl⟩
          obtain ⟨m, hm⟩ : ∃ m, m = min (j + 106) L := ⟨_, rfl⟩
          have x1 : (k : Int) * 106 = (j : Int) := by omega
          obtain ⟨j2, hj2⟩ : ∃ j2, j2 = j + 106 := ⟨_, rfl⟩
          have x2 : ((k : Int) + 1) * 106 = (j2 : Int) := by omega
          have x3 : (if (L : Int) < (j2 : Int) then (L : Int) else (j2 : Int)) = (m : Int) := by split <;> omega
          have x4 : min (j2 : Int) (L : Int) = (m : Int) := by omega
          have x5 : j ≤ m := by omega
          have x6 : m ≤ cT := by omega
          have x7 : m - j ≤ 106 := by omega
          have x8 : j < cT := by omega
          have hkn2 : (k : Int) < K := by omega
          obtain ⟨p, hp⟩ : ∃ p, p = pieceW T k := ⟨_, rfl⟩
          have hpl : p.length = m - j := by rw [hp, pieceW_length, HQ2.out.2.2]; omega
          have hpb : Bytes p := fun y hy => by rw [hp] at hy; exact HQ2.out.2.1 y (List.mem_of_mem_drop (List.mem_of_mem_take hy))
          have hpc : ∀ w', Sat E w' (HP.disk d B * (HP.row 5 1 (.slice (some ⟨gT, oT, none⟩) L cT) L (b8s T) * q)) → Quarter w' ∧ Cells w' (some ⟨gT, oT + j, none⟩) (b8s p) := fun w' h => by
            have h2 := HQ2.out.1 _ h.right
            refine ⟨h2.1, ?_⟩
            have h3 := (h2.2.2.1.drop j).take 106
            rw [addr_add] at h3
            rw [hp, hj] at *
            unfold pieceW
            unfold b8s at h3 ⊢
            rw [List.map_take, List.map_drop]
            exact h3
          rw [← hp] at HB
          have HP2 := Aside.mk (And.intro hpl (And.intro hpb hpc))
          clear hp hpl hpb hpc hm hj hj2
          have HN2 : Aside (wrF B f gen (at1 + k) (p :: ps.drop (k + 1)) = if ¬ FrameOk ((at1 + k : Nat) : Int) gen p.length then (1, B)
            else if (B.write f ((at1 + k : Nat) : Int) (extI f (at1 + k) gen p)).1 = 0 then wrF (B.write f ((at1 + k : Nat) : Int) (extI f (at1 + k) gen p)).2 f gen (at1 + k + 1) (ps.drop (k + 1))
            else B.write f ((at1 + k : Nat) : Int) (extI f (at1 + k) gen p)) := ⟨rfl⟩
          rw [HB.out] at HN2
          obtain ⟨i, hi⟩ : ∃ i : Nat, (at1 : Int) + k = i := ⟨at1 + k, by omega⟩
          have hi2 : at1 + k = i := by omega
          have hi3 : (i : Int) ≤ 2147483647 := by omega
          rw [hi2] at HN2
          rw [if_neg (by
            intro hn
            exact hn ⟨by omega, hi3, by omega, hgen, by rw [HP2.out.1]; exact x7⟩)] at HN2
          go_wp2_with fail
          refine (ext_frame E (HP.disk d B * (HP.row 5 1 (.slice (some ⟨gT, oT, none⟩) L cT) L (b8s T) * q)) f i gen (some ⟨gT, oT + j, none⟩) p (m - j) (cT - j) _ hf hi3 hgen HP2.out.1 x7 HP2.out.2.1 HP2.out.2.2 HTT.out).mono ?_
          rintro e w3 ⟨gI, rfl, h3⟩
          have hIl : (extI f i gen p).length = 128 := extI_length (by rw [HP2.out.1]; exact x7)
          obtain ⟨I, hIe⟩ : ∃ I, I = extI f i gen p := ⟨_, rfl⟩
          rw [← hIe] at hIl h3 HN2
          clear hIe
          have H3 := Aside.mk (And.intro h3 hIl)
          clear h3 hIl HP2
          go_wp2_with fail
          refine (disk_write E (HP.pt gI (.cells (b8s I).toArray 183) * (HP.row 5 1 (.slice (some ⟨gT, oT, none⟩) L cT) L (b8s T) * q)) d B f i (some ⟨gI, 0, none⟩) I 128 128 _ hf H3.out.2 (by unfold maxLen; omega) (fun w h => Sat.ptCells (off := 0) h (by rw [List.drop_zero, List.take_length])) H3.out.1.s2).mono ?_
          rintro e w4 ⟨rfl, h4⟩
          have H4 := Aside.mk h4.drop2
          clear h4 H3
          by_cases h0 : (B.write f (i : Int) I).1 = 0
          · rw [h0]
            rw [if_pos h0] at HN2
            generalize (B.write f (i : Int) I).2 = B2 at *
            have HX : Aside (wrF B2 f gen (at1 + (k + 1)) (ps.drop (k + 1)) = wrF A' f gen at1 ps) := ⟨by rw [HN2.out, show at1 + (k + 1) = i + 1 by omega]⟩
            clear HN2 h0 HB
            go_wp2
            go_roundw
            case rel => exact ⟨k + 1, B2, by omega, by push_cast; rfl, HX, H4⟩
            case measure => simp [intOf]; omega
          · rw [if_neg h0] at HN2
            have HX : Aside (wrP A name at1 gen ps = B.write f (i : Int) I) := ⟨by rw [← HA.out, HW.out, HN2.out, if_neg h0]⟩
            obtain ⟨ec, hec⟩ : ∃ ec, ec = (B.write f (i : Int) I).1 := ⟨_, rfl⟩
            rw [← hec] at h0 ⊢
            have HE := Aside.mk (And.intro hec h0)
            clear HN2 hec HB HA HW
            go_wp2
            go_ret2
            rw [HX0.out, HX.out, ← HE.out.1, if_neg HE.out.2]
            exact ⟨rfl, H4.out.drop2⟩
        · have hkn' : k = K := by omega
          subst hkn'
          have hpl : ps.drop k = [] := by rw [HPS.out.1]; exact List.drop_eq_nil_of_le (by rw [piecesW_length, HQ2.out.2.2, HPS.out.2.2, Nat.add_comm 4 n, ← HPS.out.2.1]; exact Nat.le_refl _)
          rw [hpl] at HB
          clear hpl
          have HB2 : Aside (wrF A' f gen at1 ps = B.sync f) := ⟨by rw [← HB.out]; rfl⟩
          clear HB hix i0 i1
          rw [HB2.out] at HW
          go_wp2_with fail
          refine (disk_sync E (HP.row 5 1 (.slice (some ⟨gT, oT, none⟩) L cT) L (b8s T) * q) d B f _ hf HTT.out).mono ?_
          rintro e w4 ⟨rfl, h4⟩
          have H4 := Aside.mk h4
          clear h4
          by_cases h0 : (B.sync f).1 = 0
          · rw [h0]
            rw [if_pos h0] at HW
            have HX : Aside (wrL (B.sync f).2 at1 gen ps ((halvesL name).drop (h + 1)) = wrP A name at1 gen ps) := ⟨by rw [← HW.out, HA.out]⟩
            generalize (B.sync f).2 = B2 at *
            clear HW HA HB2 h0
            go_wp2
            go_roundw
            case rel => exact ⟨h + 1, B2, by omega, by push_cast; rfl, HX, H4⟩
            case measure => simp [intOf]; omega
          · rw [if_neg h0] at HW
            have HX : Aside (wrP A name at1 gen ps = B.sync f) := ⟨by rw [← HA.out, HW.out]⟩
            obtain ⟨ec, hec⟩ : ∃ ec, ec = (B.sync f).1 := ⟨_, rfl⟩
            rw [← hec] at h0 ⊢
            have HE := Aside.mk (And.intro hec h0)
            clear hec HB2 HA HW
            go_wp2
            go_ret2
            rw [HX0.out, HX.out, ← HE.out.1, if_neg HE.out.2]
            exact ⟨rfl, H4.out.drop2⟩
    · have hh2 : h = 2 := by omega
      subst hh2
      rw [HF.out] at HA
      have HX : Aside (wrP A name at1 gen ps = (0, A')) := ⟨by rw [← HA.out]; rfl⟩
      clear HA i0 i1
      go_wp2
      go_ret2
      rw [HX0.out, HX.out, if_pos rfl]
      exact ⟨rfl, HS.out.drop2⟩
end Go.Proofs.YtanlgadijndmaaaDoor
/- wal, the plain part: a record appended behind another one, wherever it stops. -/
namespace Go.Proofs.YtanlgadijndmaaaDoor
open Go.RowKit HP
set_option linter.unusedSimpArgs false
set_option linter.unusedVariables false

theorem write_goes {A : Dk} {f : ByteArray} {I : List Int} (hn : namedB f = true) (hl : I.length = 128) (he : A.goes = true) (hf : 0 < A.free) : A.write f ((A.at f).length : Int) I = (0, A.burnt.set f (A.at f ++ [Cel.zero.wrote I])) := by
  unfold Dk.write
  rw [if_neg (by rw [hn, hl]; simp), if_neg (by rw [he]; simp), if_neg (by omega), if_pos rfl]
theorem write_stops {A : Dk} {f : ByteArray} {I : List Int} (hn : namedB f = true) (hl : I.length = 128) (he : A.goes = false) : A.write f ((A.at f).length : Int) I = (31, A.burnt) := by
  unfold Dk.write
  rw [if_neg (by rw [hn, hl]; simp), if_pos he]
structure Fz (A : Dk) (f : ByteArray) (gen i : Nat) (ps : List (List Int)) (r : Int × Dk) : Prop where
  sorted : Sorted r.2.files
  room : r.2.room = A.room
  others : ∀ t, f ≠ t → r.2.at t = A.at t
  out : (r.1 = 0 ∧ r.2.at f = (A.at f ++ newCels f gen i ps).map Cel.syncd ∧ sizeF r.2.files = sizeF A.files + ps.length) ∨ (r.1 = 31 ∧ ∃ j, r.2.at f = A.at f ++ newCels f gen i (ps.take j))
theorem wrF_fz {f : ByteArray} {gen : Nat} (hn : namedB f = true) (hg : (gen : Int) ≤ 4611686018427387904) : ∀ (ps : List (List Int)) (A : Dk) (i : Nat), Sorted A.files → (A.at f).length = i → (ps.length : Int) ≤ A.free → (∀ p ∈ ps, p.length ≤ 106) → i + ps.length ≤ 2147483647 → 0 < i + ps.length → Fz A f gen i ps (wrF A f gen i ps)
  | [], A, i, hs, hi, _, _, _, h0 => by
    have hl := at_some (A := A) (f := f) (by rw [hi]; simpa using h0)
    show Fz A f gen i [] (A.sync f)
    cases hgo : A.goes with
    | false =>
      have e : A.sync f = (31, A.burnt) := by unfold Dk.sync; rw [hl]; simp [hgo]
      rw [e]
      exact ⟨hs, rfl, fun _ _ => rfl, .inr ⟨rfl, 0, by simp [newCels]; rfl⟩⟩
    | true =>
      rw [sync_some hl hgo]
      have hs2 : Sorted A.burnt.files := hs
      have hz := sizeF_put hs f ((A.at f).map Cel.syncd)
      refine ⟨sorted_put f _ hs2, rfl, fun t ht => by show (A.burnt.set f _).at t = _; rw [at_set hs2, if_neg ht]; rfl, .inl ⟨rfl, ?_, ?_⟩⟩
      · show (A.burnt.set f _).at f = _
        rw [at_set hs2, if_pos rfl]
        simp [newCels]
      · show sizeF (putF A.files f _) = _
        have h2 : ((lk A.files f).getD []).length = (A.at f).length := rfl
        rw [List.length_map] at hz
        simp only [List.length_nil]
        omega
  | p :: ps, A, i, hs, hi, hf, hp, hm, _ => by
    have hpl := hp p (List.mem_cons_self ..)
    simp only [List.length_cons] at hf hm
    have hfo : FrameOk (i : Int) gen p.length := ⟨by omega, by omega, by omega, hg, hpl⟩
    cases hgo : A.goes with
    | false =>
      have hw : A.write f (i : Int) (extI f i gen p) = (31, A.burnt) := by
        have := write_stops (A := A) (f := f) (I := extI f i gen p) hn (extI_length hpl) hgo
        rw [hi] at this
        exact this
      unfold wrF
      rw [if_neg (by simpa using hfo), hw, if_neg (show ¬ ((31 : Int) = 0) by decide)]
      exact ⟨hs, rfl, fun _ _ => rfl, .inr ⟨rfl, 0, by simp [newCels]; rfl⟩⟩
    | true =>
      have hw : A.write f (i : Int) (extI f i gen p) = (0, A.burnt.set f (A.at f ++ [Cel.zero.wrote (extI f i gen p)])) := by
        have := write_goes (A := A) (f := f) (I := extI f i gen p) hn (extI_length hpl) hgo (by omega)
        rw [hi] at this
        exact this
      have hs2 : Sorted A.burnt.files := hs
      have hz := sizeF_put hs f (A.at f ++ [Cel.zero.wrote (extI f i gen p)])
      have h2 : ((lk A.files f).getD []).length = (A.at f).length := rfl
      rw [List.length_append, List.length_cons, List.length_nil] at hz
      have hA : (A.burnt.set f (A.at f ++ [Cel.zero.wrote (extI f i gen p)])).at f = A.at f ++ [Cel.zero.wrote (extI f i gen p)] := by rw [at_set hs2, if_pos rfl]
      have hA2 : ∀ t, f ≠ t → (A.burnt.set f (A.at f ++ [Cel.zero.wrote (extI f i gen p)])).at t = A.at t := fun t ht => by rw [at_set hs2, if_neg ht]; rfl
      have hsz : sizeF (A.burnt.set f (A.at f ++ [Cel.zero.wrote (extI f i gen p)])).files = sizeF A.files + 1 := by
        show sizeF (putF A.files f _) = _
        omega
      have hrm : (A.burnt.set f (A.at f ++ [Cel.zero.wrote (extI f i gen p)])).room = A.room := rfl
      have hst : Sorted (A.burnt.set f (A.at f ++ [Cel.zero.wrote (extI f i gen p)])).files := sorted_put f _ hs2
      unfold wrF
      rw [if_neg (by simpa using hfo), hw, if_pos rfl]
      generalize A.burnt.set f (A.at f ++ [Cel.zero.wrote (extI f i gen p)]) = A2 at *
      have ih := wrF_fz hn hg ps A2 (i + 1) hst (by rw [hA, List.length_append, hi]; rfl) (by unfold Dk.free at hf ⊢; omega) (fun x hx => hp x (List.mem_cons_of_mem _ hx)) (by omega) (by omega)
      refine ⟨ih.sorted, ih.room.trans hrm, fun t ht => (ih.others t ht).trans (hA2 t ht), ?_⟩
      rcases ih.out with ⟨e1, e2, e3⟩ | ⟨e1, j, e2⟩
      · refine .inl ⟨e1, ?_, ?_⟩
        · rw [e2, hA, List.append_assoc]; rfl
        · rw [e3, hsz, List.length_cons]; omega
      · refine .inr ⟨e1, j + 1, ?_⟩
        rw [e2, hA, List.append_assoc]; rfl
theorem keepOf_nil (s : ByteArray) (i : Int) : keepOf [] s i = 0 := rfl
theorem crash_at (B : Dk) (t : ByteArray) : (B.crash []).at t = (B.at t).map fun c => c.crashd 0 := by
  unfold Dk.at Dk.crash
  rw [lk_map (crashL [])]
  cases lk B.files t with
  | none => rfl
  | some l =>
    simp only [Option.map_some, Option.getD_some, crashL, keepOf_nil]
    apply List.ext_getElem?
    intro i
    simp
theorem crash_stl (I : List Int) : (stl I).crashd 0 = stl I := rfl
theorem crash_wrote_read (I : List Int) : ((Cel.zero.wrote I).crashd 0).read = List.replicate 128 0 := by
  show ([] : List Int) ++ z128 = _
  rfl
theorem newCels_mem {f : ByteArray} {gen : Nat} : ∀ {ps : List (List Int)} {i : Nat} {c : Cel}, c ∈ newCels f gen i ps → ∃ k p, p ∈ ps ∧ c = Cel.zero.wrote (extI f k gen p)
  | [], i, c, h => by cases h
  | p :: ps, i, c, h => by
    rcases List.mem_cons.1 h with rfl | h
    · exact ⟨i, p, List.mem_cons_self .., rfl⟩
    · obtain ⟨k, q, h1, h2⟩ := newCels_mem h
      exact ⟨k, q, List.mem_cons_of_mem _ h1, h2⟩
/-- A file of settled cells, and what a second writing makes of it. -/
def Later (B B2 : Dk) (f : ByteArray) (gen i : Nat) (ps : List (List Int)) : Prop := (∃ j, B2.at f = B.at f ++ newCels f gen i (ps.take j)) ∨ B2.at f = (B.at f ++ newCels f gen i ps).map Cel.syncd
theorem later_has {B B2 : Dk} {f : ByteArray} {g1 g2 i : Nat} {p1 p2 : List (List Int)} (h : B.at f = (newCels f g1 0 p1).map Cel.syncd) (hL : Later B B2 f g2 i p2) : HasAt (B2.crash []) f 0 g1 p1 := by
  intro k p hp
  have hk : k < p1.length := (List.getElem?_eq_some_iff.1 hp).1
  have h1 : (B.at f)[k]? = some (stl (extI f k g1 p)) := by
    rw [h, List.getElem?_map, newCels_get p1 0 k p hp, Nat.zero_add]; rfl
  have hkl : k < (B.at f).length := by rw [h, List.length_map, newCels_length]; exact hk
  refine ⟨stl (extI f k g1 p), ?_, by rw [Nat.zero_add]; rfl⟩
  unfold Dk.cel
  rw [if_pos (by omega), Int.toNat_natCast, Nat.zero_add, crash_at, List.getElem?_map]
  rcases hL with ⟨j, e⟩ | e
  · rw [e, List.getElem?_append_left hkl, h1]; rfl
  · rw [e, List.getElem?_map, List.getElem?_append_left hkl, h1]; rfl
theorem later_new {B B2 : Dk} {f : ByteArray} {g2 i : Nat} {p2 : List (List Int)} (hi : (B.at f).length = i) (e : B2.at f = (B.at f ++ newCels f g2 i p2).map Cel.syncd) : HasAt (B2.crash []) f i g2 p2 := by
  intro k p hp
  refine ⟨stl (extI f (i + k) g2 p), ?_, rfl⟩
  unfold Dk.cel
  rw [if_pos (by omega), Int.toNat_natCast, crash_at, List.getElem?_map, e, List.getElem?_map, List.getElem?_append_right (by omega), hi, Nat.add_sub_cancel_left, newCels_get p2 i k p hp]
  rfl
theorem later_bytes {B B2 : Dk} {f : ByteArray} {g1 g2 i : Nat} {p1 p2 : List (List Int)} (h : B.at f = (newCels f g1 0 p1).map Cel.syncd) (hL : Later B B2 f g2 i p2) (hl1 : ∀ p ∈ p1, p.length ≤ 106) (hb1 : ∀ p ∈ p1, Bytes p) (hl2 : ∀ p ∈ p2, p.length ≤ 106) (hb2 : ∀ p ∈ p2, Bytes p) :
    ∀ j c, (B2.crash []).cel f j = some c → Bytes c.read := by
  have hs1 : ∀ c ∈ B.at f, c.syncd = c ∧ c.crashd 0 = c ∧ Bytes c.read := by
    intro c hc
    rw [h] at hc
    obtain ⟨c0, h0, rfl⟩ := List.mem_map.1 hc
    obtain ⟨k, p, hp, rfl⟩ := newCels_mem h0
    exact ⟨rfl, rfl, extI_bytes (name := f) (index := k) (gen := g1) (hl1 p hp) (hb1 p hp)⟩
  intro j c hc
  unfold Dk.cel at hc
  split at hc
  · have hm := List.mem_of_getElem? hc
    rw [crash_at] at hm
    obtain ⟨c0, h0, rfl⟩ := List.mem_map.1 hm
    rcases hL with ⟨j2, e⟩ | e
    · rw [e] at h0
      rcases List.mem_append.1 h0 with h0 | h0
      · rw [(hs1 c0 h0).2.1]; exact (hs1 c0 h0).2.2
      · obtain ⟨k, p, hp, rfl⟩ := newCels_mem h0
        rw [crash_wrote_read]
        exact z_bytes 128
    · rw [e] at h0
      obtain ⟨c1, h1, rfl⟩ := List.mem_map.1 h0
      rcases List.mem_append.1 h1 with h1 | h1
      · rw [(hs1 c1 h1).1, (hs1 c1 h1).2.1]; exact (hs1 c1 h1).2.2
      · obtain ⟨k, p, hp, rfl⟩ := newCels_mem h1
        exact extI_bytes (name := f) (index := k) (gen := g2) (hl2 p hp) (hb2 p hp)
  · cases hc
structure StaysEnd (x : ByteArray) (p1 p2 : List (List Int)) (r : Int × Dk) : Prop where
  code : r.1 = 0 ∨ r.1 = 31
  first : HasBoth (r.2.crash []) x 0 1 p1
  second : r.1 = 0 → HasBoth (r.2.crash []) x p1.length 2 p2
  bytes : ∀ f ∈ halvesL x, ∀ j c, (r.2.crash []).cel f j = some c → Bytes c.read
theorem stays_end {x : ByteArray} (T : TwoNames (x ++ dotA) (x ++ dotB)) {room : Int} {p1 p2 : List (List Int)} {B : Dk} (h : NewHas room x 1 p1 B) (fz : Int) (h0 : 0 < p1.length) (h2 : 0 < p2.length) (hr : 2 * (p1.length : Int) + 2 * p2.length ≤ room) (hm : p1.length + p2.length ≤ 2147483647)
    (hl1 : ∀ p ∈ p1, p.length ≤ 106) (hb1 : ∀ p ∈ p1, Bytes p) (hl2 : ∀ p ∈ p2, p.length ≤ 106) (hb2 : ∀ p ∈ p2, Bytes p) : StaysEnd x p1 p2 (wrP { B with fuse := fz } x p1.length 2 p2) := by
  have la : (B.at (x ++ dotA)).length = p1.length := by rw [h.held.a, List.length_map, newCels_length]
  have lb : (B.at (x ++ dotB)).length = p1.length := by rw [h.held.b, List.length_map, newCels_length]
  have hfr := h.free
  have z1 := wrF_fz (f := x ++ dotA) (gen := 2) T.na (by omega) p2 { B with fuse := fz } p1.length h.sorted la (by show (p2.length : Int) ≤ B.free; omega) hl2 hm (by omega)
  have nob : Later B { B with fuse := fz } (x ++ dotB) 2 p1.length p2 := .inl ⟨0, by simp [newCels]; rfl⟩
  have fin : ∀ r : Int × Dk, (r.1 = 0 ∨ r.1 = 31) → Later B r.2 (x ++ dotA) 2 p1.length p2 → Later B r.2 (x ++ dotB) 2 p1.length p2 →
      (r.1 = 0 → r.2.at (x ++ dotA) = (B.at (x ++ dotA) ++ newCels (x ++ dotA) 2 p1.length p2).map Cel.syncd ∧ r.2.at (x ++ dotB) = (B.at (x ++ dotB) ++ newCels (x ++ dotB) 2 p1.length p2).map Cel.syncd) → StaysEnd x p1 p2 r := by
    intro r hc hA hB h3
    refine ⟨hc, ⟨later_has h.held.a hA, later_has h.held.b hB⟩, fun hz => ⟨later_new la (h3 hz).1, later_new lb (h3 hz).2⟩, fun f hf => ?_⟩
    rcases List.mem_cons.1 hf with rfl | hf
    · exact later_bytes h.held.a hA hl1 hb1 hl2 hb2
    · rcases List.mem_cons.1 hf with rfl | hf
      · exact later_bytes h.held.b hB hl1 hb1 hl2 hb2
      · cases hf
  unfold wrP halvesL
  show StaysEnd x p1 p2 (if (wrF { B with fuse := fz } (x ++ dotA) 2 p1.length p2).1 = 0 then wrL (wrF { B with fuse := fz } (x ++ dotA) 2 p1.length p2).2 p1.length 2 p2 [x ++ dotB] else wrF { B with fuse := fz } (x ++ dotA) 2 p1.length p2)
  generalize wrF { B with fuse := fz } (x ++ dotA) 2 p1.length p2 = r1 at *
  have ob1 : r1.2.at (x ++ dotB) = B.at (x ++ dotB) := z1.others _ T.ne
  have nob1 : Later B r1.2 (x ++ dotB) 2 p1.length p2 := .inl ⟨0, by rw [ob1]; simp [newCels]⟩
  rcases z1.out with ⟨e1, e2, e3⟩ | ⟨e1, j, e2⟩
  · rw [if_pos e1]
    have hsz : sizeF r1.2.files = sizeF B.files + p2.length := e3
    have hrm : r1.2.room = B.room := z1.room
    have z2 := wrF_fz (f := x ++ dotB) (gen := 2) T.nb (by omega) p2 r1.2 p1.length z1.sorted (by rw [ob1]; exact lb) (by unfold Dk.free at hfr ⊢; omega) hl2 hm (by omega)
    show StaysEnd x p1 p2 (if (wrF r1.2 (x ++ dotB) 2 p1.length p2).1 = 0 then (0, (wrF r1.2 (x ++ dotB) 2 p1.length p2).2) else wrF r1.2 (x ++ dotB) 2 p1.length p2)
    generalize wrF r1.2 (x ++ dotB) 2 p1.length p2 = r2 at *
    have oa2 : r2.2.at (x ++ dotA) = r1.2.at (x ++ dotA) := z2.others _ (Ne.symm T.ne)
    have hA : Later B r2.2 (x ++ dotA) 2 p1.length p2 := .inr (by rw [oa2]; exact e2)
    rcases z2.out with ⟨d1, d2, d3⟩ | ⟨d1, j, d2⟩
    · rw [if_pos d1]
      rw [ob1] at d2
      exact fin (0, r2.2) (.inl rfl) hA (.inr d2) (fun _ => ⟨by show r2.2.at _ = _; rw [oa2]; exact e2, d2⟩)
    · rw [if_neg (by rw [d1]; decide)]
      rw [ob1] at d2
      exact fin r2 (.inr d1) hA (.inl ⟨j, d2⟩) (fun hz => by rw [d1] at hz; cases hz)
  · rw [if_neg (by rw [e1]; decide)]
    exact fin r1 (.inr e1) (.inl ⟨j, e2⟩) nob1 (fun hz => by rw [e1] at hz; cases hz)
end Go.Proofs.YtanlgadijndmaaaDoor
/- A record is appended on a new disk, and read: awake of layer 18. -/
namespace Go.Proofs.YtanlgadijndmaaaDoor
open Go.RowKit HP
set_option linter.unusedSimpArgs false
set_option linter.unusedVariables false

theorem map_one {l : List Int} : ∀ {ss : List (Sl Int)}, ss.map (·.l) = [l] → ∃ s, ss = [s] ∧ s.l = l
  | [], h => by cases h
  | [s], h => ⟨s, rfl, by simpa using h⟩
  | s :: t :: ss, h => by simp at h
theorem map_two {l m : List Int} : ∀ {ss : List (Sl Int)}, ss.map (·.l) = [l, m] → ∃ s t, ss = [s, t] ∧ s.l = l ∧ t.l = m
  | [], h => by cases h
  | [s], h => by simp at h
  | [s, t], h => ⟨s, t, rfl, by simpa using h⟩
  | s :: t :: u :: ss, h => by simp at h
set_option maxHeartbeats 2000000 in
set_option maxRecDepth 100000 in
theorem awake18_ok (E : Env) (q : HP) (w : World) (hq : ∀ w, Sat E w q → Quarter w ∧ Lib.TabIs Tryd.prog w "internal/strconv.uint64pow10" .u64 Lib.pow10Tab) (hw : Sat E w q) :
    Calls Tryd.prog 39 #[] w fun e w' => e = .returned (.bool true) ∧ Sat E w' q := by
  have hb2 : Bytes [97, 98] := by intro x hx; simp at hx; omega
  obtain ⟨B, hB⟩ := app_new (room := 10) (seg := 1) (b := [97, 98]) twoW1 (by omega) (by omega) hb2 (by decide) (by decide) (by decide)
  have HB := Aside.mk hB
  have HRA : Aside (readG B (nameW 1) 1 1 0 [] = some [[97, 98]]) := ⟨read_all hB (by decide) (by decide)⟩
  have HEQ : Aside (appendW (Dk.new 10) 1 0 1 [97, 98] = ((1, 0), B)) := ⟨hB.eq⟩
  have HBY := Aside.mk hB.has.bytes
  have HQ := Aside.mk (And.intro hq hw)
  have HB2 := Aside.mk hb2
  clear hB hq hw hb2
  go_enter Tryd.func39, Tryd.ntmps39
  go_wp2_with fail
  refine (disk_new_ok E q 10 _ ⟨by omega, by omega⟩ HQ.out.2).mono ?_
  rintro e w1 ⟨d, rfl, h1⟩
  have h2 := h1.alloc (.cells #[.int .u8 97, .int .u8 98] 5 (2, 3))
  have H2 : Aside (Sat E (w1.alloc (.cells #[.int .u8 97, .int .u8 98] 5 (2, 3))) (HP.disk d (Dk.new 10) * (HP.pt w1.heap.size (.cells (b8s [97, 98]).toArray 5 (2, 3)) * q))) := ⟨h2.perm (by ac_rfl)⟩
  have HQ2 : Aside (∀ w, Sat E w (HP.pt w1.heap.size (.cells (b8s [97, 98]).toArray 5 (2, 3)) * q) → Quarter w ∧ Lib.TabIs Tryd.prog w "internal/strconv.uint64pow10" .u64 Lib.pow10Tab ∧ Cells w (some ⟨w1.heap.size, 0, none⟩) (b8s [97, 98])) := ⟨fun w h => ⟨(HQ.out.1 w h.right).1, (HQ.out.1 w h.right).2, h.ptCells rfl⟩⟩
  have cv : (convert 52 52 (.slice (some ⟨w1.heap.size, 0, none⟩) 2 2)).run Tryd.prog (w1.alloc (.cells #[.int .u8 97, .int .u8 98] 5)) = .ok (.slice (some ⟨w1.heap.size, 0, none⟩) 2 2) (w1.alloc (.cells #[.int .u8 97, .int .u8 98] 5 (2, 3))) := Lib.run_convert_bytes_const w1 _ _ #[.int .u8 97, .int .u8 98] 2 2 Tryd.underlying52 Tryd.underlying5
  have HL : Aside ((2 : Nat) ≤ maxLen) := ⟨by unfold maxLen; omega⟩
  clear h1 h2
  go_wp2_with fail
  refine (wal_append E _ d (Dk.new 10) 1 0 1 (some ⟨w1.heap.size, 0, none⟩) [97, 98] 2 2 _ (by unfold wf64; omega) (by unfold wf64; omega) (by unfold wf64; omega) rfl (by omega) HL.out HB2.out HQ2.out H2.out).mono ?_
  rintro e w2 ⟨rfl, h2⟩
  rw [HEQ.out] at h2 ⊢
  have H3 : Aside (Sat E w2 (HP.disk d B * q)) := ⟨h2.perm (by ac_rfl : _ = HP.pt w1.heap.size (.cells (b8s [97, 98]).toArray 5 (2, 3)) * (HP.disk d B * q)) |>.right⟩
  clear h2 H2 HQ2 cv
  go_wp2_with fail
  refine (wal_read E q d B 1 1 _ (by omega) (by omega) (by omega) HBY.out HQ.out.1 H3.out).mono ?_
  intro e w3 h3
  rw [HRA.out] at h3
  obtain ⟨V, c, R, ss, hss, rfl, hsc, h3, hR⟩ := h3
  obtain ⟨s, rfl, hsl⟩ := map_one hss
  obtain ⟨As, cs, ls⟩ := s
  dsimp only at hsl
  subst hsl
  have h4 := hR _ _ h3
  have c5 : Cells w3 V [.slice As 2 cs] := h4.1
  have c6 : Cells w3 As (b8s [97, 98]) := h4.2 _ (List.mem_singleton.2 rfl)
  obtain ⟨a0, rfl, -⟩ := c5.at_ 0 (Nat.zero_lt_succ _)
  obtain ⟨gV, oV, rfl⟩ := slice_addr c5 rfl (k := 0) (Nat.zero_lt_succ _)
  obtain ⟨a1, ha1, cc⟩ := c5.at_ 0 (Nat.zero_lt_succ _)
  cases ha1
  have cl : w3.cell? ⟨gV, oV, none⟩ = some (.slice As 2 cs) := by simpa [Addr.add] using cc
  clear cc
  have e0 : (convert 52 9 (.slice As 2 cs)).run Tryd.prog w3 = .ok (.string ⟨#[97, 98]⟩) w3 := run_string (P := Tryd.prog) (c := cs) Tryd.underlying52 Tryd.underlying5 Tryd.underlying9 c6
  have H4 := Aside.mk h3
  clear h3 H3 h4 c5 c6 hR hss
  go_wp2
  go_ret
  exact ⟨rfl, H4.out.right.right⟩
end Go.Proofs.YtanlgadijndmaaaDoor
/- A record as an argument; what is short enough of it. -/
namespace Go.Proofs.YtanlgadijndmaaaDoor
open Go.ChangeShapes Go.WideShapes Go.ChangeAt Go.RowKit HP
set_option linter.unusedVariables false
set_option linter.unusedSimpArgs false

structure RecV where
  seg : Int
  at_ : Int
  lsn : Int
  b : Sl Int
def rdRec : Rd RecV := rdMap (rdPair (rdInt .i64) (rdPair (rdInt .i64) (rdPair (rdInt .i64) (rdPair (rdSl (rdInt .u8)) rdEnd)))) (fun x => (⟨x.1, x.2.1, x.2.2.1, x.2.2.2.1⟩ : RecV)) (fun s => (s.seg, s.at_, s.lsn, s.b, ())) (fun a => rfl)
theorem rdRec_at : rdRec.At Tryd.prog 75 :=
  rdStruct_at Tryd.underlying75 (total := 1 + (1 + (1 + (1 + 0)))) (by kernel_rfl) (rdPair_fs rfl (by kernel_rfl) (rdInt_at Tryd.underlying3) (rdPair_fs rfl (by kernel_rfl) (rdInt_at Tryd.underlying3) (rdPair_fs rfl (by kernel_rfl) (rdInt_at Tryd.underlying3)
    (rdPair_fs rfl (by kernel_rfl) (rdSl_at (n := 1) Tryd.underlying52 (by kernel_rfl) (rdInt_at Tryd.underlying5)) (rdEnd_fs _))))) _ _ _
/-- What a law is told of a record. -/
structure RecOk (W : World) (r : RecV) : Prop where
  seg : wf64 r.seg
  at_ : wf64 r.at_
  lsn : wf64 r.lsn
  le : r.b.l.length ≤ r.b.cap
  cap : r.b.cap ≤ maxLen
  cells : Cells W r.b.A (b8s r.b.l)
  bytes : Bytes r.b.l
def RecV.cut (r : RecV) : List Int := r.b.l.take (min r.b.l.length 500)
theorem RecV.cut_length (r : RecV) : r.cut.length = min r.b.l.length 500 := by unfold RecV.cut; rw [List.length_take]; omega
theorem RecOk.cut_bytes {W : World} {r : RecV} (h : RecOk W r) : Bytes r.cut := fun x hx => h.bytes x (List.mem_of_mem_take hx)
theorem RecOk.cut_cells {W : World} {r : RecV} (h : RecOk W r) : Cells W r.b.A (b8s r.cut) := by
  have := h.cells.take (min r.b.l.length 500)
  unfold RecV.cut
  unfold b8s at this ⊢
  rw [List.map_take]; exact this
theorem RecOk.carry {W W' : World} {r : RecV} (h : RecOk W r) (hb : ∀ k, k < W.heap.size → W'.heap[k]? = W.heap[k]?) : RecOk W' r := ⟨h.seg, h.at_, h.lsn, h.le, h.cap, h.cells.carry hb, h.bytes⟩
theorem agRec : AgTy Tryd.prog 75 4 := ⟨⟨_, Tryd.underlying75, rfl⟩, by kernel_rfl⟩
def RecV.cs (r : RecV) : Array Value := #[.int .i64 r.seg, .int .i64 r.at_, .int .i64 r.lsn, .slice r.b.A r.b.l.length r.b.cap]
set_option maxHeartbeats 1000000 in
set_option maxRecDepth 100000 in
theorem rec_cut (E : Env) (q : HP) (x0 x1 x2 : Value) (A : Option Addr) (n c : Nat) (w : World) (hn : n ≤ c) (hc : c ≤ maxLen) (hw : Sat E w q) :
    Calls Tryd.prog 37 #[.agg #[x0, x1, x2, .slice A n c]] w fun e w' => e = .returned (.slice A (min n 500) c) ∧ Sat E w' q := by
  have hn0 : (if 500 < (n : Int) then 500 else (n : Int)) = (min n 500 : Nat) := by split <;> omega
  obtain ⟨m, hm⟩ : ∃ m, m = min n 500 := ⟨_, rfl⟩
  have HM : Aside ((min (n : Int) 500).toNat = m) := ⟨by omega⟩
  have hmn : m ≤ n := by omega
  have hmc : m ≤ c := by omega
  have hcl : (c : Int) ≤ 9223372036854775807 := by unfold maxLen at hc; omega
  rw [← hm] at hn0 ⊢
  clear hm
  have h1 := hw.alloc (.cells #[x0, x1, x2, .slice A n c] 75)
  have H1 := Aside.mk h1
  clear hw h1
  go_enter Tryd.func37, Tryd.ntmps37
  go_wp2
  go_ret
  exact ⟨by rw [← HM.out]; rfl, H1.out.right⟩
theorem rec_ok {W : World} {r : RecV} (h : rdRec.ok W r) : RecOk W r := by
  obtain ⟨h0, h1, h2, h3, -⟩ := h
  have b := bytes_ok h3
  exact ⟨wf64_of h0, wf64_of h1, wf64_of h2, b.1, b.2.1, b.2.2.1, b.2.2.2⟩
end Go.Proofs.YtanlgadijndmaaaDoor
/- SameTexts: two lists of texts compared. -/
namespace Go.Proofs.YtanlgadijndmaaaDoor
open Go.RowKit HP
set_option linter.unusedSimpArgs false
set_option linter.unusedVariables false

theorem val8_cell {w : World} {V : Option Addr} {g o : Nat} {ss : List (Sl Int)} (h : Cells w V (ss.map Sl.val8)) (hV : V = some ⟨g, o, none⟩) {k : Nat} (hk : k < ss.length) : w.cell? ⟨g, o + k, none⟩ = some (.slice (ss[k]).A (ss[k]).l.length (ss[k]).cap) := by
  obtain ⟨a, ha, hc⟩ := h.at_ k (by simpa using hk)
  rw [hV] at ha
  cases ha
  rw [addr_add] at hc
  rw [hc]
  simp [Sl.val8]
theorem val8_addr {w : World} {V : Option Addr} {ss : List (Sl Int)} (h : Cells w V (ss.map Sl.val8)) (hk : 0 < ss.length) : ∃ g o, V = some ⟨g, o, none⟩ := by
  obtain ⟨a, rfl, -⟩ := h.at_ 0 (by simpa using hk)
  obtain ⟨g, o, rfl⟩ := slice_addr h rfl (k := 0) (by simpa using hk)
  exact ⟨g, o, rfl⟩
/-- What one is told of a list of texts. -/
structure Texts (w : World) (V : Option Addr) (ss : List (Sl Int)) : Prop where
  top : Cells w V (ss.map Sl.val8)
  each : ∀ s ∈ ss, Cells w s.A (b8s s.l)
  bytes : ∀ s ∈ ss, Bytes s.l
set_option maxHeartbeats 2000000 in
set_option maxRecDepth 100000 in
theorem equalFunc_ok (V1 V2 : Option Addr) (ss1 ss2 : List (Sl Int)) (n1 n2 c1 c2 : Nat) (w : World) (e1 : ss1.length = n1) (e2 : ss2.length = n2) (k1 : n1 ≤ 4611686018427387904) (k2 : n2 ≤ 4611686018427387904) (h1 : Texts w V1 ss1) (h2 : Texts w V2 ss2) :
    Calls Tryd.prog 99 #[.slice V1 n1 c1, .slice V2 n2 c2, .func (Fn.func 32) #[] #[]] w fun e w' => e = .returned (.bool (decide (ss1.map (·.l) = ss2.map (·.l)))) ∧ w' = w := by
  have HH := Aside.mk (And.intro h1 (And.intro h2 (And.intro e1 e2)))
  clear h1 h2 e1 e2
  by_cases hne : n1 = n2
  · subst hne
    have HV : Aside (0 < n1 → (∃ g o, V1 = some ⟨g, o, none⟩) ∧ ∃ g o, V2 = some ⟨g, o, none⟩) := ⟨fun h => ⟨val8_addr HH.out.1.top (by rw [HH.out.2.2.1]; exact h), val8_addr HH.out.2.1.top (by rw [HH.out.2.2.2]; exact h)⟩⟩
    go_enter Tryd.func99, Tryd.ntmps99
    go_wp2
    go_loopw [17] (fun v17 wr => ∃ k : Nat, k ≤ n1 ∧ v17 = .int .i64 k ∧ Aside (∀ j : Nat, j < k → (ss1.map (·.l))[j]? = (ss2.map (·.l))[j]?) ∧ wr = w) (fun i _ => n1 - (intOf i).toNat)
    case atStart => exact ⟨0, by omega, rfl, ⟨fun j hj => by omega⟩, rfl⟩
    case round =>
      obtain ⟨k, hk, rfl, HE, hwr⟩ := hrel
      subst wr
      by_cases hlt : k < n1
      · obtain ⟨⟨g1, o1, rfl⟩, g2, o2, rfl⟩ := HV.out (by omega)
        have hk1 : k < ss1.length := by rw [HH.out.2.2.1]; exact hlt
        have hk2 : k < ss2.length := by rw [HH.out.2.2.2]; exact hlt
        have x1 := val8_cell HH.out.1.top rfl hk1
        have x2 := val8_cell HH.out.2.1.top rfl hk2
        have X1 : Aside ((ss1.map (·.l))[k]? = some (ss1[k]).l) := ⟨by rw [List.getElem?_map, List.getElem?_eq_getElem hk1]; rfl⟩
        have X2 : Aside ((ss2.map (·.l))[k]? = some (ss2[k]).l) := ⟨by rw [List.getElem?_map, List.getElem?_eq_getElem hk2]; rfl⟩
        have HC := Aside.mk (bytesEq_ok (ss1[k]).A (ss2[k]).A (ss1[k]).l (ss2[k]).l _ _ (ss1[k]).cap (ss2[k]).cap w rfl rfl (HH.out.1.each _ (List.getElem_mem hk1)) (HH.out.2.1.each _ (List.getElem_mem hk2)) (HH.out.1.bytes _ (List.getElem_mem hk1)) (HH.out.2.1.bytes _ (List.getElem_mem hk2)))
        generalize ss1[k] = s1 at *
        generalize ss2[k] = s2 at *
        obtain ⟨m1, hm1⟩ : ∃ m1, m1 = s1.l.length := ⟨_, rfl⟩
        obtain ⟨m2, hm2⟩ : ∃ m2, m2 = s2.l.length := ⟨_, rfl⟩
        rw [← hm1] at x1 HC
        rw [← hm2] at x2 HC
        clear hm1 hm2 hk1 hk2
        have hlt2 : (k : Int) < n1 := by omega
        go_wp2_with fail
        refine HC.out.mono ?_
        rintro e w1 ⟨rfl, hw1⟩
        subst w1
        clear HC x1 x2
        by_cases he : s1.l = s2.l
        · have HE2 : Aside (∀ j : Nat, j < k + 1 → (ss1.map (·.l))[j]? = (ss2.map (·.l))[j]?) := ⟨fun j hj => by
            rcases Nat.lt_or_ge j k with h | h
            · exact HE.out j h
            · obtain rfl : j = k := by omega
              rw [X1.out, X2.out, he]⟩
          rw [decide_eq_true he]
          clear he X1 X2 HE
          go_wp2
          go_roundw
          case rel => exact ⟨k + 1, by omega, by push_cast; rfl, HE2, by first | rfl | trivial⟩
          case measure => simp [intOf]; omega
        · have HX : Aside (decide (ss1.map (·.l) = ss2.map (·.l)) = false) := ⟨decide_eq_false fun h => he (by
            have h1 := X1.out
            rw [h, X2.out] at h1
            exact (Option.some.inj h1).symm)⟩
          rw [decide_eq_false he]
          clear he X1 X2 HE
          go_wp2
          go_ret
          rw [HX.out]
          exact ⟨rfl, rfl⟩
      · obtain rfl : k = n1 := by omega
        have HX : Aside (decide (ss1.map (·.l) = ss2.map (·.l)) = true) := ⟨decide_eq_true (List.ext_getElem? fun j => by
          rcases Nat.lt_or_ge j k with h | h
          · exact HE.out j h
          · rw [List.getElem?_eq_none (by rw [List.length_map, HH.out.2.2.1]; exact h), List.getElem?_eq_none (by rw [List.length_map, HH.out.2.2.2]; exact h)])⟩
        clear HE
        go_wp2
        go_ret
        rw [HX.out]
        exact ⟨rfl, rfl⟩
  · have HX : Aside (decide (ss1.map (·.l) = ss2.map (·.l)) = false) := ⟨decide_eq_false fun h => hne (by
      have := congrArg List.length h
      rw [List.length_map, List.length_map, HH.out.2.2.1, HH.out.2.2.2] at this
      exact this)⟩
    have hne2 : ((n1 : Int) == n2) = false := by rw [beq_eq_false_iff_ne]; omega
    go_enter Tryd.func99, Tryd.ntmps99
    go_wp2
    go_ret
    rw [HX.out]
    exact ⟨rfl, rfl⟩
set_option maxHeartbeats 1000000 in
set_option maxRecDepth 100000 in
theorem sameTexts_ok (V1 V2 : Option Addr) (ss1 ss2 : List (Sl Int)) (n1 n2 c1 c2 : Nat) (w : World) (e1 : ss1.length = n1) (e2 : ss2.length = n2) (k1 : n1 ≤ 4611686018427387904) (k2 : n2 ≤ 4611686018427387904) (h1 : Texts w V1 ss1) (h2 : Texts w V2 ss2) :
    Calls Tryd.prog 41 #[.slice V1 n1 c1, .slice V2 n2 c2] w fun e w' => e = .returned (.bool (decide (ss1.map (·.l) = ss2.map (·.l)))) ∧ w' = w := by
  have HC := Aside.mk (equalFunc_ok V1 V2 ss1 ss2 n1 n2 c1 c2 w e1 e2 k1 k2 h1 h2)
  clear e1 e2 k1 k2 h1 h2
  obtain ⟨b, hb⟩ : ∃ b, b = decide (ss1.map (·.l) = ss2.map (·.l)) := ⟨_, rfl⟩
  rw [← hb] at HC ⊢
  clear hb
  go_enter Tryd.func41, Tryd.ntmps41
  go_wp2_with fail
  refine HC.out.mono ?_
  rintro e w1 ⟨rfl, hw1⟩
  subst w1
  go_wp2
  go_ret
  exact ⟨rfl, rfl⟩
end Go.Proofs.YtanlgadijndmaaaDoor
/- WalBack: the walk. -/
namespace Go.Proofs.YtanlgadijndmaaaDoor
open Go.RowKit HP
set_option linter.unusedSimpArgs false
set_option linter.unusedVariables false

def RecV.vals (r : RecV) : List Value := [.int .i64 r.seg, .int .i64 r.at_, .int .i64 r.lsn, .slice r.b.A r.b.l.length r.b.cap]
/-- The records of a list, read. -/
structure RecsIn (q : HP) (l : Sl RecV) : Prop where
  len : l.l.length ≤ maxLen
  cells : ∀ E w, Sat E w q → Cells w l.A (l.l.flatMap RecV.vals) ∧ ∀ r ∈ l.l, RecOk w r
theorem RecsIn.at_ {q : HP} {l : Sl RecV} (h : RecsIn q l) {E : Env} {w : World} (hw : Sat E w q) {k : Nat} {s : RecV} (hs : l.l[k]? = some s) :
    ∃ g o, l.A = some ⟨g, o, none⟩ ∧ w.cell? ⟨g, o + k * 4, none⟩ = some (.int .i64 s.seg) ∧ w.cell? ⟨g, o + k * 4 + 1, none⟩ = some (.int .i64 s.at_) ∧ w.cell? ⟨g, o + k * 4 + 2, none⟩ = some (.int .i64 s.lsn) ∧ w.cell? ⟨g, o + k * 4 + 3, none⟩ = some (.slice s.b.A s.b.l.length s.b.cap) := by
  have hcm := (h.cells _ _ hw).1
  have hg := fun j (hj : j < 4) => flat_get RecV.vals 4 l.l (fun _ => rfl) k j s hs hj
  have g0 := hg 0 (by omega)
  obtain ⟨pa, hpa, -⟩ := hcm _ _ g0
  obtain ⟨g, o, rfl⟩ : ∃ g o, pa = ⟨g, o, none⟩ := slice_addr hcm hpa (List.getElem?_eq_some_iff.1 g0).1
  rw [hpa] at hcm
  have f : ∀ j, j < 4 → ∀ u, s.vals[j]? = some u → w.cell? ⟨g, o + k * 4 + j, none⟩ = some u := fun j hj u hu => by
    have h1 := hcm.some_ (k * 4 + j) u ((hg j hj).trans hu)
    rw [addr_add, ← Nat.add_assoc] at h1
    exact h1
  exact ⟨g, o, hpa, f 0 (by omega) _ rfl, f 1 (by omega) _ rfl, f 2 (by omega) _ rfl, f 3 (by omega) _ rfl⟩
set_option maxHeartbeats 8000000 in
set_option maxRecDepth 100000 in
theorem walBack_ok (E : Env) (q : HP) (l : Sl RecV) (b : Bool) (s : Sl Int) (w : World) (hl : RecsIn q l) (hs : s.l.length ≤ s.cap ∧ s.cap ≤ maxLen)
    (hq : ∀ E w, Sat E w q → (Quarter w ∧ Lib.TabIs Tryd.prog w "internal/strconv.uint64pow10" .u64 Lib.pow10Tab) ∧ Cells w s.A (s.l.map (Value.int .i64))) (hw : Sat E w q) :
    Calls Tryd.prog 8 #[l.val, .bool b, s.val] w fun e w' => e = .returned (.bool true) ∧ Sat E w' q := by
  unfold Sl.val
  have HQ := Aside.mk hq
  have HSL := Aside.mk hs
  have HST := Aside.mk hl
  have HW0 := Aside.mk hw
  have hlen := hl.len
  unfold maxLen at hlen
  generalize hN : l.l.length = n at *
  have HN := Aside.mk hN
  clear hN hq hs hl hw
  go_enter Tryd.func8, Tryd.ntmps8
  go_wp2_with fail
  refine (disk_new_ok E _ 300 _ ⟨by omega, by omega⟩ HW0.out).mono ?_
  rintro e w1 ⟨d, rfl, h1⟩
  have H1 := Aside.mk (h1.row_nil 52 1 none)
  clear h1 HW0
  go_wp2
  go_loopw [9, 10, 27] (fun v9 v10 v27 wr => ∃ (k : Nat) (recs : List (Nat × List Int)) (ss : List (Sl Int)) (A : Dk), v27 = .int .i64 k ∧ k ≤ n ∧ v10 = .int .i64 ((gpR recs).length : Int) ∧ recs.length ≤ k ∧ Aside (WHold A recs) ∧ Aside (ss.map (·.l) = recs.map (·.2) ∧ (∀ x ∈ ss, PayOk x) ∧ ∀ E w, Sat E w q → ∀ x ∈ ss, Cells w x.A (b8s x.l)) ∧ Aside (Sat E wr (HP.row 52 1 v9 ss.length (ss.map Sl.val8) * (HP.disk d A * q)))) (fun _ _ x _ => n - (intOf x).toNat)
  case atStart => exact ⟨0, [], [], Dk.new 300, rfl, Nat.zero_le _, rfl, Nat.le_refl _, ⟨whold_new⟩, ⟨rfl, (fun x hx => by cases hx), fun _ _ _ x hx => by cases hx⟩, H1⟩
  case round =>
    clear H1
    obtain ⟨k, recs, ss, A, rfl, hk, rfl, hrk, HH, HSS, HS⟩ := hrel
    obtain ⟨Vw, cw, rfl, hcw1, hcw2⟩ := HS.out.row_slice
    have HCW := Aside.mk (And.intro hcw1 hcw2)
    clear hcw1 hcw2
    have hgl : (gpR recs).length ≤ 60 := by
      have h1 := gpR_length recs fun r hr => (HH.out.ok.each r hr).2.2.1
      have h2 := HH.out.ok.few
      omega
    by_cases hlt : k < n
    · obtain ⟨r, hr⟩ : ∃ r, l.l[k]? = some r := ⟨_, List.getElem?_eq_getElem (by rw [HN.out]; exact hlt)⟩
      have hrm : r ∈ l.l := List.mem_of_getElem? hr
      obtain ⟨g, o, hA, g0, g1, g2, g3⟩ := HST.out.at_ HS.out.right.right hr
      have HR : Aside (∀ E w, Sat E w q → RecOk w r) := ⟨fun E w h => (HST.out.cells E w h).2 r hrm⟩
      have hro := HR.out _ _ HS.out.right.right
      rw [hA]
      have hk0 : (0 : Int) ≤ (k : Int) := by omega
      have hk1 : (k : Int) < (n : Int) := by omega
      have HB2 := Aside.mk (HS.out.alloc (.cells #[.int .i64 r.seg, .int .i64 r.at_, .int .i64 r.lsn, .slice r.b.A r.b.l.length r.b.cap] 75)).right
      have HRO := Aside.mk (And.intro hro.le (And.intro hro.cap hro.bytes))
      obtain ⟨m, hm⟩ : ∃ m, m = min r.b.l.length 500 := ⟨_, rfl⟩
      have HM := Aside.mk hm
      have hm5 : m ≤ 500 := by omega
      clear hr hrm hA HS hro hm
      go_wp2_with fail
      refine (rec_cut E _ _ _ _ r.b.A r.b.l.length r.b.cap _ HRO.out.1 HRO.out.2.1 HB2.out).mono ?_
      rintro e w4 ⟨rfl, h4⟩
      rw [← HM.out]
      have H4 := Aside.mk h4
      clear h4 HB2 g0 g1 g2 g3
      have skip : 12 ≤ k ∨ m = 0 ∨ (k < 12 ∧ 1 ≤ m) := by omega
      rcases skip with h12 | h0 | ⟨h12, h0⟩
      · have hk12 : ¬ (k : Int) < 12 := by omega
        go_wp2
        go_roundw
        case rel => exact ⟨k + 1, recs, ss, A, by go_num, by omega, rfl, by omega, HH, HSS, H4⟩
        case measure => simp [intOf]; omega
      · subst h0
        go_wp2
        all_goals
          go_roundw
          case rel => exact ⟨k + 1, recs, ss, A, by go_num, by omega, rfl, by omega, HH, HSS, H4⟩
          case measure => simp [intOf]; omega
      · have hk12 : (k : Int) < 12 := by omega
        have hm0 : (0 : Int) < (m : Int) := by omega
        have hcl : r.cut.length = m := by rw [RecV.cut_length, HM.out]
        have hcb : Bytes r.cut := fun x hx => HRO.out.2.2 x (List.mem_of_mem_take hx)
        obtain ⟨A', hap, hwh, hgn, hn1⟩ := whold_append HH.out (by omega) h12 (b := r.cut) (by omega) (by omega) hcb
        obtain ⟨nn, hnn⟩ : ∃ nn, nn = wneedI r.cut.length := ⟨_, rfl⟩
        rw [← hnn] at hap hgn hn1
        have hgl2 : (gpR (recs ++ [(k + 1, r.cut)])).length ≤ 60 := by
          have h1 := gpR_length _ fun r hr => (hwh.ok.each r hr).2.2.1
          have h2 := hwh.ok.few
          omega
        have HAP := Aside.mk hap
        have HWH := Aside.mk hwh
        have HGN := Aside.mk hgn
        have HCL := Aside.mk (And.intro hcl hcb)
        have hnn2 : nn ≤ 60 := by omega
        clear hap hwh hnn hcl hcb hgn
        obtain ⟨gl, hgle⟩ : ∃ gl, gl = (gpR recs).length := ⟨_, rfl⟩
        rw [← hgle] at hgl HAP HGN ⊢
        clear hgle
        go_wp2_with fail
        refine (wal_append E _ d A 7 gl (k + 1) r.b.A r.cut m r.b.cap _ (by unfold wf64; omega) (by unfold wf64; omega) (by unfold wf64; omega) HCL.out.1 (by have := HRO.out.1; have := HM.out; omega) HRO.out.2.1 HCL.out.2 (fun w h => ⟨(HQ.out _ w h.right).1.1, (HQ.out _ w h.right).1.2, (HR.out _ w h.right).cut_cells⟩) H4.out.s2).mono ?_
        rintro e w5 ⟨rfl, h5⟩
        rw [HAP.out] at h5 ⊢
        dsimp only at h5 ⊢
        have H5 : Aside (Sat E w5 (HP.row 52 1 (.slice Vw ss.length cw) ss.length (ss.map Sl.val8) * (HP.disk d A' * q))) := ⟨h5.s2⟩
        have HSL2 : ss.length ≤ 12 := by
          have e := congrArg List.length HSS.out.1
          rw [List.length_map, List.length_map] at e
          have := HH.out.ok.few
          omega
        clear h5 H4 HAP
        go_wp2_with (at_builtin; (refine wpList_append_new slBB rfl rfl (by rfl) (by rfl) H5.out rfl rfl (by have := HSL2; unfold maxLen; omega) (by omega) (fun v6 w6 hw6 => ?_); have HW6 := Aside.mk hw6; clear hw6))
        have HW7 : Aside (Sat E w6 (HP.row 52 1 v6 (ss ++ [(⟨r.b.A, r.b.cap, r.cut⟩ : Sl Int)]).length ((ss ++ [(⟨r.b.A, r.b.cap, r.cut⟩ : Sl Int)]).map Sl.val8) * (HP.disk d A' * q))) := ⟨by
          have h := HW6.out
          rw [List.length_append, List.map_append, List.map_cons, List.map_nil]
          unfold Sl.val8 at h ⊢
          rw [HCL.out.1]
          exact h⟩
        have HSS7 : Aside ((ss ++ [(⟨r.b.A, r.b.cap, r.cut⟩ : Sl Int)]).map (·.l) = (recs ++ [(k + 1, r.cut)]).map (·.2) ∧ (∀ x ∈ ss ++ [(⟨r.b.A, r.b.cap, r.cut⟩ : Sl Int)], PayOk x) ∧ ∀ E w, Sat E w q → ∀ x ∈ ss ++ [(⟨r.b.A, r.b.cap, r.cut⟩ : Sl Int)], Cells w x.A (b8s x.l)) := ⟨by
          refine ⟨?_, fun x hx => ?_, fun E w h x hx => ?_⟩
          · rw [List.map_append, List.map_append, HSS.out.1]; rfl
          · rcases List.mem_append.1 hx with hx | hx
            · exact HSS.out.2.1 x hx
            · obtain rfl := List.mem_singleton.1 hx
              exact ⟨by show r.cut.length ≤ r.b.cap; rw [HCL.out.1]; have := HRO.out.1; have := HM.out; omega, HCL.out.2⟩
          · rcases List.mem_append.1 hx with hx | hx
            · exact HSS.out.2.2 E w h x hx
            · obtain rfl := List.mem_singleton.1 hx
              exact (HR.out E w h).cut_cells⟩
        clear HW6 H5
        go_roundw
        case rel => exact ⟨k + 1, recs ++ [(k + 1, r.cut)], ss ++ [(⟨r.b.A, r.b.cap, r.cut⟩ : Sl Int)], A', by go_num, by omega, by rw [HGN.out], by rw [List.length_append]; simp; omega, HWH, HSS7, HW7⟩
        case measure => simp [intOf]; omega
    · have hkn : ¬ (k : Int) < (n : Int) := by omega
      have H2 : Aside (Sat E wr (HP.disk d A * (HP.row 52 1 (.slice Vw ss.length cw) ss.length (ss.map Sl.val8) * q))) := ⟨HS.out.s2⟩
      have HSL2 : ss.length ≤ 12 := by
        have e := congrArg List.length HSS.out.1
        rw [List.length_map, List.length_map] at e
        have := HH.out.ok.few
        omega
      clear HS
      obtain ⟨gl, hgle⟩ : ∃ gl, gl = (gpR recs).length := ⟨_, rfl⟩
      rw [← hgle] at hgl ⊢
      have HGL := Aside.mk hgle
      clear hgle
      cases b
      all_goals
        go_wp2_with fail
        refine (disk_copy E _ d A _ H2.out).mono ?_
        rintro e w3 ⟨c, rfl, h3⟩
        have H3 := Aside.mk h3.s2
        clear h3 H2
        go_wp2_with fail
        refine (half_ok E _ d A _ s.A s.l s.l.length s.cap _ (by show (4 : Nat) ≤ maxLen; unfold maxLen; omega) rfl (Nat.le_trans HSL.out.1 HSL.out.2) (fun E w h => (HQ.out _ w h.right.right).2) H3.out).mono ?_
        rintro e w4 ⟨rfl, B, hr, h4⟩
        have hT : WTurned A B recs := by
          first
            | exact whold_turned HH.out (f := nameW 7 ++ dotA) (List.mem_cons_self ..) (by rw [nameW_seven]; exact hr)
            | exact whold_turned HH.out (f := nameW 7 ++ dotB) (List.mem_cons_of_mem _ (List.mem_cons_self ..)) (by rw [nameW_seven]; exact hr)
        have HT := Aside.mk hT
        have H4 := Aside.mk h4
        clear hr h4 H3 hT
        go_wp2_with fail
        refine (told_ok E _ d c B A _ HT.out.rb (HH.out.hold.rbyt (gpR_ok HH.out.ok)) H4.out).mono ?_
        rintro e w5 ⟨rfl, h5⟩
        have H5 := Aside.mk h5
        clear h5 H4
        obtain ⟨t, ht⟩ : ∃ t, t = toldB B A := ⟨_, rfl⟩
        rw [← ht]
        have HTO := Aside.mk ht.symm
        clear ht
        cases t with
        | false =>
          go_wp2_with fail
          refine (awake18_ok E q _ (fun w h => (HQ.out _ w h).1) H5.out.right.right.right).mono ?_
          rintro e w6 ⟨rfl, h6⟩
          go_wp2
          go_ret
          exact ⟨rfl, h6⟩
        | true =>
          have HRD : Aside (readG B (nameW 7) gl gl 0 [] = some (recs.map (·.2))) := ⟨by rw [HGL.out]; exact HT.out.told HTO.out⟩
          go_wp2_with fail
          refine (wal_read E _ d B 7 gl _ (by omega) (by omega) (by omega) (fun f hf i c hc => HT.out.rb f i c hc) (fun w h => (HQ.out _ w h.right.right).1) H5.out).mono ?_
          intro e w6 h6
          rw [HRD.out] at h6
          obtain ⟨V, cV, R, st, hst, rfl, hsc, h6, hR⟩ := h6
          have hrow : Sat E w6 (HP.row 52 1 (.slice Vw ss.length cw) ss.length (ss.map Sl.val8) * (R * (HP.disk d B * (HP.disk c A * q)))) := h6.perm (by ac_rfl)
          have hbb : ∀ x ∈ ss, Bytes x.l := fun x hx => (HSS.out.2.1 x hx).bytes
          have T1 : Aside (Texts w6 V st) := ⟨⟨(hR _ _ h6).1, (hR _ _ h6).2, fun x hx => by
            have hm : x.l ∈ ss.map (·.l) := by rw [HSS.out.1, ← hst]; exact List.mem_map.2 ⟨x, hx, rfl⟩
            obtain ⟨y, hy, hye⟩ := List.mem_map.1 hm
            rw [← hye]
            exact hbb y hy⟩⟩
          have T2 : Aside (Texts w6 Vw ss) := ⟨⟨hrow.row_cells, fun x hx => HSS.out.2.2 _ _ h6.right.right.right.right x hx, hbb⟩⟩
          have HE : Aside (decide (st.map (·.l) = ss.map (·.l)) = true) := ⟨decide_eq_true (by rw [hst, HSS.out.1])⟩
          have hsl : st.length ≤ 12 := by
            have e1 := congrArg List.length hst
            rw [List.length_map, List.length_map] at e1
            have := HH.out.ok.few
            omega
          have H6 := Aside.mk h6.right.right.right.right
          obtain ⟨nt, hnt⟩ : ∃ nt, nt = st.length := ⟨_, rfl⟩
          rw [← hnt] at hsl hsc ⊢
          have HNT := Aside.mk hnt
          clear h6 hR hrow hbb hst H5 hnt
          go_wp2_with fail
          refine (sameTexts_ok V Vw st ss nt ss.length cV cw _ HNT.out.symm rfl (by omega) (by omega) T1.out T2.out).mono ?_
          rintro e w7 ⟨rfl, hw7⟩
          subst w7
          rw [HE.out]
          clear T1 T2 HE
          go_wp2_with fail
          refine (awake18_ok E q _ (fun w h => (HQ.out _ w h).1) H6.out).mono ?_
          rintro e w8 ⟨rfl, h8⟩
          go_wp2
          go_ret
          exact ⟨rfl, h8⟩
end Go.Proofs.YtanlgadijndmaaaDoor
