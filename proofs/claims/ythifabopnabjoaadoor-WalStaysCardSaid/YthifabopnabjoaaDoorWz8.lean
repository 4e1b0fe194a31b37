/- Texts of one claim, one behind the other: WalStW, LaidN, TabO. -/
import Derived.Test.YthifabopnabjoaaDoorWz7
import Derived.Lib.LaidU8
import Derived.Lib.LaidTab
import Derived.Lib.ItoaNum
/- WalStays: the walk. -/
namespace Go.Proofs.YthifabopnabjoaaDoor
open Go.RowKit HP
set_option linter.unusedSimpArgs false
set_option linter.unusedVariables false

theorem read_one {D : Dk} {x : ByteArray} {b : List Int} (h : HasBoth D x 0 1 (piecesW (textW b))) (h1 : 1 ≤ b.length) (h2 : b.length ≤ 1000000) : readG D x (chunkW (b.length + 4)) (chunkW (b.length + 4)) 0 [] = some [b] := by
  have h0 : 0 < chunkW (b.length + 4) := by unfold chunkW; omega
  have hc1 : chunkW (b.length + 4) ≤ 10000 := by unfold chunkW; omega
  have hr := rec_has (en := chunkW (b.length + 4)) h1 h2 h (by omega) (by omega) h0
  obtain ⟨c, hc⟩ : ∃ c, chunkW (b.length + 4) = c + 1 := ⟨chunkW (b.length + 4) - 1, by omega⟩
  rw [if_pos (by omega), Nat.zero_add] at hr
  rw [hc] at hr ⊢
  unfold readG
  rw [if_pos (by omega), hr]
  dsimp only
  cases c with
  | zero => rfl
  | succ c => unfold readG; rw [if_neg (by omega)]; rfl
theorem read_two {D : Dk} {x : ByteArray} {b b2 : List Int} {K1 K2 : Nat} (e1 : K1 = chunkW (b.length + 4)) (e2 : K2 = chunkW (b2.length + 4)) (h : HasBoth D x 0 1 (piecesW (textW b))) (g : HasBoth D x K1 2 (piecesW (textW b2))) (h1 : 1 ≤ b.length) (h2 : b.length ≤ 1000000) (g1 : 1 ≤ b2.length) (g2 : b2.length ≤ 1000000) : readG D x (K1 + K2) (K1 + K2) 0 [] = some [b, b2] := by
  have h0 : 0 < K1 ∧ K1 ≤ 10000 := by rw [e1]; unfold chunkW; omega
  have g0 : 0 < K2 ∧ K2 ≤ 10000 := by rw [e2]; unfold chunkW; omega
  have hr := rec_has (en := K1 + K2) h1 h2 h (by omega) (by omega) (by omega)
  rw [← e1, if_pos (by omega), Nat.zero_add] at hr
  have gr := rec_has (en := K1 + K2) g1 g2 g (by omega) (by omega) (by omega)
  rw [← e2, if_pos (Nat.le_refl _)] at gr
  obtain ⟨c, hc⟩ : ∃ c, K1 + K2 = c + 2 := ⟨K1 + K2 - 2, by omega⟩
  have hz : ∀ n out, readG D x (K1 + K2) n (K1 + K2) out = some out := fun n out => by
    cases n with
    | zero => rfl
    | succ n => unfold readG; rw [if_neg (by omega)]
  have step : ∀ n at_ out, at_ < K1 + K2 → readG D x (K1 + K2) (n + 1) at_ out = match recW D x (K1 + K2) at_ with | none => none | some (t, a) => readG D x (K1 + K2) n a (out ++ [t]) := fun n at_ out hlt => by
    conv => lhs; unfold readG
    rw [if_pos hlt]
    try rfl
  conv => lhs; arg 4; rw [hc]
  rw [step _ _ _ (by omega), hr]
  dsimp only
  rw [step _ _ _ (by omega), gr]
  dsimp only
  rw [hz]
  rfl
structure StaysW (B : Dk) (fz : Int) (b1 b2 : List Int) (K1 K2 : Nat) (m ec : Int) (D : Dk) : Prop where
  eq : appendW { B with fuse := fz } 1 (K1 : Int) 2 b2 = ((m, ec), D)
  code : (ec = 0 ∧ m = K2) ∨ (ec = 31 ∧ m = 0)
  one : readG (D.crash []) (nameW 1) K1 K1 0 [] = some [b1]
  two : ec = 0 → readG (D.crash []) (nameW 1) (K1 + K2) (K1 + K2) 0 [] = some [b1, b2]
  bytes : ∀ f ∈ halvesL (nameW 1), ∀ j c, (D.crash []).cel f j = some c → Bytes c.read
theorem staysW_of {b1 b2 : List Int} {B : Dk} {K1 K2 : Nat} (e1 : K1 = chunkW (b1.length + 4)) (e2 : K2 = chunkW (b2.length + 4)) (hB : AppNew 60 1 b1 B) (fz : Int) (h1 : 1 ≤ b1.length) (h2 : b1.length ≤ 500) (g1 : 1 ≤ b2.length) (g2 : b2.length ≤ 500) (y1 : Bytes b1) (y2 : Bytes b2) : ∃ m ec D, StaysW B fz b1 b2 K1 K2 m ec D := by
  have h0 : 0 < K1 ∧ K1 ≤ 5 := by rw [e1]; unfold chunkW; omega
  have g0 : 0 < K2 ∧ K2 ≤ 5 := by rw [e2]; unfold chunkW; omega
  have l1 : (piecesW (textW b1)).length = K1 := by rw [piecesW_length, textW_length, e1]
  have l2 : (piecesW (textW b2)).length = K2 := by rw [piecesW_length, textW_length, e2]
  have hw := wneed_chunk (n := b2.length) g1 (by omega)
  rw [← e2] at hw
  have hs := stays_end twoW1 (p2 := piecesW (textW b2)) hB.has fz (by omega) (by omega) (by omega) (by omega) (fun p hp => (piecesW_mem hp).1) (piecesW_bytes y1) (fun p hp => (piecesW_mem hp).1) (piecesW_bytes y2)
  rw [l1] at hs
  have he : appendW { B with fuse := fz } 1 (K1 : Int) 2 b2 = (if (wrP { B with fuse := fz } (nameW 1) K1 2 (piecesW (textW b2))).1 = 0 then ((K2 : Int), 0) else (0, (wrP { B with fuse := fz } (nameW 1) K1 2 (piecesW (textW b2))).1), (wrP { B with fuse := fz } (nameW 1) K1 2 (piecesW (textW b2))).2) := by
    unfold appendW
    rw [if_pos ⟨by omega, by omega, by omega, by omega, by omega, by omega, by omega⟩, hw]
    rfl
  generalize wrP { B with fuse := fz } (nameW 1) K1 2 (piecesW (textW b2)) = r at *
  obtain ⟨ec, D⟩ := r
  have hone := read_one hs.first h1 (by omega)
  rw [← e1] at hone
  rcases hs.code with hc | hc
  · dsimp only at hc
    subst hc
    refine ⟨_, _, _, he.trans rfl, .inl ⟨rfl, rfl⟩, hone, fun _ => ?_, hs.bytes⟩
    have hsec := hs.second rfl
    rw [l1] at hsec
    exact read_two e1 e2 hs.first hsec h1 (by omega) g1 (by omega)
  · dsimp only at hc
    subst hc
    exact ⟨_, _, _, he.trans rfl, .inr ⟨rfl, rfl⟩, hone, (fun h => by cases h), hs.bytes⟩
theorem texts_one {w : World} {A : Option Addr} {l : List Int} {n c : Nat} (hl : l.length = n) (hc : Cells w A (b8s l)) (hb : Bytes l) (t : TypeId) (fr : Nat × Nat) : Texts (w.alloc (.cells #[.slice A n c] t fr)) (some ⟨w.heap.size, 0, none⟩) [⟨A, c, l⟩] := by
  subst hl
  exact ⟨Cells.fresh w [.slice A l.length c] t fr, fun s hs => by obtain rfl := List.mem_singleton.1 hs; exact hc.alloc _, fun s hs => by obtain rfl := List.mem_singleton.1 hs; exact hb⟩
theorem texts_two {w : World} {A A2 : Option Addr} {l l2 : List Int} {n c n2 c2 : Nat} (hl : l.length = n) (hc : Cells w A (b8s l)) (hb : Bytes l) (hl2 : l2.length = n2) (hc2 : Cells w A2 (b8s l2)) (hb2 : Bytes l2) (t : TypeId) (fr : Nat × Nat) : Texts (w.alloc (.cells #[.slice A n c, .slice A2 n2 c2] t fr)) (some ⟨w.heap.size, 0, none⟩) [⟨A, c, l⟩, ⟨A2, c2, l2⟩] := by
  subst hl
  subst hl2
  refine ⟨Cells.fresh w [.slice A l.length c, .slice A2 l2.length c2] t fr, fun s hs => ?_, fun s hs => ?_⟩
  · rcases List.mem_cons.1 hs with rfl | hs
    · exact hc.alloc _
    · obtain rfl := List.mem_singleton.1 hs
      exact hc2.alloc _
  · rcases List.mem_cons.1 hs with rfl | hs
    · exact hb
    · obtain rfl := List.mem_singleton.1 hs
      exact hb2
set_option maxHeartbeats 4000000 in
set_option maxRecDepth 100000 in
theorem walStays_ok (E : Env) (q : HP) (a b : RecV) (f : Int) (w : World) (hf : wf64 f) (hr : ∀ w, Sat E w q → RecOk w a ∧ RecOk w b) (hq : ∀ w, Sat E w q → Quarter w ∧ Lib.TabIs Tryd.prog w "internal/strconv.uint64pow10" .u64 Lib.pow10Tab) (hw : Sat E w q) :
    Calls Tryd.prog 6 #[.agg #[.int .i64 a.seg, .int .i64 a.at_, .int .i64 a.lsn, .slice a.b.A a.b.l.length a.b.cap], .agg #[.int .i64 b.seg, .int .i64 b.at_, .int .i64 b.lsn, .slice b.b.A b.b.l.length b.b.cap], .int .i64 f] w fun e w' => e = .returned (.bool true) ∧ Sat E w' q := by
  have hr0 := hr w hw
  have h1 := (hw.alloc (.cells #[.int .i64 a.seg, .int .i64 a.at_, .int .i64 a.lsn, .slice a.b.A a.b.l.length a.b.cap] 35)).alloc (.cells #[.int .i64 b.seg, .int .i64 b.at_, .int .i64 b.lsn, .slice b.b.A b.b.l.length b.b.cap] 35)
  have hz : (w.alloc (.cells #[.int .i64 a.seg, .int .i64 a.at_, .int .i64 a.lsn, .slice a.b.A a.b.l.length a.b.cap] 35)).heap.size = w.heap.size + 1 := by simp
  rw [hz] at h1
  obtain ⟨X, hX⟩ : ∃ X, X = (HP.pt (w.heap.size + 1) (.cells #[.int .i64 b.seg, .int .i64 b.at_, .int .i64 b.lsn, .slice b.b.A b.b.l.length b.b.cap] 35) * (HP.pt w.heap.size (.cells #[.int .i64 a.seg, .int .i64 a.at_, .int .i64 a.lsn, .slice a.b.A a.b.l.length a.b.cap] 35) * q)) := ⟨_, rfl⟩
  have HRA : Aside (∀ w', Sat E w' X → (loadVar 35 ⟨w.heap.size, 0, none⟩).run Tryd.prog w' = .ok (.agg #[.int .i64 a.seg, .int .i64 a.at_, .int .i64 a.lsn, .slice a.b.A a.b.l.length a.b.cap]) w') := ⟨fun w' h => by
    rw [hX] at h
    exact run_loadAgg agRec (cs := [.int .i64 a.seg, .int .i64 a.at_, .int .i64 a.lsn, .slice a.b.A a.b.l.length a.b.cap]) rfl (Sat.ptCells (off := 0) h.right rfl)⟩
  have HRB : Aside (∀ w', Sat E w' X → (loadVar 35 ⟨w.heap.size + 1, 0, none⟩).run Tryd.prog w' = .ok (.agg #[.int .i64 b.seg, .int .i64 b.at_, .int .i64 b.lsn, .slice b.b.A b.b.l.length b.b.cap]) w') := ⟨fun w' h => by
    rw [hX] at h
    exact run_loadAgg agRec (cs := [.int .i64 b.seg, .int .i64 b.at_, .int .i64 b.lsn, .slice b.b.A b.b.l.length b.b.cap]) rfl (Sat.ptCells (off := 0) h rfl)⟩
  have HXQ : Aside (∀ w', Sat E w' X → Sat E w' q) := ⟨fun w' h => by rw [hX] at h; exact h.right.right⟩
  have HX : Aside (Sat E ((w.alloc (.cells #[.int .i64 a.seg, .int .i64 a.at_, .int .i64 a.lsn, .slice a.b.A a.b.l.length a.b.cap] 35)).alloc (.cells #[.int .i64 b.seg, .int .i64 b.at_, .int .i64 b.lsn, .slice b.b.A b.b.l.length b.b.cap] 35)) X) := ⟨by rw [hX]; exact h1⟩
  have HQ := Aside.mk (And.intro hq (And.intro hr (And.intro hr0.1.le (And.intro hr0.1.cap (And.intro hr0.2.le hr0.2.cap)))))
  obtain ⟨m1, hm1⟩ : ∃ m, m = min a.b.l.length 500 := ⟨_, rfl⟩
  obtain ⟨m2, hm2⟩ : ∃ m, m = min b.b.l.length 500 := ⟨_, rfl⟩
  have HM := Aside.mk (And.intro hm1 hm2)
  have HL : Aside (a.cut.length = m1 ∧ b.cut.length = m2 ∧ Bytes a.cut ∧ Bytes b.cut ∧ m1 ≤ a.b.cap ∧ m2 ≤ b.b.cap) := ⟨by rw [a.cut_length, hm1], by rw [b.cut_length, hm2], hr0.1.cut_bytes, hr0.2.cut_bytes, by have := hr0.1.le; omega, by have := hr0.2.le; omega⟩
  have hb1 : m1 ≤ 500 := by omega
  have hb2 : m2 ≤ 500 := by omega
  have HD : Aside (Sat E ((w.alloc (.cells #[.int .i64 a.seg, .int .i64 a.at_, .int .i64 a.lsn, .slice a.b.A a.b.l.length a.b.cap] 35)).alloc (.cells #[.int .i64 b.seg, .int .i64 b.at_, .int .i64 b.lsn, .slice b.b.A b.b.l.length b.b.cap] 35)).drew X) := ⟨HX.out.drew⟩
  have ra := HRA.out _ HD.out
  clear hr0 h1 hz hX hq hr hw hm1 hm2 HX HRA
  go_enter Tryd.func6, Tryd.ntmps6
  go_wp2
  refine region_R [1, 3] [1] (fun w' => Sat E w' X) #[false, false, false, false, false, false] (by kernel_rfl) rfl rfl ?_
  refine wpR_read (i := 0) #[true, false, false, false, false, false] rfl onlyN_noPanic (by kernel_rfl) (.inl ⟨rfl, exec_load rfl rfl ra⟩) ?_
  simp only [Act.put, List.setIfInBounds_toArray, List.set_cons_zero, List.set_cons_succ]
  refine wpR_held (i := 2) (v := .agg #[.int .i64 b.seg, .int .i64 b.at_, .int .i64 b.lsn, .slice b.b.A b.b.l.length b.b.cap]) #[true, false, true, false, false, false] rfl onlyN_noPanic (by kernel_rfl) HD.out (.inl ⟨rfl, fun w' hT => exec_load rfl rfl (HRB.out w' hT)⟩) ?_
  simp only [Act.put, List.setIfInBounds_toArray, List.set_cons_zero, List.set_cons_succ]
  refine wpR_keep #[true, true, true, false, false, false] (i := 1) rfl (by kernel_rfl) (fun K hK => ?_)
  go_simp; refine (rec_cut E X _ _ _ a.b.A a.b.l.length a.b.cap _ HQ.out.2.2.1 HQ.out.2.2.2.1 HD.out).mono ?_; rintro e w5 ⟨rfl, h5⟩; have H5 := Aside.mk h5; rw [← HM.out.1]; refine hK _ _ h5 ?_; clear hK K h5
  refine wpR_eff #[true, true, true, true, false, false] (i := 3) rfl (by kernel_rfl) (fun K hK => ?_)
  go_simp; refine (rec_cut E X _ _ _ b.b.A b.b.l.length b.b.cap _ HQ.out.2.2.2.2.1 HQ.out.2.2.2.2.2 H5.out).mono ?_; rintro e w6 ⟨rfl, h6⟩; have H6 := Aside.mk h6; rw [← HM.out.2]; refine hK _ _ ?_; clear hK K h6
  refine wpR_rd 4 #[true, true, true, true, true, false] rfl onlyN_noPanic (by kernel_rfl) (fun K hK => ?_); (go_simp; try go_bits); refine hK _ ?_; clear hK K
  refine wpR_rd 5 #[true, true, true, true, true, true] rfl onlyN_noPanic (by kernel_rfl) (fun K hK => ?_); (go_simp; try go_bits); refine hK _ ?_; clear hK K
  refine wpR_done (by kernel_rfl) ?_ _
  simp only [OnlyN]
  have h6 := HXQ.out _ H6.out
  have H6 := Aside.mk h6
  clear h6 ra HD H5 HRB
  have HC : Aside (∀ w', Sat E w' q → Cells w' a.b.A (b8s a.cut) ∧ Cells w' b.b.A (b8s b.cut)) := ⟨fun w' h => ⟨(HQ.out.2.1 w' h).1.cut_cells, (HQ.out.2.1 w' h).2.cut_cells⟩⟩
  have HQ2 : Aside (∀ w, Sat E w q → Quarter w ∧ Lib.TabIs Tryd.prog w "internal/strconv.uint64pow10" .u64 Lib.pow10Tab) := ⟨HQ.out.1⟩
  have HCP : Aside (a.b.cap ≤ maxLen ∧ b.b.cap ≤ maxLen) := ⟨HQ.out.2.2.2.1, HQ.out.2.2.2.2.2⟩
  clear HQ HM HXQ
  generalize a.cut = x at *
  generalize b.cut = y at *
  generalize a.b.A = A1 at *
  generalize b.b.A = A2 at *
  generalize a.b.cap = c1 at *
  generalize b.b.cap = c2 at *
  by_cases g0 : m1 = 0 ∨ m2 = 0
  · by_cases g1 : m1 = 0
    · subst g1
      go_wp2_with fail
      refine (awake18_ok E _ _ HQ2.out H6.out).mono ?_
      rintro e w7 ⟨rfl, h7⟩
      go_wp2
      go_ret
      exact ⟨rfl, h7⟩
    · obtain rfl : m2 = 0 := by omega
      have g2 : ((m1 : Int) == 0) = false := by rw [beq_eq_false_iff_ne]; omega
      go_wp2_with fail
      refine (awake18_ok E _ _ HQ2.out H6.out).mono ?_
      rintro e w7 ⟨rfl, h7⟩
      go_wp2
      go_ret
      exact ⟨rfl, h7⟩
  have p1 : 0 < m1 := by omega
  have p2 : 0 < m2 := by omega
  have g1 : ((m1 : Int) == 0) = false := by rw [beq_eq_false_iff_ne]; omega
  have g2 : ((m2 : Int) == 0) = false := by rw [beq_eq_false_iff_ne]; omega
  clear g0
  obtain ⟨K1, hK1⟩ : ∃ K1, K1 = chunkW (x.length + 4) := ⟨_, rfl⟩
  obtain ⟨K2, hK2⟩ : ∃ K2, K2 = chunkW (y.length + 4) := ⟨_, rfl⟩
  have hlx := HL.out.1
  have hly := HL.out.2.1
  have k1 : 1 ≤ K1 ∧ K1 ≤ 5 := by rw [hK1]; unfold chunkW; omega
  have k2 : 1 ≤ K2 ∧ K2 ≤ 5 := by rw [hK2]; unfold chunkW; omega
  have hwx := wneed_chunk (n := x.length) (by omega) (by omega)
  rw [← hK1] at hwx
  obtain ⟨B, hB⟩ := app_new (room := 60) (seg := 1) (b := x) twoW1 (by omega) (by omega) HL.out.2.2.1 (by omega) (by omega) (by rw [hwx]; omega)
  have HEQ : Aside (appendW (Dk.new 60) 1 0 1 x = (((K1 : Int), 0), B)) := ⟨by have := hB.eq; rw [hwx] at this; exact this⟩
  obtain ⟨U, hU⟩ : ∃ U, U = IntKind.u64.wrap f := ⟨_, rfl⟩
  have hU0 : 0 ≤ U ∧ U < 18446744073709551616 := by rw [hU, IntKind.wrap_u64]; omega
  obtain ⟨fz, hfz⟩ : ∃ fz : Int, fz = U.tmod 16 := ⟨_, rfl⟩
  have hfz2 : 0 ≤ fz ∧ fz < 16 := by rw [hfz, Int.tmod_eq_emod_of_nonneg hU0.1]; omega
  obtain ⟨mm, ec, D, hS⟩ := staysW_of hK1 hK2 hB fz (by omega) (by omega) (by omega) (by omega) HL.out.2.2.1 HL.out.2.2.2.1
  have HS := Aside.mk hS
  have hcode := hS.code
  clear hK1 hK2 hwx hB hS hlx hly
  have HX6 := H6
  go_wp2_with fail
  refine (disk_new_ok E _ 60 _ ⟨by omega, by omega⟩ H6.out).mono ?_
  rintro e w7 ⟨d, rfl, h7⟩
  have H7 := Aside.mk h7
  clear h7 HX6 H6
  go_wp2_with fail
  refine (wal_append E _ d (Dk.new 60) 1 0 1 A1 x m1 c1 _ (by unfold wf64; omega) (by unfold wf64; omega) (by unfold wf64; omega) HL.out.1 HL.out.2.2.2.2.1 HCP.out.1 HL.out.2.2.1 (fun w' h => ⟨(HQ2.out w' h).1, (HQ2.out w' h).2, (HC.out w' h).1⟩) H7.out).mono ?_
  rintro e w8 ⟨rfl, h8⟩
  rw [HEQ.out] at h8 ⊢
  have H8 := Aside.mk h8
  clear h8 H7
  have x1 : IntKind.i64.wrap fz = fz := by rw [IntKind.wrap_i64]; omega
  have x2 : IntKind.u64.wrap fz = fz := by rw [IntKind.wrap_u64]; omega
  have x6 := hfz.symm
  have x7 := hU.symm
  clear hfz hU
  go_wp2_with fail
  refine (disk_fuse_ok E q d B fz _ (by omega) H8.out).mono ?_
  rintro e w9 (⟨hneg, -, -⟩ | ⟨-, rfl, h9⟩)
  · exact absurd hneg (by omega)
  have H9 := Aside.mk h9
  clear h9 H8 x1 x2 x6 x7
  go_wp2_with fail
  refine (wal_append E _ d { B with fuse := fz } 1 K1 2 A2 y m2 c2 _ (by unfold wf64; omega) (by unfold wf64; omega) (by unfold wf64; omega) HL.out.2.1 HL.out.2.2.2.2.2 HCP.out.2 HL.out.2.2.2.1 (fun w' h => ⟨(HQ2.out w' h).1, (HQ2.out w' h).2, (HC.out w' h).2⟩) H9.out).mono ?_
  rintro e w10 ⟨rfl, h10⟩
  rw [HS.out.eq] at h10 ⊢
  have H10 := Aside.mk h10
  clear h10 H9
  go_wp2_with fail
  refine (disk_crash E q d D none [] 0 _ (by simp) (fun k hk => by cases hk) (fun E w h => Cells.nil _ _) H10.out).mono ?_
  rintro e w11 ⟨rfl, h11⟩
  have H11 := Aside.mk h11
  clear h11 H10
  go_wp2_with fail
  refine (wal_read E q d (D.crash []) 1 K1 _ (by omega) (by omega) (by omega) HS.out.bytes HQ2.out H11.out).mono ?_
  intro e w12 h12
  rw [HS.out.one] at h12
  obtain ⟨V, cV, R, ss, hss, rfl, hsc, h12, hR⟩ := h12
  obtain ⟨s, rfl, hsl⟩ := map_one hss
  have h13 : Sat E (w12.alloc (.cells #[.slice A1 m1 c1] 22)) (R * (HP.pt w12.heap.size (.cells #[.slice A1 m1 c1] 22) * (HP.disk d (D.crash []) * q))) := (h12.alloc _).perm (by ac_rfl)
  have T1 : Aside (Texts (w12.alloc (.cells #[.slice A1 m1 c1] 22)) V [s]) := ⟨⟨(hR _ _ h13).1, (hR _ _ h13).2, fun t ht => by obtain rfl := List.mem_singleton.1 ht; rw [hsl]; exact HL.out.2.2.1⟩⟩
  have T2 : Aside (Texts (w12.alloc (.cells #[.slice A1 m1 c1] 22)) (some ⟨w12.heap.size, 0, none⟩) [⟨A1, c1, x⟩]) := ⟨texts_one HL.out.1 (HC.out w12 h12.right.right).1 HL.out.2.2.1 _ _⟩
  have H13 := Aside.mk h13.right.right
  have HE1 : Aside (decide (([s] : List (Sl Int)).map (·.l) = ([⟨A1, c1, x⟩] : List (Sl Int)).map (·.l)) = true) := ⟨decide_eq_true hss⟩
  clear h12 h13 hR hss hsl H11
  simp only [List.length_cons, List.length_nil, Nat.zero_add] at hsc ⊢
  go_wp2_with fail
  refine (sameTexts_ok V _ [s] [⟨A1, c1, x⟩] 1 1 cV 1 _ rfl rfl (by omega) (by omega) T1.out T2.out).mono ?_
  rintro e w14 ⟨rfl, hw14⟩
  subst w14
  rw [HE1.out]
  clear T1 T2 HE1 hsc
  obtain ⟨w15, hw15⟩ : ∃ w15, w15 = w12.alloc (.cells #[.slice A1 m1 c1] 22) := ⟨_, rfl⟩
  rw [← hw15] at H13 ⊢
  clear hw15
  rcases hcode with ⟨e1, e2⟩ | ⟨e1, e2⟩
  · subst e1
    subst e2
    have HRD2 : Aside (∀ w', Sat E w' (HP.disk d (D.crash []) * q) → Calls Tryd.prog 16 #[.pointer (some ⟨d, 0, none⟩), .int .i64 1, .int .i64 ((K1 : Int) + (K2 : Int))] w' (readEndW E q d (D.crash []) (some [x, y]))) := ⟨fun w' h => by
      have h1 := wal_read E q d (D.crash []) 1 (K1 + K2) w' (by omega) (by omega) (by omega) HS.out.bytes HQ2.out h
      rw [HS.out.two rfl] at h1
      exact h1⟩
    go_wp2_with fail
    refine (HRD2.out _ H13.out).mono ?_
    intro e w16 h16
    obtain ⟨V, cV, R, ss, hss, rfl, hsc, h16, hR⟩ := h16
    obtain ⟨s, t, rfl, hsl, htl⟩ := map_two hss
    have h17 : Sat E (w16.alloc (.cells #[.slice A1 m1 c1, .slice A2 m2 c2] 22)) (R * (HP.pt w16.heap.size (.cells #[.slice A1 m1 c1, .slice A2 m2 c2] 22) * (HP.disk d (D.crash []) * q))) := (h16.alloc _).perm (by ac_rfl)
    have T1 : Aside (Texts (w16.alloc (.cells #[.slice A1 m1 c1, .slice A2 m2 c2] 22)) V [s, t]) := ⟨⟨(hR _ _ h17).1, (hR _ _ h17).2, fun u hu => by
      rcases List.mem_cons.1 hu with rfl | hu
      · rw [hsl]; exact HL.out.2.2.1
      · obtain rfl := List.mem_singleton.1 hu
        rw [htl]; exact HL.out.2.2.2.1⟩⟩
    have T2 : Aside (Texts (w16.alloc (.cells #[.slice A1 m1 c1, .slice A2 m2 c2] 22)) (some ⟨w16.heap.size, 0, none⟩) [⟨A1, c1, x⟩, ⟨A2, c2, y⟩]) := ⟨texts_two HL.out.1 (HC.out w16 h16.right.right).1 HL.out.2.2.1 HL.out.2.1 (HC.out w16 h16.right.right).2 HL.out.2.2.2.1 _ _⟩
    have H17 := Aside.mk h17.right.right
    have HE1 : Aside (decide (([s, t] : List (Sl Int)).map (·.l) = ([⟨A1, c1, x⟩, ⟨A2, c2, y⟩] : List (Sl Int)).map (·.l)) = true) := ⟨decide_eq_true hss⟩
    clear h16 h17 hR hss hsl htl H13 HRD2
    simp only [List.length_cons, List.length_nil, Nat.zero_add, Nat.reduceAdd] at hsc ⊢
    go_wp2_with fail
    refine (sameTexts_ok V _ [s, t] [⟨A1, c1, x⟩, ⟨A2, c2, y⟩] 2 2 cV 2 _ rfl rfl (by omega) (by omega) T1.out T2.out).mono ?_
    rintro e w18 ⟨rfl, hw18⟩
    subst w18
    rw [HE1.out]
    clear T1 T2 HE1 hsc
    go_wp2
    go_ret
    exact ⟨rfl, H17.out.right⟩
  · subst e1
    subst e2
    go_wp2
    go_ret
    exact ⟨rfl, H13.out.right⟩
end Go.Proofs.YthifabopnabjoaaDoor
/- The listed tables of AnchorNames: what the condition gives a walk. -/
namespace Go.Proofs.YthifabopnabjoaaDoor
open Go.ChangeShapes Go.WideShapes Go.ChangeAt Go.WideMaps Go.WideElems Go.RowKit HP
set_option linter.unusedVariables false

theorem quarter_of_reads {W : World} (h : Lib.VarReads Tryd.prog W "dryrot/crc.quarter" Rows.laid_dryrot_crc_quarter) : Quarter W := by
  obtain ⟨g0, t0, cs0, f0, p0, hg0, ht0, hv0, hd0⟩ := h
  obtain rfl := Option.some.inj (gQuarter.symm.trans hg0)
  obtain rfl := Option.some.inj (tQuarter.symm.trans ht0)
  obtain ⟨xs, m1, rfl, hx1, hlen, hn3, hel⟩ := DataW.trod_array Tryd.underlying109 hd0
  have c3 : Tryd.prog.cellsOf 91 = 1 := by kernel_rfl
  simp only [Prod.mk.injEq, DataW.agg.injEq, Rows.laid_dryrot_crc_quarter] at hx1
  intro i hi
  have hi' := hel i hi
  rw [c3, Nat.mul_one] at hi'
  have hxl : i < xs.length := by omega
  rw [List.getElem?_eq_getElem hxl] at hi'
  obtain ⟨k, e1, e2, _⟩ := DataW.trod_int Tryd.underlying91 hi'
  have e3 : (xs.map (·.1))[i]? = some (DataW.lit (.int .u32 k)) := by
    rw [List.getElem?_map, List.getElem?_eq_getElem hxl]
    simp [e2]
  rw [← hx1.1] at e3
  have hk : k = quarterN i := by
    match i, hi with
    | 0, _ => simpa [quarterN] using e3.symm
    | 1, _ => simpa [quarterN] using e3.symm
    | 2, _ => simpa [quarterN] using e3.symm
    | 3, _ => simpa [quarterN] using e3.symm
  have e4 := World.var?_cell hg0 hv0 i
  have e5 : cs0.toList[i]? = some (.int .u32 k) := by
    have := congrArg (fun l => l[0]?) e1
    simpa [List.getElem?_take] using this
  rw [Array.getElem?_toList, hk] at e5
  rw [← e5, ← e4]
theorem pow10_tab : (Rows.laid_internal_strconv_uint64pow10 : DataW Unit) = Lib.tabData .u64 Lib.pow10Tab := by kernel_rfl
theorem pow10_of_reads {W : World} (h : Lib.VarReads Tryd.prog W "internal/strconv.uint64pow10" Rows.laid_internal_strconv_uint64pow10) : Lib.TabIs Tryd.prog W "internal/strconv.uint64pow10" .u64 Lib.pow10Tab := by
  obtain ⟨g0, t0, cs0, f0, p0, hg0, ht0, hv0, hd0⟩ := h
  have hg : Tryd.prog.globalNamed "internal/strconv.uint64pow10" = some 1 := by kernel_rfl
  have ht : (Tryd.prog.globals[1]?).map (·.type) = some 111 := by kernel_rfl
  obtain rfl := Option.some.inj (hg.symm.trans hg0)
  obtain rfl := Option.some.inj (ht.symm.trans ht0)
  unfold Lib.TabIs
  rw [hv0, ← Lib.cells_of_tab Tryd.underlying111 Tryd.underlying54 (by kernel_rfl) (by kernel_rfl) (pow10_tab ▸ hd0)]
def laidN : List (String × DataW Unit) := [("dryrot/crc.quarter", Rows.laid_dryrot_crc_quarter), ("math/bits.deBruijn32tab", Rows.laid_math_bits_deBruijn32tab), ("math/bits.deBruijn64tab", Rows.laid_math_bits_deBruijn64tab), ("internal/strconv.uint64pow10", Rows.laid_internal_strconv_uint64pow10)]
theorem door_metN (os : Os) (args : Array Value) : laidMetH Tryd.prog laidN ((World.doorLaid Tryd.prog 400 os).forCall (fun _ _ => 0) ⟨#[], args, []⟩).memory :=
  laidMetH_of_parts3 (fuel := 8) (laidMet_of_run' 8 (by kernel_rfl) (by kernel_rfl)) (by kernel_rfl) (by kernel_rfl)
theorem laidN_reads {W : World} (h : laidMetH Tryd.prog laidN W) : Quarter W ∧ Lib.TabIs Tryd.prog W "internal/strconv.uint64pow10" .u64 Lib.pow10Tab := by
  rw [MakeChecks.laidMetH_plain _ _ _ (by kernel_rfl)] at h
  obtain ⟨ps, hL, -⟩ := h
  exact ⟨quarter_of_reads (Lib.LaidVars_reads hL _ _ (by simp [laidN])), pow10_of_reads (Lib.LaidVars_reads hL _ _ (by simp [laidN]))⟩
end Go.Proofs.YthifabopnabjoaaDoor
/- The listed tables stay. -/
namespace Go.Proofs.YthifabopnabjoaaDoor
open Go.ChangeShapes Go.WideShapes Go.ChangeAt Go.RowKit HP
set_option linter.unusedVariables false
theorem tab_old {E : Env} {W w : World} {name : String} {k : IntKind} {zs : List Int} (h : Lib.TabIs Tryd.prog W name k zs) (ho : Sat E w (HP.old W)) : Lib.TabIs Tryd.prog w name k zs := by
  unfold Lib.TabIs World.var? at *
  cases hg : Tryd.prog.globalNamed name with
  | none => simp [hg] at h
  | some g =>
    simp only [hg, Option.bind_some] at h ⊢
    have hlt : g < W.heap.size := by
      rcases Nat.lt_or_ge g W.heap.size with h' | h'
      · exact h'
      · rw [Array.getElem?_eq_none h'] at h; simp at h
    rw [old_carry ho g hlt]
    exact h
end Go.Proofs.YthifabopnabjoaaDoor
