/- Texts of one claim, one behind the other: RefV3. -/
import Derived.Test.YtjlfhfknnpjikaaRd11
/- dryrotref03: Copy. -/
namespace Go.Proofs.Ytjlfhfknnpjikaa
open Go.RowKit HP
set_option linter.unusedSimpArgs false
set_option linter.unusedVariables false

theorem alloc_size2 (w : World) (o : Obj) : (w.alloc o).heap.size = w.heap.size + 1 := by simp
set_option maxHeartbeats 16000000 in
set_option maxRecDepth 100000 in
theorem ref_copy (E : Env) (q : HP) (y : Nat) (A : Dk) (w : World) (hw : Sat E w (HP.rdisk y A * q)) :
    Calls Try.prog 25 #[.pointer (some ⟨y, 0, none⟩)] w fun e w' => ∃ O, e = .returned (.pointer (some ⟨O, 0, none⟩)) ∧ Sat E w' (HP.rdisk O A * (HP.rdisk y A * q)) := by
  obtain ⟨v, fs, L, hv, hk⟩ := hw.rdisk_open
  clear hw
  obtain ⟨FA, cF, rfl, hcF, hcM⟩ := hk.rdk_parts.s2.row_slice
  obtain ⟨n, hn⟩ : ∃ n, n = fs.length := ⟨_, rfl⟩
  have hfl := hv.flen
  have HNA : Aside (n = A.files.length) := ⟨by rw [hn, hv.len]⟩
  rw [← hn] at hcF hk hfl
  have HN := Aside.mk hn
  obtain ⟨fuse, hfu⟩ : ∃ fuse, fuse = A.fuse := ⟨_, rfl⟩
  obtain ⟨room, hro⟩ : ∃ room, room = A.room := ⟨_, rfl⟩
  rw [← hfu, ← hro] at hk
  have HFR := Aside.mk (And.intro hfu hro)
  have HV := Aside.mk hv
  have c0 := hk.rdk_parts.cell 0
  have c2 := hk.rdk_parts.cell 2
  simp only [List.getElem?_toArray, List.getElem?_cons_zero, List.getElem?_cons_succ] at c0 c2
  have HS := Aside.mk hk
  clear hn hk hv hfu hro
  go_enter Try.func25, Try.ntmps25
  go_upto_region 1 with fail
  go_cut [3] from 9 to 18 (fun s3 wx => ∃ O : Nat, s3 = .pointer (some ⟨O, 0, none⟩) ∧ Aside (Sat E wx (HP.pt O (.cells #[.int .i64 room, .slice none 0 0, .int .i64 fuse] 96) * (HP.rdk y room fuse (.slice FA n cF) fs L * q))))
  case first =>
    have HB := Aside.mk (HS.out.alloc (.cells #[.int .i64 room, .slice none 0 0, .int .i64 fuse] 96)).drew
    go_region
    all_goals
      go_wp2
      go_meet
      case rel => exact ⟨_, rfl, HB⟩
  clear HS c0 c2
  obtain ⟨O, rfl, HS⟩ := hcut
  have c1 := HS.out.right.rdk_parts.cell 1
  simp only [List.getElem?_toArray, List.getElem?_cons_zero, List.getElem?_cons_succ] at c1
  have HO : Aside (Sat E wc (HP.rdk O room fuse (.slice none 0 0) [] [] * (HP.rdk y room fuse (.slice FA n cF) fs L * q))) := ⟨by
    refine Sat.rdk_join ?_
    have h := HS.out.row_nil 93 2 none
    refine h.perm ?_
    show HP.row _ 2 _ 0 [] * (HP.pt _ _ * _) = HP.pt _ _ * (HP.row _ 2 _ 0 [] * (HP.emp * (HP.emp * _)))
    rw [HP.emp_mul, HP.emp_mul]
    ac_rfl⟩
  have HCR0 : Aside (CpR A 0 [] []) := ⟨rfl, fun f hf => by cases hf⟩
  clear HS
  go_wp2
  go_loopw [24] (fun v24 wr => ∃ (k : Nat) (v2 : Value) (fs2 : List RF) (L2 : List (Value × List Int)), k ≤ n ∧ v24 = .int .i64 k ∧ Aside (CpR A k fs2 L2) ∧ Aside (k = fs2.length) ∧ Aside (Sat E wr (HP.rdk O room fuse v2 fs2 L2 * (HP.rdk y room fuse (.slice FA n cF) fs L * q)))) (fun i _ => n - (intOf i).toNat)
  case atStart => exact ⟨0, _, [], [], Nat.zero_le _, rfl, HCR0, ⟨rfl⟩, HO⟩
  case round =>
    clear HO HCR0 c1
    obtain ⟨k, v2, fs2, L2, hk, rfl, HCR, HK2, HS⟩ := hrel
    by_cases hlt : k < n
    · have hlt2 : (k : Int) < (n : Int) := by omega
      have h0 : (0 : Int) ≤ (k : Int) := by omega
      obtain ⟨f, hf⟩ : ∃ f, fs[k]? = some f := ⟨_, List.getElem?_eq_getElem (by rw [← HN.out]; exact hlt)⟩
      obtain ⟨g, o, FV, FC, rfl, hval, hvc, g0, g1⟩ := HS.out.right.rf_at HN.out hf
      obtain ⟨nm, hnm⟩ : ∃ nm, nm = f.name := ⟨_, rfl⟩
      obtain ⟨l, hl⟩ : ∃ l, l = f.cs.map (·.c) := ⟨_, rfl⟩
      have hkA : A.files[k]? = some (nm, l) := by rw [hnm, hl, ← HV.out.same, List.getElem?_map, hf]; rfl
      obtain ⟨vn, hvn⟩ : ∃ vn, vn = f.cs.length := ⟨_, rfl⟩
      have hvs : vn ≤ 100000 := by
        have := at_small HV.out.fine nm
        have e : A.at nm = l := by unfold Dk.at; rw [lk_first HV.out.fine.sorted hkA]; rfl
        rw [e, hl, List.length_map] at this
        omega
      have HLL : Aside (l.length = vn) := ⟨by rw [hl, List.length_map, hvn]⟩
      rw [← hvn] at g1 hval hvc
      rw [← hnm] at g0
      have HF := Aside.mk (And.intro hf (And.intro hval hl))
      have HKA := Aside.mk hkA
      have hB1 := HS.out.alloc (.cells #[.string nm, .slice FV vn FC] 93)
      have b0 := hB1.cell 0
      simp only [List.getElem?_toArray, List.getElem?_cons_zero, List.getElem?_cons_succ] at b0
      obtain ⟨BF, hBF⟩ : ∃ BF, BF = wr.heap.size := ⟨_, rfl⟩
      rw [← hBF] at hB1 b0
      have HB := Aside.mk hB1
      have HBF := Aside.mk hBF
      clear hf hl hkA hvn hnm hval hB1 b0 hBF HS
      have hB2 := HB.out.alloc (.cells #[.string nm, .slice none 0 0] 93)
      obtain ⟨G, hG⟩ : ∃ G, G = wr.heap.size + 1 := ⟨_, rfl⟩
      rw [alloc_size2, ← hG] at hB2
      have HB2 := Aside.mk hB2
      have HG := Aside.mk hG
      clear hB2 HB hG
      go_wp2
      rw [← HG.out, ← HBF.out]
      clear g0 g1
      generalize World.alloc (World.alloc wr _) _ = wb at *
      have HI0 : Aside (Sat E wb (HP.pt G (.cells #[.string nm, .slice none 0 0] 93) * (HP.row 90 5 (.slice none 0 0) 0 [] * (HP.pt BF (.cells #[.string nm, .slice FV vn FC] 93) * (HP.rdk O room fuse v2 fs2 L2 * (HP.rdk y room fuse (.slice (some ⟨g, o, none⟩) n cF) fs L * q)))))) := ⟨(HB2.out.row_nil 90 5 none).s2⟩
      have HCC0 : Aside (CpC l 0 [] L2) := ⟨rfl, fun x hx => by cases hx⟩
      clear HB2
      go_loopw [34] (fun v34 wi => ∃ (i : Nat) (VA : Option Addr) (vc : Nat) (cs2 : List RC) (L2 : List (Value × List Int)), i ≤ vn ∧ v34 = .int .i64 i ∧ Aside (CpC l i cs2 L2) ∧ Aside (CpR A k fs2 L2) ∧ Aside (Sat E wi (HP.pt G (.cells #[.string nm, .slice VA i vc] 93) * (HP.row 90 5 (.slice VA i vc) i (cs2.flatMap RC.vals) * (HP.pt BF (.cells #[.string nm, .slice FV vn FC] 93) * (HP.rdk O room fuse v2 fs2 L2 * (HP.rdk y room fuse (.slice (some ⟨g, o, none⟩) n cF) fs L * q))))))) (fun i _ => vn - (intOf i).toNat)
      case atStart => exact ⟨0, none, 0, [], L2, Nat.zero_le _, rfl, HCC0, HCR, HI0⟩
      case round =>
        clear HI0 HCC0 HCR
        obtain ⟨i, VA, vc, cs2, L2, hi, rfl, HCC, HCR, HI⟩ := hrel
        by_cases hil : i < vn
        · have hil2 : (i : Int) < (vn : Int) := by omega
          have hi0 : (0 : Int) ≤ (i : Int) := by omega
          have hil3 : i < l.length := by rw [HLL.out]; exact hil
          obtain ⟨x, hx⟩ : ∃ x, f.cs[i]? = some x := ⟨_, List.getElem?_eq_getElem (by rw [HF.out.2.2, List.length_map] at hil3; exact hil3)⟩
          have hxl : l[i]? = some x.c := by rw [HF.out.2.2, List.getElem?_map, hx]; rfl
          have hrd : Sat E _ (HP.rdk y room fuse (.slice (some ⟨g, o, none⟩) n cF) fs L * q) := HI.out.right.right.right.right
          obtain ⟨gc, oc, rfl, x0, x1, x2, x3, x4⟩ := hrd.rc_at HF.out.1 HF.out.2.1 hx
          have hin := HV.out.imgs f (List.mem_of_getElem? HF.out.1) x (List.mem_of_getElem? hx)
          have HFin := Aside.mk (HV.out.cs_fine (List.mem_of_getElem? HF.out.1) x (List.mem_of_getElem? hx))
          obtain ⟨A0, c0, e0, -, -, -⟩ := hrd.rdk_imgs.img hin.1
          obtain ⟨A1, c1, e1, -, -, -⟩ := hrd.rdk_imgs.img hin.2.1
          obtain ⟨A2, c2, e2, -, -, -⟩ := hrd.rdk_imgs.img hin.2.2.1
          obtain ⟨A3, c3, e3, -, -, -⟩ := hrd.rdk_imgs.img hin.2.2.2
          rw [e0] at x0
          rw [e1] at x1
          rw [e2] at x2
          rw [e3] at x3
          have hm0 := hin.1
          have hm1 := hin.2.1
          have hm2 := hin.2.2.1
          have hm3 := hin.2.2.2
          rw [e0] at hm0
          rw [e1] at hm1
          rw [e2] at hm2
          rw [e3] at hm3
          have HX := Aside.mk (And.intro hx (And.intro trivial hxl))
          have hB := HI.out.alloc (.cells #[.slice A0 128 c0, .slice A1 128 c1, .slice A2 128 c2, .slice A3 128 c3, .bool x.c.waits] 90)
          obtain ⟨CB, hCB⟩ : ∃ CB, CB = wr.heap.size := ⟨_, rfl⟩
          have HCI : Aside (∀ W, Sat E W (HP.pt CB (.cells #[.slice A0 128 c0, .slice A1 128 c1, .slice A2 128 c2, .slice A3 128 c3, .bool x.c.waits] 90) * (HP.pt G (.cells #[.string nm, .slice VA i vc] 93) * (HP.row 90 5 (.slice VA i vc) i (cs2.flatMap RC.vals) * (HP.pt BF (.cells #[.string nm, .slice (some ⟨gc, oc, none⟩) vn FC] 93) * (HP.rdk O room fuse v2 fs2 L2 * (HP.rdk y room fuse (.slice (some ⟨g, o, none⟩) n cF) fs L * q)))))) → Cells W A0 (b8s x.c.read) ∧ Cells W A1 (b8s x.c.durable) ∧ Cells W A2 (b8s x.c.synced) ∧ Cells W A3 (b8s x.c.written)) := ⟨fun W h => by
            have hrd := h.right.right.right.right.right.rdk_imgs
            exact ⟨hrd.img_cells hm0, hrd.img_cells hm1, hrd.img_cells hm2, hrd.img_cells hm3⟩⟩
          have HC : Aside (∀ W, Sat E W (HP.pt CB (.cells #[.slice A0 128 c0, .slice A1 128 c1, .slice A2 128 c2, .slice A3 128 c3, .bool x.c.waits] 90) * (HP.pt G (.cells #[.string nm, .slice VA i vc] 93) * (HP.row 90 5 (.slice VA i vc) i (cs2.flatMap RC.vals) * (HP.pt BF (.cells #[.string nm, .slice (some ⟨gc, oc, none⟩) vn FC] 93) * (HP.rdk O room fuse v2 fs2 L2 * (HP.rdk y room fuse (.slice (some ⟨g, o, none⟩) n cF) fs L * q)))))) → W.cell? ⟨G, 1, none⟩ = some (.slice VA i vc) ∧ W.cell? ⟨CB, 0, none⟩ = some (.slice A0 128 c0) ∧ W.cell? ⟨CB, 1, none⟩ = some (.slice A1 128 c1) ∧ W.cell? ⟨CB, 2, none⟩ = some (.slice A2 128 c2) ∧ W.cell? ⟨CB, 3, none⟩ = some (.slice A3 128 c3) ∧ W.cell? ⟨CB, 4, none⟩ = some (.bool x.c.waits)) := ⟨fun W h => by
            have h0 := h.cell 0
            have h1 := h.cell 1
            have h2 := h.cell 2
            have h3 := h.cell 3
            have h4 := h.cell 4
            have h5 := h.s2.cell 1
            simp only [List.getElem?_toArray, List.getElem?_cons_zero, List.getElem?_cons_succ] at h0 h1 h2 h3 h4 h5
            exact ⟨h5, h0, h1, h2, h3, h4⟩⟩
          rw [← hCB] at hB
          have HS := Aside.mk hB
          have HCB := Aside.mk hCB
          clear hrd hin e0 e1 e2 e3 hx hxl hB hCB hm0 hm1 hm2 hm3 HI
          go_upto_region 9 with fail
          rw [← HCB.out]
          clear x0 x1 x2 x3 x4
          generalize World.alloc wr _ = wd at *
          refine region_R [2, 5, 6, 9, 10, 13, 14, 17, 21, 22, 24] [2, 5, 6, 9, 10, 13, 14, 17, 21] (fun W => Sat E W (HP.pt CB (.cells #[.slice A0 128 c0, .slice A1 128 c1, .slice A2 128 c2, .slice A3 128 c3, .bool x.c.waits] 90) * (HP.pt G (.cells #[.string nm, .slice VA i vc] 93) * (HP.row 90 5 (.slice VA i vc) i (cs2.flatMap RC.vals) * (HP.pt BF (.cells #[.string nm, .slice (some ⟨gc, oc, none⟩) vn FC] 93) * (HP.rdk O room fuse v2 fs2 L2 * (HP.rdk y room fuse (.slice (some ⟨g, o, none⟩) n cF) fs L * q))))))) #[false, false, false, false, false, false, false, false, false, false, false, false, false, false, false, false, false, false, false, false, false, false, false, false, false] (by kernel_rfl) rfl rfl ?_
          have HT : Aside ((fun W => Sat E W (HP.pt CB (.cells #[.slice A0 128 c0, .slice A1 128 c1, .slice A2 128 c2, .slice A3 128 c3, .bool x.c.waits] 90) * (HP.pt G (.cells #[.string nm, .slice VA i vc] 93) * (HP.row 90 5 (.slice VA i vc) i (cs2.flatMap RC.vals) * (HP.pt BF (.cells #[.string nm, .slice (some ⟨gc, oc, none⟩) vn FC] 93) * (HP.rdk O room fuse v2 fs2 L2 * (HP.rdk y room fuse (.slice (some ⟨g, o, none⟩) n cF) fs L * q))))))) _) := ⟨HS.out.drew⟩
          refine wpR_pu 0 #[true, false, false, false, false, false, false, false, false, false, false, false, false, false, false, false, false, false, false, false, false, false, false, false, false] rfl onlyN_noPanic (by kernel_rfl) (fun K hK => ?_); (go_simp; try go_bits); refine hK _ ?_; clear hK K
          refine wpR_held (i := 1) (v := .slice VA i vc) #[true, true, false, false, false, false, false, false, false, false, false, false, false, false, false, false, false, false, false, false, false, false, false, false, false] rfl onlyN_noPanic (by kernel_rfl) HT.out (.inl ⟨rfl, fun w' hT => ?_⟩) ?_
          · obtain ⟨t0, t1, t2, t3, t4, t5⟩ := HC.out _ hT; go_simp
          simp only [Act.put, List.setIfInBounds_toArray, List.set_cons_zero, List.set_cons_succ]
          refine wpR_pu 3 #[true, true, false, true, false, false, false, false, false, false, false, false, false, false, false, false, false, false, false, false, false, false, false, false, false] rfl onlyN_noPanic (by kernel_rfl) (fun K hK => ?_); (go_simp; try go_bits); refine hK _ ?_; clear hK K
          refine wpR_held (i := 4) (v := .slice A0 128 c0) #[true, true, false, true, true, false, false, false, false, false, false, false, false, false, false, false, false, false, false, false, false, false, false, false, false] rfl onlyN_noPanic (by kernel_rfl) HT.out (.inl ⟨rfl, fun w' hT => ?_⟩) ?_
          · obtain ⟨t0, t1, t2, t3, t4, t5⟩ := HC.out _ hT; go_simp
          simp only [Act.put, List.setIfInBounds_toArray, List.set_cons_zero, List.set_cons_succ]
          refine wpR_pu 7 #[true, true, false, true, true, false, false, true, false, false, false, false, false, false, false, false, false, false, false, false, false, false, false, false, false] rfl onlyN_noPanic (by kernel_rfl) (fun K hK => ?_); (go_simp; try go_bits); refine hK _ ?_; clear hK K
          refine wpR_held (i := 8) (v := .slice A1 128 c1) #[true, true, false, true, true, false, false, true, true, false, false, false, false, false, false, false, false, false, false, false, false, false, false, false, false] rfl onlyN_noPanic (by kernel_rfl) HT.out (.inl ⟨rfl, fun w' hT => ?_⟩) ?_
          · obtain ⟨t0, t1, t2, t3, t4, t5⟩ := HC.out _ hT; go_simp
          simp only [Act.put, List.setIfInBounds_toArray, List.set_cons_zero, List.set_cons_succ]
          refine wpR_pu 11 #[true, true, false, true, true, false, false, true, true, false, false, true, false, false, false, false, false, false, false, false, false, false, false, false, false] rfl onlyN_noPanic (by kernel_rfl) (fun K hK => ?_); (go_simp; try go_bits); refine hK _ ?_; clear hK K
          refine wpR_held (i := 12) (v := .slice A2 128 c2) #[true, true, false, true, true, false, false, true, true, false, false, true, true, false, false, false, false, false, false, false, false, false, false, false, false] rfl onlyN_noPanic (by kernel_rfl) HT.out (.inl ⟨rfl, fun w' hT => ?_⟩) ?_
          · obtain ⟨t0, t1, t2, t3, t4, t5⟩ := HC.out _ hT; go_simp
          simp only [Act.put, List.setIfInBounds_toArray, List.set_cons_zero, List.set_cons_succ]
          refine wpR_pu 15 #[true, true, false, true, true, false, false, true, true, false, false, true, true, false, false, true, false, false, false, false, false, false, false, false, false] rfl onlyN_noPanic (by kernel_rfl) (fun K hK => ?_); (go_simp; try go_bits); refine hK _ ?_; clear hK K
          refine wpR_held (i := 16) (v := .slice A3 128 c3) #[true, true, false, true, true, false, false, true, true, false, false, true, true, false, false, true, true, false, false, false, false, false, false, false, false] rfl onlyN_noPanic (by kernel_rfl) HT.out (.inl ⟨rfl, fun w' hT => ?_⟩) ?_
          · obtain ⟨t0, t1, t2, t3, t4, t5⟩ := HC.out _ hT; go_simp
          simp only [Act.put, List.setIfInBounds_toArray, List.set_cons_zero, List.set_cons_succ]
          refine wpR_pu 18 #[true, true, false, true, true, false, false, true, true, false, false, true, true, false, false, true, true, false, true, false, false, false, false, false, false] rfl onlyN_noPanic (by kernel_rfl) (fun K hK => ?_); (go_simp; try go_bits); refine hK _ ?_; clear hK K
          refine wpR_held (i := 19) (v := .bool x.c.waits) #[true, true, false, true, true, false, false, true, true, false, false, true, true, false, false, true, true, false, true, true, false, false, false, false, false] rfl onlyN_noPanic (by kernel_rfl) HT.out (.inl ⟨rfl, fun w' hT => ?_⟩) ?_
          · obtain ⟨t0, t1, t2, t3, t4, t5⟩ := HC.out _ hT; go_simp
          simp only [Act.put, List.setIfInBounds_toArray, List.set_cons_zero, List.set_cons_succ]
          clear HT
          have HS0 := Aside.mk HS.out.drew
          clear HS
          revert HS0
          generalize World.drew wd = W0
          intro HS0
          apply share
          · intro hsh00
            have hsh0 := Aside.mk hsh00
            clear hsh00
            apply share
            · intro hsh10
              have hsh1 := Aside.mk hsh10
              clear hsh10
              apply share
              · intro hsh20
                have hsh2 := Aside.mk hsh20
                clear hsh20
                apply share
                · intro hsh30
                  have hsh3 := Aside.mk hsh30
                  clear hsh30
                  apply share
                  · intro hsh40
                    have hsh4 := Aside.mk hsh40
                    clear hsh40
                    apply share
                    · intro hsh50
                      have hsh5 := Aside.mk hsh50
                      clear hsh50
                      apply share
                      · intro hsh60
                        have hsh6 := Aside.mk hsh60
                        clear hsh60
                        apply share
                        · intro hsh70
                          have hsh7 := Aside.mk hsh70
                          clear hsh70
                          apply share
                          · intro hsh80
                            have hsh8 := Aside.mk hsh80
                            clear hsh80
                            apply share
                            · intro hsh90
                              have hsh9 := Aside.mk hsh90
                              clear hsh90
                              apply share
                              · intro hsh100
                                have hsh10 := Aside.mk hsh100
                                clear hsh100
                                apply share
                                · intro hsh110
                                  have hsh11 := Aside.mk hsh110
                                  clear hsh110
                                  apply share
                                  · intro hsh120
                                    have hsh12 := Aside.mk hsh120
                                    clear hsh120
                                    apply share
                                    · intro hsh130
                                      have hsh13 := Aside.mk hsh130
                                      clear hsh130
                                      apply share
                                      · intro hsh140
                                        have hsh14 := Aside.mk hsh140
                                        clear hsh140
                                        apply share
                                        · intro hsh150
                                          have hsh15 := Aside.mk hsh150
                                          clear hsh150
                                          apply share
                                          · intro hsh160
                                            have hsh16 := Aside.mk hsh160
                                            clear hsh160
                                            apply share
                                            · intro hsh170
                                              have hsh17 := Aside.mk hsh170
                                              clear hsh170
                                              apply share
                                              · intro hsh180
                                                have hsh18 := Aside.mk hsh180
                                                clear hsh180
                                                apply share
                                                · intro hsh190
                                                  have hsh19 := Aside.mk hsh190
                                                  clear hsh190
                                                  apply share
                                                  · intro hsh200
                                                    have hsh20 := Aside.mk hsh200
                                                    clear hsh200
                                                    apply share
                                                    · intro hsh210
                                                      have hsh21 := Aside.mk hsh210
                                                      clear hsh210
                                                      refine wpR_many [2, 6, 10, 14] rfl (by kernel_rfl) ?_
                                                      refine List.forall_mem_cons.2 ⟨?_, List.forall_mem_cons.2 ⟨?_, List.forall_mem_cons.2 ⟨?_, List.forall_mem_cons.2 ⟨?_, (fun _ h => by cases h)⟩⟩⟩⟩
                                                      · refine br_keep #[true, true, true, true, true, false, false, true, true, false, false, true, true, false, false, true, true, false, true, true, false, false, false, false, false] rfl (by kernel_rfl) (fun K hK => ?_)
                                                        go_simp
                                                        obtain ⟨W1, hW1⟩ : ∃ zz, zz = World.alloc W0 (.cells #[] 5) := ⟨_, rfl⟩
                                                        obtain ⟨q1, hq1⟩ : ∃ zz, zz = Array.size (World.heap W0) := ⟨_, rfl⟩
                                                        have hn1 : Sat E W1 (HP.pt CB (.cells #[.slice A0 128 c0, .slice A1 128 c1, .slice A2 128 c2, .slice A3 128 c3, .bool x.c.waits] 90) * (HP.pt G (.cells #[.string nm, .slice VA i vc] 93) * (HP.row 90 5 (.slice VA i vc) i (cs2.flatMap RC.vals) * (HP.pt BF (.cells #[.string nm, .slice (some ⟨gc, oc, none⟩) vn FC] 93) * (HP.rdk O room fuse v2 fs2 L2 * (HP.rdk y room fuse (.slice (some ⟨g, o, none⟩) n cF) fs L * q)))))) := by rw [hW1]; exact (HS0.out.alloc _).right
                                                        rw [← hW1, ← hq1]
                                                        refine hK _ _ (by first | exact hn1 | exact (Sat.right hn1) | exact (Sat.right (Sat.right hn1)) | exact (Sat.right (Sat.right (Sat.right hn1))) | exact (Sat.right (Sat.right (Sat.right (Sat.right hn1)))) | exact (Sat.right (Sat.right (Sat.right (Sat.right (Sat.right hn1))))) | exact (Sat.right (Sat.right (Sat.right (Sat.right (Sat.right (Sat.right hn1))))))) ?_
                                                        clear hK K hW1 hq1
                                                        have HS1 : Aside (Sat E W1 (HP.pt CB (.cells #[.slice A0 128 c0, .slice A1 128 c1, .slice A2 128 c2, .slice A3 128 c3, .bool x.c.waits] 90) * (HP.pt G (.cells #[.string nm, .slice VA i vc] 93) * (HP.row 90 5 (.slice VA i vc) i (cs2.flatMap RC.vals) * (HP.pt BF (.cells #[.string nm, .slice (some ⟨gc, oc, none⟩) vn FC] 93) * (HP.rdk O room fuse v2 fs2 L2 * (HP.rdk y room fuse (.slice (some ⟨g, o, none⟩) n cF) fs L * q))))))) := ⟨hn1.perm (by ac_rfl)⟩
                                                        clear hn1
                                                        refine wpR_many [5, 6, 10, 14] rfl (by kernel_rfl) ?_
                                                        refine List.forall_mem_cons.2 ⟨?_, List.forall_mem_cons.2 ⟨?_, List.forall_mem_cons.2 ⟨?_, List.forall_mem_cons.2 ⟨?_, (fun _ h => by cases h)⟩⟩⟩⟩
                                                        · refine br_keep #[true, true, true, true, true, true, false, true, true, false, false, true, true, false, false, true, true, false, true, true, false, false, false, false, false] rfl (by kernel_rfl) (fun K hK => ?_)
                                                          refine Eq.mpr (if_pos (by rfl)) ?_
                                                          refine wp_append_row (v := .slice (some ⟨q1, 0, none⟩) 0 0) (n := 0) (cs := []) (A := A0) (m := 128) (c := c0) (news := b8s x.c.read) slB8 rfl rfl rfl (HS1.out.row_nil 5 1 _) (HCI.out _ (by first | exact HS1.out | exact (Sat.right HS1.out) | exact (Sat.right (Sat.right HS1.out)) | exact (Sat.right (Sat.right (Sat.right HS1.out))) | exact (Sat.right (Sat.right (Sat.right (Sat.right HS1.out)))) | exact (Sat.right (Sat.right (Sat.right (Sat.right (Sat.right HS1.out))))) | exact (Sat.right (Sat.right (Sat.right (Sat.right (Sat.right (Sat.right HS1.out)))))))).1 (by rw [b8s_length]; exact HFin.out.1) (b8s_one _) (by unfold maxLen; omega) (by omega) (fun vv W2 hn2 => ?_)
                                                          rw [List.nil_append, Nat.zero_add] at hn2
                                                          obtain ⟨E1, e1, rfl, -, -⟩ := hn2.row_slice
                                                          refine hK _ _ (by first | exact hn2 | exact (Sat.right hn2) | exact (Sat.right (Sat.right hn2)) | exact (Sat.right (Sat.right (Sat.right hn2))) | exact (Sat.right (Sat.right (Sat.right (Sat.right hn2)))) | exact (Sat.right (Sat.right (Sat.right (Sat.right (Sat.right hn2))))) | exact (Sat.right (Sat.right (Sat.right (Sat.right (Sat.right (Sat.right hn2))))))) ?_
                                                          clear hK K
                                                          have HS2 : Aside (Sat E W2 (HP.row 5 1 (.slice E1 128 e1) 128 (b8s x.c.read) * (HP.pt CB (.cells #[.slice A0 128 c0, .slice A1 128 c1, .slice A2 128 c2, .slice A3 128 c3, .bool x.c.waits] 90) * (HP.pt G (.cells #[.string nm, .slice VA i vc] 93) * (HP.row 90 5 (.slice VA i vc) i (cs2.flatMap RC.vals) * (HP.pt BF (.cells #[.string nm, .slice (some ⟨gc, oc, none⟩) vn FC] 93) * (HP.rdk O room fuse v2 fs2 L2 * (HP.rdk y room fuse (.slice (some ⟨g, o, none⟩) n cF) fs L * q)))))))) := ⟨hn2.perm (by ac_rfl)⟩
                                                          clear hn2 HS1
                                                          refine wpR_many [6, 10, 14] rfl (by kernel_rfl) ?_
                                                          refine List.forall_mem_cons.2 ⟨?_, List.forall_mem_cons.2 ⟨?_, List.forall_mem_cons.2 ⟨?_, (fun _ h => by cases h)⟩⟩⟩
                                                          · refine br_keep #[true, true, true, true, true, true, true, true, true, false, false, true, true, false, false, true, true, false, true, true, false, false, false, false, false] rfl (by kernel_rfl) (fun K hK => ?_)
                                                            go_simp
                                                            obtain ⟨W3, hW3⟩ : ∃ zz, zz = World.alloc W2 (.cells #[] 5) := ⟨_, rfl⟩
                                                            obtain ⟨q2, hq2⟩ : ∃ zz, zz = Array.size (World.heap W2) := ⟨_, rfl⟩
                                                            have hn3 : Sat E W3 (HP.row 5 1 (.slice E1 128 e1) 128 (b8s x.c.read) * (HP.pt CB (.cells #[.slice A0 128 c0, .slice A1 128 c1, .slice A2 128 c2, .slice A3 128 c3, .bool x.c.waits] 90) * (HP.pt G (.cells #[.string nm, .slice VA i vc] 93) * (HP.row 90 5 (.slice VA i vc) i (cs2.flatMap RC.vals) * (HP.pt BF (.cells #[.string nm, .slice (some ⟨gc, oc, none⟩) vn FC] 93) * (HP.rdk O room fuse v2 fs2 L2 * (HP.rdk y room fuse (.slice (some ⟨g, o, none⟩) n cF) fs L * q))))))) := by rw [hW3]; exact (HS2.out.alloc _).right
                                                            rw [← hW3, ← hq2]
                                                            refine hK _ _ (by first | exact hn3 | exact (Sat.right hn3) | exact (Sat.right (Sat.right hn3)) | exact (Sat.right (Sat.right (Sat.right hn3))) | exact (Sat.right (Sat.right (Sat.right (Sat.right hn3)))) | exact (Sat.right (Sat.right (Sat.right (Sat.right (Sat.right hn3))))) | exact (Sat.right (Sat.right (Sat.right (Sat.right (Sat.right (Sat.right hn3))))))) ?_
                                                            clear hK K hW3 hq2
                                                            have HS3 : Aside (Sat E W3 (HP.row 5 1 (.slice E1 128 e1) 128 (b8s x.c.read) * (HP.pt CB (.cells #[.slice A0 128 c0, .slice A1 128 c1, .slice A2 128 c2, .slice A3 128 c3, .bool x.c.waits] 90) * (HP.pt G (.cells #[.string nm, .slice VA i vc] 93) * (HP.row 90 5 (.slice VA i vc) i (cs2.flatMap RC.vals) * (HP.pt BF (.cells #[.string nm, .slice (some ⟨gc, oc, none⟩) vn FC] 93) * (HP.rdk O room fuse v2 fs2 L2 * (HP.rdk y room fuse (.slice (some ⟨g, o, none⟩) n cF) fs L * q)))))))) := ⟨hn3.perm (by ac_rfl)⟩
                                                            clear hn3 HS2
                                                            revert HS3
                                                            revert W3
                                                            revert q2
                                                            revert e1
                                                            revert E1
                                                            revert q1
                                                            exact hsh9.out
                                                          · refine br_keep #[true, true, true, true, true, true, false, true, true, false, true, true, true, false, false, true, true, false, true, true, false, false, false, false, false] rfl (by kernel_rfl) (fun K hK => ?_)
                                                            go_simp
                                                            obtain ⟨W4, hW4⟩ : ∃ zz, zz = World.alloc W2 (.cells #[] 5) := ⟨_, rfl⟩
                                                            obtain ⟨q3, hq3⟩ : ∃ zz, zz = Array.size (World.heap W2) := ⟨_, rfl⟩
                                                            have hn4 : Sat E W4 (HP.row 5 1 (.slice E1 128 e1) 128 (b8s x.c.read) * (HP.pt CB (.cells #[.slice A0 128 c0, .slice A1 128 c1, .slice A2 128 c2, .slice A3 128 c3, .bool x.c.waits] 90) * (HP.pt G (.cells #[.string nm, .slice VA i vc] 93) * (HP.row 90 5 (.slice VA i vc) i (cs2.flatMap RC.vals) * (HP.pt BF (.cells #[.string nm, .slice (some ⟨gc, oc, none⟩) vn FC] 93) * (HP.rdk O room fuse v2 fs2 L2 * (HP.rdk y room fuse (.slice (some ⟨g, o, none⟩) n cF) fs L * q))))))) := by rw [hW4]; exact (HS2.out.alloc _).right
                                                            rw [← hW4, ← hq3]
                                                            refine hK _ _ (by first | exact hn4 | exact (Sat.right hn4) | exact (Sat.right (Sat.right hn4)) | exact (Sat.right (Sat.right (Sat.right hn4))) | exact (Sat.right (Sat.right (Sat.right (Sat.right hn4)))) | exact (Sat.right (Sat.right (Sat.right (Sat.right (Sat.right hn4))))) | exact (Sat.right (Sat.right (Sat.right (Sat.right (Sat.right (Sat.right hn4))))))) ?_
                                                            clear hK K hW4 hq3
                                                            have HS4 : Aside (Sat E W4 (HP.row 5 1 (.slice E1 128 e1) 128 (b8s x.c.read) * (HP.pt CB (.cells #[.slice A0 128 c0, .slice A1 128 c1, .slice A2 128 c2, .slice A3 128 c3, .bool x.c.waits] 90) * (HP.pt G (.cells #[.string nm, .slice VA i vc] 93) * (HP.row 90 5 (.slice VA i vc) i (cs2.flatMap RC.vals) * (HP.pt BF (.cells #[.string nm, .slice (some ⟨gc, oc, none⟩) vn FC] 93) * (HP.rdk O room fuse v2 fs2 L2 * (HP.rdk y room fuse (.slice (some ⟨g, o, none⟩) n cF) fs L * q)))))))) := ⟨hn4.perm (by ac_rfl)⟩
                                                            clear hn4 HS2
                                                            revert HS4
                                                            revert W4
                                                            revert q3
                                                            revert e1
                                                            revert E1
                                                            revert q1
                                                            exact hsh10.out
                                                          · refine br_keep #[true, true, true, true, true, true, false, true, true, false, false, true, true, false, true, true, true, false, true, true, false, false, false, false, false] rfl (by kernel_rfl) (fun K hK => ?_)
                                                            go_simp
                                                            obtain ⟨W5, hW5⟩ : ∃ zz, zz = World.alloc W2 (.cells #[] 5) := ⟨_, rfl⟩
                                                            obtain ⟨q4, hq4⟩ : ∃ zz, zz = Array.size (World.heap W2) := ⟨_, rfl⟩
                                                            have hn5 : Sat E W5 (HP.row 5 1 (.slice E1 128 e1) 128 (b8s x.c.read) * (HP.pt CB (.cells #[.slice A0 128 c0, .slice A1 128 c1, .slice A2 128 c2, .slice A3 128 c3, .bool x.c.waits] 90) * (HP.pt G (.cells #[.string nm, .slice VA i vc] 93) * (HP.row 90 5 (.slice VA i vc) i (cs2.flatMap RC.vals) * (HP.pt BF (.cells #[.string nm, .slice (some ⟨gc, oc, none⟩) vn FC] 93) * (HP.rdk O room fuse v2 fs2 L2 * (HP.rdk y room fuse (.slice (some ⟨g, o, none⟩) n cF) fs L * q))))))) := by rw [hW5]; exact (HS2.out.alloc _).right
                                                            rw [← hW5, ← hq4]
                                                            refine hK _ _ (by first | exact hn5 | exact (Sat.right hn5) | exact (Sat.right (Sat.right hn5)) | exact (Sat.right (Sat.right (Sat.right hn5))) | exact (Sat.right (Sat.right (Sat.right (Sat.right hn5)))) | exact (Sat.right (Sat.right (Sat.right (Sat.right (Sat.right hn5))))) | exact (Sat.right (Sat.right (Sat.right (Sat.right (Sat.right (Sat.right hn5))))))) ?_
                                                            clear hK K hW5 hq4
                                                            have HS5 : Aside (Sat E W5 (HP.row 5 1 (.slice E1 128 e1) 128 (b8s x.c.read) * (HP.pt CB (.cells #[.slice A0 128 c0, .slice A1 128 c1, .slice A2 128 c2, .slice A3 128 c3, .bool x.c.waits] 90) * (HP.pt G (.cells #[.string nm, .slice VA i vc] 93) * (HP.row 90 5 (.slice VA i vc) i (cs2.flatMap RC.vals) * (HP.pt BF (.cells #[.string nm, .slice (some ⟨gc, oc, none⟩) vn FC] 93) * (HP.rdk O room fuse v2 fs2 L2 * (HP.rdk y room fuse (.slice (some ⟨g, o, none⟩) n cF) fs L * q)))))))) := ⟨hn5.perm (by ac_rfl)⟩
                                                            clear hn5 HS2
                                                            revert HS5
                                                            revert W5
                                                            revert q4
                                                            revert e1
                                                            revert E1
                                                            revert q1
                                                            exact hsh11.out
                                                        · refine br_keep #[true, true, true, true, true, false, true, true, true, false, false, true, true, false, false, true, true, false, true, true, false, false, false, false, false] rfl (by kernel_rfl) (fun K hK => ?_)
                                                          go_simp
                                                          obtain ⟨W6, hW6⟩ : ∃ zz, zz = World.alloc W1 (.cells #[] 5) := ⟨_, rfl⟩
                                                          obtain ⟨q2, hq2⟩ : ∃ zz, zz = Array.size (World.heap W1) := ⟨_, rfl⟩
                                                          have hn6 : Sat E W6 (HP.pt CB (.cells #[.slice A0 128 c0, .slice A1 128 c1, .slice A2 128 c2, .slice A3 128 c3, .bool x.c.waits] 90) * (HP.pt G (.cells #[.string nm, .slice VA i vc] 93) * (HP.row 90 5 (.slice VA i vc) i (cs2.flatMap RC.vals) * (HP.pt BF (.cells #[.string nm, .slice (some ⟨gc, oc, none⟩) vn FC] 93) * (HP.rdk O room fuse v2 fs2 L2 * (HP.rdk y room fuse (.slice (some ⟨g, o, none⟩) n cF) fs L * q)))))) := by rw [hW6]; exact (HS1.out.alloc _).right
                                                          rw [← hW6, ← hq2]
                                                          refine hK _ _ (by first | exact hn6 | exact (Sat.right hn6) | exact (Sat.right (Sat.right hn6)) | exact (Sat.right (Sat.right (Sat.right hn6))) | exact (Sat.right (Sat.right (Sat.right (Sat.right hn6)))) | exact (Sat.right (Sat.right (Sat.right (Sat.right (Sat.right hn6))))) | exact (Sat.right (Sat.right (Sat.right (Sat.right (Sat.right (Sat.right hn6))))))) ?_
                                                          clear hK K hW6 hq2
                                                          have HS6 : Aside (Sat E W6 (HP.pt CB (.cells #[.slice A0 128 c0, .slice A1 128 c1, .slice A2 128 c2, .slice A3 128 c3, .bool x.c.waits] 90) * (HP.pt G (.cells #[.string nm, .slice VA i vc] 93) * (HP.row 90 5 (.slice VA i vc) i (cs2.flatMap RC.vals) * (HP.pt BF (.cells #[.string nm, .slice (some ⟨gc, oc, none⟩) vn FC] 93) * (HP.rdk O room fuse v2 fs2 L2 * (HP.rdk y room fuse (.slice (some ⟨g, o, none⟩) n cF) fs L * q))))))) := ⟨hn6.perm (by ac_rfl)⟩
                                                          clear hn6 HS1
                                                          revert HS6
                                                          revert W6
                                                          revert q2
                                                          revert q1
                                                          exact hsh16.out
                                                        · refine br_keep #[true, true, true, true, true, false, false, true, true, false, true, true, true, false, false, true, true, false, true, true, false, false, false, false, false] rfl (by kernel_rfl) (fun K hK => ?_)
                                                          go_simp
                                                          obtain ⟨W7, hW7⟩ : ∃ zz, zz = World.alloc W1 (.cells #[] 5) := ⟨_, rfl⟩
                                                          obtain ⟨q3, hq3⟩ : ∃ zz, zz = Array.size (World.heap W1) := ⟨_, rfl⟩
                                                          have hn7 : Sat E W7 (HP.pt CB (.cells #[.slice A0 128 c0, .slice A1 128 c1, .slice A2 128 c2, .slice A3 128 c3, .bool x.c.waits] 90) * (HP.pt G (.cells #[.string nm, .slice VA i vc] 93) * (HP.row 90 5 (.slice VA i vc) i (cs2.flatMap RC.vals) * (HP.pt BF (.cells #[.string nm, .slice (some ⟨gc, oc, none⟩) vn FC] 93) * (HP.rdk O room fuse v2 fs2 L2 * (HP.rdk y room fuse (.slice (some ⟨g, o, none⟩) n cF) fs L * q)))))) := by rw [hW7]; exact (HS1.out.alloc _).right
                                                          rw [← hW7, ← hq3]
                                                          refine hK _ _ (by first | exact hn7 | exact (Sat.right hn7) | exact (Sat.right (Sat.right hn7)) | exact (Sat.right (Sat.right (Sat.right hn7))) | exact (Sat.right (Sat.right (Sat.right (Sat.right hn7)))) | exact (Sat.right (Sat.right (Sat.right (Sat.right (Sat.right hn7))))) | exact (Sat.right (Sat.right (Sat.right (Sat.right (Sat.right (Sat.right hn7))))))) ?_
                                                          clear hK K hW7 hq3
                                                          have HS7 : Aside (Sat E W7 (HP.pt CB (.cells #[.slice A0 128 c0, .slice A1 128 c1, .slice A2 128 c2, .slice A3 128 c3, .bool x.c.waits] 90) * (HP.pt G (.cells #[.string nm, .slice VA i vc] 93) * (HP.row 90 5 (.slice VA i vc) i (cs2.flatMap RC.vals) * (HP.pt BF (.cells #[.string nm, .slice (some ⟨gc, oc, none⟩) vn FC] 93) * (HP.rdk O room fuse v2 fs2 L2 * (HP.rdk y room fuse (.slice (some ⟨g, o, none⟩) n cF) fs L * q))))))) := ⟨hn7.perm (by ac_rfl)⟩
                                                          clear hn7 HS1
                                                          revert HS7
                                                          revert W7
                                                          revert q3
                                                          revert q1
                                                          exact hsh17.out
                                                        · refine br_keep #[true, true, true, true, true, false, false, true, true, false, false, true, true, false, true, true, true, false, true, true, false, false, false, false, false] rfl (by kernel_rfl) (fun K hK => ?_)
                                                          go_simp
                                                          obtain ⟨W8, hW8⟩ : ∃ zz, zz = World.alloc W1 (.cells #[] 5) := ⟨_, rfl⟩
                                                          obtain ⟨q4, hq4⟩ : ∃ zz, zz = Array.size (World.heap W1) := ⟨_, rfl⟩
                                                          have hn8 : Sat E W8 (HP.pt CB (.cells #[.slice A0 128 c0, .slice A1 128 c1, .slice A2 128 c2, .slice A3 128 c3, .bool x.c.waits] 90) * (HP.pt G (.cells #[.string nm, .slice VA i vc] 93) * (HP.row 90 5 (.slice VA i vc) i (cs2.flatMap RC.vals) * (HP.pt BF (.cells #[.string nm, .slice (some ⟨gc, oc, none⟩) vn FC] 93) * (HP.rdk O room fuse v2 fs2 L2 * (HP.rdk y room fuse (.slice (some ⟨g, o, none⟩) n cF) fs L * q)))))) := by rw [hW8]; exact (HS1.out.alloc _).right
                                                          rw [← hW8, ← hq4]
                                                          refine hK _ _ (by first | exact hn8 | exact (Sat.right hn8) | exact (Sat.right (Sat.right hn8)) | exact (Sat.right (Sat.right (Sat.right hn8))) | exact (Sat.right (Sat.right (Sat.right (Sat.right hn8)))) | exact (Sat.right (Sat.right (Sat.right (Sat.right (Sat.right hn8))))) | exact (Sat.right (Sat.right (Sat.right (Sat.right (Sat.right (Sat.right hn8))))))) ?_
                                                          clear hK K hW8 hq4
                                                          have HS8 : Aside (Sat E W8 (HP.pt CB (.cells #[.slice A0 128 c0, .slice A1 128 c1, .slice A2 128 c2, .slice A3 128 c3, .bool x.c.waits] 90) * (HP.pt G (.cells #[.string nm, .slice VA i vc] 93) * (HP.row 90 5 (.slice VA i vc) i (cs2.flatMap RC.vals) * (HP.pt BF (.cells #[.string nm, .slice (some ⟨gc, oc, none⟩) vn FC] 93) * (HP.rdk O room fuse v2 fs2 L2 * (HP.rdk y room fuse (.slice (some ⟨g, o, none⟩) n cF) fs L * q))))))) := ⟨hn8.perm (by ac_rfl)⟩
                                                          clear hn8 HS1
                                                          revert HS8
                                                          revert W8
                                                          revert q4
                                                          revert q1
                                                          exact hsh18.out
                                                      · refine br_keep #[true, true, false, true, true, false, true, true, true, false, false, true, true, false, false, true, true, false, true, true, false, false, false, false, false] rfl (by kernel_rfl) (fun K hK => ?_)
                                                        go_simp
                                                        obtain ⟨W9, hW9⟩ : ∃ zz, zz = World.alloc W0 (.cells #[] 5) := ⟨_, rfl⟩
                                                        obtain ⟨q2, hq2⟩ : ∃ zz, zz = Array.size (World.heap W0) := ⟨_, rfl⟩
                                                        have hn9 : Sat E W9 (HP.pt CB (.cells #[.slice A0 128 c0, .slice A1 128 c1, .slice A2 128 c2, .slice A3 128 c3, .bool x.c.waits] 90) * (HP.pt G (.cells #[.string nm, .slice VA i vc] 93) * (HP.row 90 5 (.slice VA i vc) i (cs2.flatMap RC.vals) * (HP.pt BF (.cells #[.string nm, .slice (some ⟨gc, oc, none⟩) vn FC] 93) * (HP.rdk O room fuse v2 fs2 L2 * (HP.rdk y room fuse (.slice (some ⟨g, o, none⟩) n cF) fs L * q)))))) := by rw [hW9]; exact (HS0.out.alloc _).right
                                                        rw [← hW9, ← hq2]
                                                        refine hK _ _ (by first | exact hn9 | exact (Sat.right hn9) | exact (Sat.right (Sat.right hn9)) | exact (Sat.right (Sat.right (Sat.right hn9))) | exact (Sat.right (Sat.right (Sat.right (Sat.right hn9)))) | exact (Sat.right (Sat.right (Sat.right (Sat.right (Sat.right hn9))))) | exact (Sat.right (Sat.right (Sat.right (Sat.right (Sat.right (Sat.right hn9))))))) ?_
                                                        clear hK K hW9 hq2
                                                        have HS9 : Aside (Sat E W9 (HP.pt CB (.cells #[.slice A0 128 c0, .slice A1 128 c1, .slice A2 128 c2, .slice A3 128 c3, .bool x.c.waits] 90) * (HP.pt G (.cells #[.string nm, .slice VA i vc] 93) * (HP.row 90 5 (.slice VA i vc) i (cs2.flatMap RC.vals) * (HP.pt BF (.cells #[.string nm, .slice (some ⟨gc, oc, none⟩) vn FC] 93) * (HP.rdk O room fuse v2 fs2 L2 * (HP.rdk y room fuse (.slice (some ⟨g, o, none⟩) n cF) fs L * q))))))) := ⟨hn9.perm (by ac_rfl)⟩
                                                        clear hn9
                                                        refine wpR_many [2, 10, 14] rfl (by kernel_rfl) ?_
                                                        refine List.forall_mem_cons.2 ⟨?_, List.forall_mem_cons.2 ⟨?_, List.forall_mem_cons.2 ⟨?_, (fun _ h => by cases h)⟩⟩⟩
                                                        · refine br_keep #[true, true, true, true, true, false, true, true, true, false, false, true, true, false, false, true, true, false, true, true, false, false, false, false, false] rfl (by kernel_rfl) (fun K hK => ?_)
                                                          go_simp
                                                          obtain ⟨W10, hW10⟩ : ∃ zz, zz = World.alloc W9 (.cells #[] 5) := ⟨_, rfl⟩
                                                          obtain ⟨q1, hq1⟩ : ∃ zz, zz = Array.size (World.heap W9) := ⟨_, rfl⟩
                                                          have hn10 : Sat E W10 (HP.pt CB (.cells #[.slice A0 128 c0, .slice A1 128 c1, .slice A2 128 c2, .slice A3 128 c3, .bool x.c.waits] 90) * (HP.pt G (.cells #[.string nm, .slice VA i vc] 93) * (HP.row 90 5 (.slice VA i vc) i (cs2.flatMap RC.vals) * (HP.pt BF (.cells #[.string nm, .slice (some ⟨gc, oc, none⟩) vn FC] 93) * (HP.rdk O room fuse v2 fs2 L2 * (HP.rdk y room fuse (.slice (some ⟨g, o, none⟩) n cF) fs L * q)))))) := by rw [hW10]; exact (HS9.out.alloc _).right
                                                          rw [← hW10, ← hq1]
                                                          refine hK _ _ (by first | exact hn10 | exact (Sat.right hn10) | exact (Sat.right (Sat.right hn10)) | exact (Sat.right (Sat.right (Sat.right hn10))) | exact (Sat.right (Sat.right (Sat.right (Sat.right hn10)))) | exact (Sat.right (Sat.right (Sat.right (Sat.right (Sat.right hn10))))) | exact (Sat.right (Sat.right (Sat.right (Sat.right (Sat.right (Sat.right hn10))))))) ?_
                                                          clear hK K hW10 hq1
                                                          have HS10 : Aside (Sat E W10 (HP.pt CB (.cells #[.slice A0 128 c0, .slice A1 128 c1, .slice A2 128 c2, .slice A3 128 c3, .bool x.c.waits] 90) * (HP.pt G (.cells #[.string nm, .slice VA i vc] 93) * (HP.row 90 5 (.slice VA i vc) i (cs2.flatMap RC.vals) * (HP.pt BF (.cells #[.string nm, .slice (some ⟨gc, oc, none⟩) vn FC] 93) * (HP.rdk O room fuse v2 fs2 L2 * (HP.rdk y room fuse (.slice (some ⟨g, o, none⟩) n cF) fs L * q))))))) := ⟨hn10.perm (by ac_rfl)⟩
                                                          clear hn10 HS9
                                                          revert HS10
                                                          revert W10
                                                          revert q2
                                                          revert q1
                                                          exact hsh16.out
                                                        · refine br_keep #[true, true, false, true, true, false, true, true, true, false, true, true, true, false, false, true, true, false, true, true, false, false, false, false, false] rfl (by kernel_rfl) (fun K hK => ?_)
                                                          go_simp
                                                          obtain ⟨W11, hW11⟩ : ∃ zz, zz = World.alloc W9 (.cells #[] 5) := ⟨_, rfl⟩
                                                          obtain ⟨q3, hq3⟩ : ∃ zz, zz = Array.size (World.heap W9) := ⟨_, rfl⟩
                                                          have hn11 : Sat E W11 (HP.pt CB (.cells #[.slice A0 128 c0, .slice A1 128 c1, .slice A2 128 c2, .slice A3 128 c3, .bool x.c.waits] 90) * (HP.pt G (.cells #[.string nm, .slice VA i vc] 93) * (HP.row 90 5 (.slice VA i vc) i (cs2.flatMap RC.vals) * (HP.pt BF (.cells #[.string nm, .slice (some ⟨gc, oc, none⟩) vn FC] 93) * (HP.rdk O room fuse v2 fs2 L2 * (HP.rdk y room fuse (.slice (some ⟨g, o, none⟩) n cF) fs L * q)))))) := by rw [hW11]; exact (HS9.out.alloc _).right
                                                          rw [← hW11, ← hq3]
                                                          refine hK _ _ (by first | exact hn11 | exact (Sat.right hn11) | exact (Sat.right (Sat.right hn11)) | exact (Sat.right (Sat.right (Sat.right hn11))) | exact (Sat.right (Sat.right (Sat.right (Sat.right hn11)))) | exact (Sat.right (Sat.right (Sat.right (Sat.right (Sat.right hn11))))) | exact (Sat.right (Sat.right (Sat.right (Sat.right (Sat.right (Sat.right hn11))))))) ?_
                                                          clear hK K hW11 hq3
                                                          have HS11 : Aside (Sat E W11 (HP.pt CB (.cells #[.slice A0 128 c0, .slice A1 128 c1, .slice A2 128 c2, .slice A3 128 c3, .bool x.c.waits] 90) * (HP.pt G (.cells #[.string nm, .slice VA i vc] 93) * (HP.row 90 5 (.slice VA i vc) i (cs2.flatMap RC.vals) * (HP.pt BF (.cells #[.string nm, .slice (some ⟨gc, oc, none⟩) vn FC] 93) * (HP.rdk O room fuse v2 fs2 L2 * (HP.rdk y room fuse (.slice (some ⟨g, o, none⟩) n cF) fs L * q))))))) := ⟨hn11.perm (by ac_rfl)⟩
                                                          clear hn11 HS9
                                                          revert HS11
                                                          revert W11
                                                          revert q3
                                                          revert q2
                                                          exact hsh19.out
                                                        · refine br_keep #[true, true, false, true, true, false, true, true, true, false, false, true, true, false, true, true, true, false, true, true, false, false, false, false, false] rfl (by kernel_rfl) (fun K hK => ?_)
                                                          go_simp
                                                          obtain ⟨W12, hW12⟩ : ∃ zz, zz = World.alloc W9 (.cells #[] 5) := ⟨_, rfl⟩
                                                          obtain ⟨q4, hq4⟩ : ∃ zz, zz = Array.size (World.heap W9) := ⟨_, rfl⟩
                                                          have hn12 : Sat E W12 (HP.pt CB (.cells #[.slice A0 128 c0, .slice A1 128 c1, .slice A2 128 c2, .slice A3 128 c3, .bool x.c.waits] 90) * (HP.pt G (.cells #[.string nm, .slice VA i vc] 93) * (HP.row 90 5 (.slice VA i vc) i (cs2.flatMap RC.vals) * (HP.pt BF (.cells #[.string nm, .slice (some ⟨gc, oc, none⟩) vn FC] 93) * (HP.rdk O room fuse v2 fs2 L2 * (HP.rdk y room fuse (.slice (some ⟨g, o, none⟩) n cF) fs L * q)))))) := by rw [hW12]; exact (HS9.out.alloc _).right
                                                          rw [← hW12, ← hq4]
                                                          refine hK _ _ (by first | exact hn12 | exact (Sat.right hn12) | exact (Sat.right (Sat.right hn12)) | exact (Sat.right (Sat.right (Sat.right hn12))) | exact (Sat.right (Sat.right (Sat.right (Sat.right hn12)))) | exact (Sat.right (Sat.right (Sat.right (Sat.right (Sat.right hn12))))) | exact (Sat.right (Sat.right (Sat.right (Sat.right (Sat.right (Sat.right hn12))))))) ?_
                                                          clear hK K hW12 hq4
                                                          have HS12 : Aside (Sat E W12 (HP.pt CB (.cells #[.slice A0 128 c0, .slice A1 128 c1, .slice A2 128 c2, .slice A3 128 c3, .bool x.c.waits] 90) * (HP.pt G (.cells #[.string nm, .slice VA i vc] 93) * (HP.row 90 5 (.slice VA i vc) i (cs2.flatMap RC.vals) * (HP.pt BF (.cells #[.string nm, .slice (some ⟨gc, oc, none⟩) vn FC] 93) * (HP.rdk O room fuse v2 fs2 L2 * (HP.rdk y room fuse (.slice (some ⟨g, o, none⟩) n cF) fs L * q))))))) := ⟨hn12.perm (by ac_rfl)⟩
                                                          clear hn12 HS9
                                                          revert HS12
                                                          revert W12
                                                          revert q4
                                                          revert q2
                                                          exact hsh20.out
                                                      · refine br_keep #[true, true, false, true, true, false, false, true, true, false, true, true, true, false, false, true, true, false, true, true, false, false, false, false, false] rfl (by kernel_rfl) (fun K hK => ?_)
                                                        go_simp
                                                        obtain ⟨W13, hW13⟩ : ∃ zz, zz = World.alloc W0 (.cells #[] 5) := ⟨_, rfl⟩
                                                        obtain ⟨q3, hq3⟩ : ∃ zz, zz = Array.size (World.heap W0) := ⟨_, rfl⟩
                                                        have hn13 : Sat E W13 (HP.pt CB (.cells #[.slice A0 128 c0, .slice A1 128 c1, .slice A2 128 c2, .slice A3 128 c3, .bool x.c.waits] 90) * (HP.pt G (.cells #[.string nm, .slice VA i vc] 93) * (HP.row 90 5 (.slice VA i vc) i (cs2.flatMap RC.vals) * (HP.pt BF (.cells #[.string nm, .slice (some ⟨gc, oc, none⟩) vn FC] 93) * (HP.rdk O room fuse v2 fs2 L2 * (HP.rdk y room fuse (.slice (some ⟨g, o, none⟩) n cF) fs L * q)))))) := by rw [hW13]; exact (HS0.out.alloc _).right
                                                        rw [← hW13, ← hq3]
                                                        refine hK _ _ (by first | exact hn13 | exact (Sat.right hn13) | exact (Sat.right (Sat.right hn13)) | exact (Sat.right (Sat.right (Sat.right hn13))) | exact (Sat.right (Sat.right (Sat.right (Sat.right hn13)))) | exact (Sat.right (Sat.right (Sat.right (Sat.right (Sat.right hn13))))) | exact (Sat.right (Sat.right (Sat.right (Sat.right (Sat.right (Sat.right hn13))))))) ?_
                                                        clear hK K hW13 hq3
                                                        have HS13 : Aside (Sat E W13 (HP.pt CB (.cells #[.slice A0 128 c0, .slice A1 128 c1, .slice A2 128 c2, .slice A3 128 c3, .bool x.c.waits] 90) * (HP.pt G (.cells #[.string nm, .slice VA i vc] 93) * (HP.row 90 5 (.slice VA i vc) i (cs2.flatMap RC.vals) * (HP.pt BF (.cells #[.string nm, .slice (some ⟨gc, oc, none⟩) vn FC] 93) * (HP.rdk O room fuse v2 fs2 L2 * (HP.rdk y room fuse (.slice (some ⟨g, o, none⟩) n cF) fs L * q))))))) := ⟨hn13.perm (by ac_rfl)⟩
                                                        clear hn13
                                                        refine wpR_many [2, 6, 14] rfl (by kernel_rfl) ?_
                                                        refine List.forall_mem_cons.2 ⟨?_, List.forall_mem_cons.2 ⟨?_, List.forall_mem_cons.2 ⟨?_, (fun _ h => by cases h)⟩⟩⟩
                                                        · refine br_keep #[true, true, true, true, true, false, false, true, true, false, true, true, true, false, false, true, true, false, true, true, false, false, false, false, false] rfl (by kernel_rfl) (fun K hK => ?_)
                                                          go_simp
                                                          obtain ⟨W14, hW14⟩ : ∃ zz, zz = World.alloc W13 (.cells #[] 5) := ⟨_, rfl⟩
                                                          obtain ⟨q1, hq1⟩ : ∃ zz, zz = Array.size (World.heap W13) := ⟨_, rfl⟩
                                                          have hn14 : Sat E W14 (HP.pt CB (.cells #[.slice A0 128 c0, .slice A1 128 c1, .slice A2 128 c2, .slice A3 128 c3, .bool x.c.waits] 90) * (HP.pt G (.cells #[.string nm, .slice VA i vc] 93) * (HP.row 90 5 (.slice VA i vc) i (cs2.flatMap RC.vals) * (HP.pt BF (.cells #[.string nm, .slice (some ⟨gc, oc, none⟩) vn FC] 93) * (HP.rdk O room fuse v2 fs2 L2 * (HP.rdk y room fuse (.slice (some ⟨g, o, none⟩) n cF) fs L * q)))))) := by rw [hW14]; exact (HS13.out.alloc _).right
                                                          rw [← hW14, ← hq1]
                                                          refine hK _ _ (by first | exact hn14 | exact (Sat.right hn14) | exact (Sat.right (Sat.right hn14)) | exact (Sat.right (Sat.right (Sat.right hn14))) | exact (Sat.right (Sat.right (Sat.right (Sat.right hn14)))) | exact (Sat.right (Sat.right (Sat.right (Sat.right (Sat.right hn14))))) | exact (Sat.right (Sat.right (Sat.right (Sat.right (Sat.right (Sat.right hn14))))))) ?_
                                                          clear hK K hW14 hq1
                                                          have HS14 : Aside (Sat E W14 (HP.pt CB (.cells #[.slice A0 128 c0, .slice A1 128 c1, .slice A2 128 c2, .slice A3 128 c3, .bool x.c.waits] 90) * (HP.pt G (.cells #[.string nm, .slice VA i vc] 93) * (HP.row 90 5 (.slice VA i vc) i (cs2.flatMap RC.vals) * (HP.pt BF (.cells #[.string nm, .slice (some ⟨gc, oc, none⟩) vn FC] 93) * (HP.rdk O room fuse v2 fs2 L2 * (HP.rdk y room fuse (.slice (some ⟨g, o, none⟩) n cF) fs L * q))))))) := ⟨hn14.perm (by ac_rfl)⟩
                                                          clear hn14 HS13
                                                          revert HS14
                                                          revert W14
                                                          revert q3
                                                          revert q1
                                                          exact hsh17.out
                                                        · refine br_keep #[true, true, false, true, true, false, true, true, true, false, true, true, true, false, false, true, true, false, true, true, false, false, false, false, false] rfl (by kernel_rfl) (fun K hK => ?_)
                                                          go_simp
                                                          obtain ⟨W15, hW15⟩ : ∃ zz, zz = World.alloc W13 (.cells #[] 5) := ⟨_, rfl⟩
                                                          obtain ⟨q2, hq2⟩ : ∃ zz, zz = Array.size (World.heap W13) := ⟨_, rfl⟩
                                                          have hn15 : Sat E W15 (HP.pt CB (.cells #[.slice A0 128 c0, .slice A1 128 c1, .slice A2 128 c2, .slice A3 128 c3, .bool x.c.waits] 90) * (HP.pt G (.cells #[.string nm, .slice VA i vc] 93) * (HP.row 90 5 (.slice VA i vc) i (cs2.flatMap RC.vals) * (HP.pt BF (.cells #[.string nm, .slice (some ⟨gc, oc, none⟩) vn FC] 93) * (HP.rdk O room fuse v2 fs2 L2 * (HP.rdk y room fuse (.slice (some ⟨g, o, none⟩) n cF) fs L * q)))))) := by rw [hW15]; exact (HS13.out.alloc _).right
                                                          rw [← hW15, ← hq2]
                                                          refine hK _ _ (by first | exact hn15 | exact (Sat.right hn15) | exact (Sat.right (Sat.right hn15)) | exact (Sat.right (Sat.right (Sat.right hn15))) | exact (Sat.right (Sat.right (Sat.right (Sat.right hn15)))) | exact (Sat.right (Sat.right (Sat.right (Sat.right (Sat.right hn15))))) | exact (Sat.right (Sat.right (Sat.right (Sat.right (Sat.right (Sat.right hn15))))))) ?_
                                                          clear hK K hW15 hq2
                                                          have HS15 : Aside (Sat E W15 (HP.pt CB (.cells #[.slice A0 128 c0, .slice A1 128 c1, .slice A2 128 c2, .slice A3 128 c3, .bool x.c.waits] 90) * (HP.pt G (.cells #[.string nm, .slice VA i vc] 93) * (HP.row 90 5 (.slice VA i vc) i (cs2.flatMap RC.vals) * (HP.pt BF (.cells #[.string nm, .slice (some ⟨gc, oc, none⟩) vn FC] 93) * (HP.rdk O room fuse v2 fs2 L2 * (HP.rdk y room fuse (.slice (some ⟨g, o, none⟩) n cF) fs L * q))))))) := ⟨hn15.perm (by ac_rfl)⟩
                                                          clear hn15 HS13
                                                          revert HS15
                                                          revert W15
                                                          revert q3
                                                          revert q2
                                                          exact hsh19.out
                                                        · refine br_keep #[true, true, false, true, true, false, false, true, true, false, true, true, true, false, true, true, true, false, true, true, false, false, false, false, false] rfl (by kernel_rfl) (fun K hK => ?_)
                                                          go_simp
                                                          obtain ⟨W16, hW16⟩ : ∃ zz, zz = World.alloc W13 (.cells #[] 5) := ⟨_, rfl⟩
                                                          obtain ⟨q4, hq4⟩ : ∃ zz, zz = Array.size (World.heap W13) := ⟨_, rfl⟩
                                                          have hn16 : Sat E W16 (HP.pt CB (.cells #[.slice A0 128 c0, .slice A1 128 c1, .slice A2 128 c2, .slice A3 128 c3, .bool x.c.waits] 90) * (HP.pt G (.cells #[.string nm, .slice VA i vc] 93) * (HP.row 90 5 (.slice VA i vc) i (cs2.flatMap RC.vals) * (HP.pt BF (.cells #[.string nm, .slice (some ⟨gc, oc, none⟩) vn FC] 93) * (HP.rdk O room fuse v2 fs2 L2 * (HP.rdk y room fuse (.slice (some ⟨g, o, none⟩) n cF) fs L * q)))))) := by rw [hW16]; exact (HS13.out.alloc _).right
                                                          rw [← hW16, ← hq4]
                                                          refine hK _ _ (by first | exact hn16 | exact (Sat.right hn16) | exact (Sat.right (Sat.right hn16)) | exact (Sat.right (Sat.right (Sat.right hn16))) | exact (Sat.right (Sat.right (Sat.right (Sat.right hn16)))) | exact (Sat.right (Sat.right (Sat.right (Sat.right (Sat.right hn16))))) | exact (Sat.right (Sat.right (Sat.right (Sat.right (Sat.right (Sat.right hn16))))))) ?_
                                                          clear hK K hW16 hq4
                                                          have HS16 : Aside (Sat E W16 (HP.pt CB (.cells #[.slice A0 128 c0, .slice A1 128 c1, .slice A2 128 c2, .slice A3 128 c3, .bool x.c.waits] 90) * (HP.pt G (.cells #[.string nm, .slice VA i vc] 93) * (HP.row 90 5 (.slice VA i vc) i (cs2.flatMap RC.vals) * (HP.pt BF (.cells #[.string nm, .slice (some ⟨gc, oc, none⟩) vn FC] 93) * (HP.rdk O room fuse v2 fs2 L2 * (HP.rdk y room fuse (.slice (some ⟨g, o, none⟩) n cF) fs L * q))))))) := ⟨hn16.perm (by ac_rfl)⟩
                                                          clear hn16 HS13
                                                          revert HS16
                                                          revert W16
                                                          revert q4
                                                          revert q3
                                                          exact hsh21.out
                                                      · refine br_keep #[true, true, false, true, true, false, false, true, true, false, false, true, true, false, true, true, true, false, true, true, false, false, false, false, false] rfl (by kernel_rfl) (fun K hK => ?_)
                                                        go_simp
                                                        obtain ⟨W17, hW17⟩ : ∃ zz, zz = World.alloc W0 (.cells #[] 5) := ⟨_, rfl⟩
                                                        obtain ⟨q4, hq4⟩ : ∃ zz, zz = Array.size (World.heap W0) := ⟨_, rfl⟩
                                                        have hn17 : Sat E W17 (HP.pt CB (.cells #[.slice A0 128 c0, .slice A1 128 c1, .slice A2 128 c2, .slice A3 128 c3, .bool x.c.waits] 90) * (HP.pt G (.cells #[.string nm, .slice VA i vc] 93) * (HP.row 90 5 (.slice VA i vc) i (cs2.flatMap RC.vals) * (HP.pt BF (.cells #[.string nm, .slice (some ⟨gc, oc, none⟩) vn FC] 93) * (HP.rdk O room fuse v2 fs2 L2 * (HP.rdk y room fuse (.slice (some ⟨g, o, none⟩) n cF) fs L * q)))))) := by rw [hW17]; exact (HS0.out.alloc _).right
                                                        rw [← hW17, ← hq4]
                                                        refine hK _ _ (by first | exact hn17 | exact (Sat.right hn17) | exact (Sat.right (Sat.right hn17)) | exact (Sat.right (Sat.right (Sat.right hn17))) | exact (Sat.right (Sat.right (Sat.right (Sat.right hn17)))) | exact (Sat.right (Sat.right (Sat.right (Sat.right (Sat.right hn17))))) | exact (Sat.right (Sat.right (Sat.right (Sat.right (Sat.right (Sat.right hn17))))))) ?_
                                                        clear hK K hW17 hq4
                                                        have HS17 : Aside (Sat E W17 (HP.pt CB (.cells #[.slice A0 128 c0, .slice A1 128 c1, .slice A2 128 c2, .slice A3 128 c3, .bool x.c.waits] 90) * (HP.pt G (.cells #[.string nm, .slice VA i vc] 93) * (HP.row 90 5 (.slice VA i vc) i (cs2.flatMap RC.vals) * (HP.pt BF (.cells #[.string nm, .slice (some ⟨gc, oc, none⟩) vn FC] 93) * (HP.rdk O room fuse v2 fs2 L2 * (HP.rdk y room fuse (.slice (some ⟨g, o, none⟩) n cF) fs L * q))))))) := ⟨hn17.perm (by ac_rfl)⟩
                                                        clear hn17
                                                        refine wpR_many [2, 6, 10] rfl (by kernel_rfl) ?_
                                                        refine List.forall_mem_cons.2 ⟨?_, List.forall_mem_cons.2 ⟨?_, List.forall_mem_cons.2 ⟨?_, (fun _ h => by cases h)⟩⟩⟩
                                                        · refine br_keep #[true, true, true, true, true, false, false, true, true, false, false, true, true, false, true, true, true, false, true, true, false, false, false, false, false] rfl (by kernel_rfl) (fun K hK => ?_)
                                                          go_simp
                                                          obtain ⟨W18, hW18⟩ : ∃ zz, zz = World.alloc W17 (.cells #[] 5) := ⟨_, rfl⟩
                                                          obtain ⟨q1, hq1⟩ : ∃ zz, zz = Array.size (World.heap W17) := ⟨_, rfl⟩
                                                          have hn18 : Sat E W18 (HP.pt CB (.cells #[.slice A0 128 c0, .slice A1 128 c1, .slice A2 128 c2, .slice A3 128 c3, .bool x.c.waits] 90) * (HP.pt G (.cells #[.string nm, .slice VA i vc] 93) * (HP.row 90 5 (.slice VA i vc) i (cs2.flatMap RC.vals) * (HP.pt BF (.cells #[.string nm, .slice (some ⟨gc, oc, none⟩) vn FC] 93) * (HP.rdk O room fuse v2 fs2 L2 * (HP.rdk y room fuse (.slice (some ⟨g, o, none⟩) n cF) fs L * q)))))) := by rw [hW18]; exact (HS17.out.alloc _).right
                                                          rw [← hW18, ← hq1]
                                                          refine hK _ _ (by first | exact hn18 | exact (Sat.right hn18) | exact (Sat.right (Sat.right hn18)) | exact (Sat.right (Sat.right (Sat.right hn18))) | exact (Sat.right (Sat.right (Sat.right (Sat.right hn18)))) | exact (Sat.right (Sat.right (Sat.right (Sat.right (Sat.right hn18))))) | exact (Sat.right (Sat.right (Sat.right (Sat.right (Sat.right (Sat.right hn18))))))) ?_
                                                          clear hK K hW18 hq1
                                                          have HS18 : Aside (Sat E W18 (HP.pt CB (.cells #[.slice A0 128 c0, .slice A1 128 c1, .slice A2 128 c2, .slice A3 128 c3, .bool x.c.waits] 90) * (HP.pt G (.cells #[.string nm, .slice VA i vc] 93) * (HP.row 90 5 (.slice VA i vc) i (cs2.flatMap RC.vals) * (HP.pt BF (.cells #[.string nm, .slice (some ⟨gc, oc, none⟩) vn FC] 93) * (HP.rdk O room fuse v2 fs2 L2 * (HP.rdk y room fuse (.slice (some ⟨g, o, none⟩) n cF) fs L * q))))))) := ⟨hn18.perm (by ac_rfl)⟩
                                                          clear hn18 HS17
                                                          revert HS18
                                                          revert W18
                                                          revert q4
                                                          revert q1
                                                          exact hsh18.out
                                                        · refine br_keep #[true, true, false, true, true, false, true, true, true, false, false, true, true, false, true, true, true, false, true, true, false, false, false, false, false] rfl (by kernel_rfl) (fun K hK => ?_)
                                                          go_simp
                                                          obtain ⟨W19, hW19⟩ : ∃ zz, zz = World.alloc W17 (.cells #[] 5) := ⟨_, rfl⟩
                                                          obtain ⟨q2, hq2⟩ : ∃ zz, zz = Array.size (World.heap W17) := ⟨_, rfl⟩
                                                          have hn19 : Sat E W19 (HP.pt CB (.cells #[.slice A0 128 c0, .slice A1 128 c1, .slice A2 128 c2, .slice A3 128 c3, .bool x.c.waits] 90) * (HP.pt G (.cells #[.string nm, .slice VA i vc] 93) * (HP.row 90 5 (.slice VA i vc) i (cs2.flatMap RC.vals) * (HP.pt BF (.cells #[.string nm, .slice (some ⟨gc, oc, none⟩) vn FC] 93) * (HP.rdk O room fuse v2 fs2 L2 * (HP.rdk y room fuse (.slice (some ⟨g, o, none⟩) n cF) fs L * q)))))) := by rw [hW19]; exact (HS17.out.alloc _).right
                                                          rw [← hW19, ← hq2]
                                                          refine hK _ _ (by first | exact hn19 | exact (Sat.right hn19) | exact (Sat.right (Sat.right hn19)) | exact (Sat.right (Sat.right (Sat.right hn19))) | exact (Sat.right (Sat.right (Sat.right (Sat.right hn19)))) | exact (Sat.right (Sat.right (Sat.right (Sat.right (Sat.right hn19))))) | exact (Sat.right (Sat.right (Sat.right (Sat.right (Sat.right (Sat.right hn19))))))) ?_
                                                          clear hK K hW19 hq2
                                                          have HS19 : Aside (Sat E W19 (HP.pt CB (.cells #[.slice A0 128 c0, .slice A1 128 c1, .slice A2 128 c2, .slice A3 128 c3, .bool x.c.waits] 90) * (HP.pt G (.cells #[.string nm, .slice VA i vc] 93) * (HP.row 90 5 (.slice VA i vc) i (cs2.flatMap RC.vals) * (HP.pt BF (.cells #[.string nm, .slice (some ⟨gc, oc, none⟩) vn FC] 93) * (HP.rdk O room fuse v2 fs2 L2 * (HP.rdk y room fuse (.slice (some ⟨g, o, none⟩) n cF) fs L * q))))))) := ⟨hn19.perm (by ac_rfl)⟩
                                                          clear hn19 HS17
                                                          revert HS19
                                                          revert W19
                                                          revert q4
                                                          revert q2
                                                          exact hsh20.out
                                                        · refine br_keep #[true, true, false, true, true, false, false, true, true, false, true, true, true, false, true, true, true, false, true, true, false, false, false, false, false] rfl (by kernel_rfl) (fun K hK => ?_)
                                                          go_simp
                                                          obtain ⟨W20, hW20⟩ : ∃ zz, zz = World.alloc W17 (.cells #[] 5) := ⟨_, rfl⟩
                                                          obtain ⟨q3, hq3⟩ : ∃ zz, zz = Array.size (World.heap W17) := ⟨_, rfl⟩
                                                          have hn20 : Sat E W20 (HP.pt CB (.cells #[.slice A0 128 c0, .slice A1 128 c1, .slice A2 128 c2, .slice A3 128 c3, .bool x.c.waits] 90) * (HP.pt G (.cells #[.string nm, .slice VA i vc] 93) * (HP.row 90 5 (.slice VA i vc) i (cs2.flatMap RC.vals) * (HP.pt BF (.cells #[.string nm, .slice (some ⟨gc, oc, none⟩) vn FC] 93) * (HP.rdk O room fuse v2 fs2 L2 * (HP.rdk y room fuse (.slice (some ⟨g, o, none⟩) n cF) fs L * q)))))) := by rw [hW20]; exact (HS17.out.alloc _).right
                                                          rw [← hW20, ← hq3]
                                                          refine hK _ _ (by first | exact hn20 | exact (Sat.right hn20) | exact (Sat.right (Sat.right hn20)) | exact (Sat.right (Sat.right (Sat.right hn20))) | exact (Sat.right (Sat.right (Sat.right (Sat.right hn20)))) | exact (Sat.right (Sat.right (Sat.right (Sat.right (Sat.right hn20))))) | exact (Sat.right (Sat.right (Sat.right (Sat.right (Sat.right (Sat.right hn20))))))) ?_
                                                          clear hK K hW20 hq3
                                                          have HS20 : Aside (Sat E W20 (HP.pt CB (.cells #[.slice A0 128 c0, .slice A1 128 c1, .slice A2 128 c2, .slice A3 128 c3, .bool x.c.waits] 90) * (HP.pt G (.cells #[.string nm, .slice VA i vc] 93) * (HP.row 90 5 (.slice VA i vc) i (cs2.flatMap RC.vals) * (HP.pt BF (.cells #[.string nm, .slice (some ⟨gc, oc, none⟩) vn FC] 93) * (HP.rdk O room fuse v2 fs2 L2 * (HP.rdk y room fuse (.slice (some ⟨g, o, none⟩) n cF) fs L * q))))))) := ⟨hn20.perm (by ac_rfl)⟩
                                                          clear hn20 HS17
                                                          revert HS20
                                                          revert W20
                                                          revert q4
                                                          revert q3
                                                          exact hsh21.out
                                                    · intro q3 q4 W21 HS21
                                                      refine wpR_many [2, 6] rfl (by kernel_rfl) ?_
                                                      refine List.forall_mem_cons.2 ⟨?_, List.forall_mem_cons.2 ⟨?_, (fun _ h => by cases h)⟩⟩
                                                      · refine br_keep #[true, true, true, true, true, false, false, true, true, false, true, true, true, false, true, true, true, false, true, true, false, false, false, false, false] rfl (by kernel_rfl) (fun K hK => ?_)
                                                        go_simp
                                                        obtain ⟨W22, hW22⟩ : ∃ zz, zz = World.alloc W21 (.cells #[] 5) := ⟨_, rfl⟩
                                                        obtain ⟨q1, hq1⟩ : ∃ zz, zz = Array.size (World.heap W21) := ⟨_, rfl⟩
                                                        have hn22 : Sat E W22 (HP.pt CB (.cells #[.slice A0 128 c0, .slice A1 128 c1, .slice A2 128 c2, .slice A3 128 c3, .bool x.c.waits] 90) * (HP.pt G (.cells #[.string nm, .slice VA i vc] 93) * (HP.row 90 5 (.slice VA i vc) i (cs2.flatMap RC.vals) * (HP.pt BF (.cells #[.string nm, .slice (some ⟨gc, oc, none⟩) vn FC] 93) * (HP.rdk O room fuse v2 fs2 L2 * (HP.rdk y room fuse (.slice (some ⟨g, o, none⟩) n cF) fs L * q)))))) := by rw [hW22]; exact (HS21.out.alloc _).right
                                                        rw [← hW22, ← hq1]
                                                        refine hK _ _ (by first | exact hn22 | exact (Sat.right hn22) | exact (Sat.right (Sat.right hn22)) | exact (Sat.right (Sat.right (Sat.right hn22))) | exact (Sat.right (Sat.right (Sat.right (Sat.right hn22)))) | exact (Sat.right (Sat.right (Sat.right (Sat.right (Sat.right hn22))))) | exact (Sat.right (Sat.right (Sat.right (Sat.right (Sat.right (Sat.right hn22))))))) ?_
                                                        clear hK K hW22 hq1
                                                        have HS22 : Aside (Sat E W22 (HP.pt CB (.cells #[.slice A0 128 c0, .slice A1 128 c1, .slice A2 128 c2, .slice A3 128 c3, .bool x.c.waits] 90) * (HP.pt G (.cells #[.string nm, .slice VA i vc] 93) * (HP.row 90 5 (.slice VA i vc) i (cs2.flatMap RC.vals) * (HP.pt BF (.cells #[.string nm, .slice (some ⟨gc, oc, none⟩) vn FC] 93) * (HP.rdk O room fuse v2 fs2 L2 * (HP.rdk y room fuse (.slice (some ⟨g, o, none⟩) n cF) fs L * q))))))) := ⟨hn22.perm (by ac_rfl)⟩
                                                        clear hn22 HS21
                                                        revert HS22
                                                        revert W22
                                                        revert q4
                                                        revert q3
                                                        revert q1
                                                        exact hsh14.out
                                                      · refine br_keep #[true, true, false, true, true, false, true, true, true, false, true, true, true, false, true, true, true, false, true, true, false, false, false, false, false] rfl (by kernel_rfl) (fun K hK => ?_)
                                                        go_simp
                                                        obtain ⟨W23, hW23⟩ : ∃ zz, zz = World.alloc W21 (.cells #[] 5) := ⟨_, rfl⟩
                                                        obtain ⟨q2, hq2⟩ : ∃ zz, zz = Array.size (World.heap W21) := ⟨_, rfl⟩
                                                        have hn23 : Sat E W23 (HP.pt CB (.cells #[.slice A0 128 c0, .slice A1 128 c1, .slice A2 128 c2, .slice A3 128 c3, .bool x.c.waits] 90) * (HP.pt G (.cells #[.string nm, .slice VA i vc] 93) * (HP.row 90 5 (.slice VA i vc) i (cs2.flatMap RC.vals) * (HP.pt BF (.cells #[.string nm, .slice (some ⟨gc, oc, none⟩) vn FC] 93) * (HP.rdk O room fuse v2 fs2 L2 * (HP.rdk y room fuse (.slice (some ⟨g, o, none⟩) n cF) fs L * q)))))) := by rw [hW23]; exact (HS21.out.alloc _).right
                                                        rw [← hW23, ← hq2]
                                                        refine hK _ _ (by first | exact hn23 | exact (Sat.right hn23) | exact (Sat.right (Sat.right hn23)) | exact (Sat.right (Sat.right (Sat.right hn23))) | exact (Sat.right (Sat.right (Sat.right (Sat.right hn23)))) | exact (Sat.right (Sat.right (Sat.right (Sat.right (Sat.right hn23))))) | exact (Sat.right (Sat.right (Sat.right (Sat.right (Sat.right (Sat.right hn23))))))) ?_
                                                        clear hK K hW23 hq2
                                                        have HS23 : Aside (Sat E W23 (HP.pt CB (.cells #[.slice A0 128 c0, .slice A1 128 c1, .slice A2 128 c2, .slice A3 128 c3, .bool x.c.waits] 90) * (HP.pt G (.cells #[.string nm, .slice VA i vc] 93) * (HP.row 90 5 (.slice VA i vc) i (cs2.flatMap RC.vals) * (HP.pt BF (.cells #[.string nm, .slice (some ⟨gc, oc, none⟩) vn FC] 93) * (HP.rdk O room fuse v2 fs2 L2 * (HP.rdk y room fuse (.slice (some ⟨g, o, none⟩) n cF) fs L * q))))))) := ⟨hn23.perm (by ac_rfl)⟩
                                                        clear hn23 HS21
                                                        revert HS23
                                                        revert W23
                                                        revert q4
                                                        revert q3
                                                        revert q2
                                                        exact hsh15.out
                                                  · intro q2 q4 W24 HS24
                                                    refine wpR_many [2, 10] rfl (by kernel_rfl) ?_
                                                    refine List.forall_mem_cons.2 ⟨?_, List.forall_mem_cons.2 ⟨?_, (fun _ h => by cases h)⟩⟩
                                                    · refine br_keep #[true, true, true, true, true, false, true, true, true, false, false, true, true, false, true, true, true, false, true, true, false, false, false, false, false] rfl (by kernel_rfl) (fun K hK => ?_)
                                                      go_simp
                                                      obtain ⟨W25, hW25⟩ : ∃ zz, zz = World.alloc W24 (.cells #[] 5) := ⟨_, rfl⟩
                                                      obtain ⟨q1, hq1⟩ : ∃ zz, zz = Array.size (World.heap W24) := ⟨_, rfl⟩
                                                      have hn25 : Sat E W25 (HP.pt CB (.cells #[.slice A0 128 c0, .slice A1 128 c1, .slice A2 128 c2, .slice A3 128 c3, .bool x.c.waits] 90) * (HP.pt G (.cells #[.string nm, .slice VA i vc] 93) * (HP.row 90 5 (.slice VA i vc) i (cs2.flatMap RC.vals) * (HP.pt BF (.cells #[.string nm, .slice (some ⟨gc, oc, none⟩) vn FC] 93) * (HP.rdk O room fuse v2 fs2 L2 * (HP.rdk y room fuse (.slice (some ⟨g, o, none⟩) n cF) fs L * q)))))) := by rw [hW25]; exact (HS24.out.alloc _).right
                                                      rw [← hW25, ← hq1]
                                                      refine hK _ _ (by first | exact hn25 | exact (Sat.right hn25) | exact (Sat.right (Sat.right hn25)) | exact (Sat.right (Sat.right (Sat.right hn25))) | exact (Sat.right (Sat.right (Sat.right (Sat.right hn25)))) | exact (Sat.right (Sat.right (Sat.right (Sat.right (Sat.right hn25))))) | exact (Sat.right (Sat.right (Sat.right (Sat.right (Sat.right (Sat.right hn25))))))) ?_
                                                      clear hK K hW25 hq1
                                                      have HS25 : Aside (Sat E W25 (HP.pt CB (.cells #[.slice A0 128 c0, .slice A1 128 c1, .slice A2 128 c2, .slice A3 128 c3, .bool x.c.waits] 90) * (HP.pt G (.cells #[.string nm, .slice VA i vc] 93) * (HP.row 90 5 (.slice VA i vc) i (cs2.flatMap RC.vals) * (HP.pt BF (.cells #[.string nm, .slice (some ⟨gc, oc, none⟩) vn FC] 93) * (HP.rdk O room fuse v2 fs2 L2 * (HP.rdk y room fuse (.slice (some ⟨g, o, none⟩) n cF) fs L * q))))))) := ⟨hn25.perm (by ac_rfl)⟩
                                                      clear hn25 HS24
                                                      revert HS25
                                                      revert W25
                                                      revert q4
                                                      revert q2
                                                      revert q1
                                                      exact hsh13.out
                                                    · refine br_keep #[true, true, false, true, true, false, true, true, true, false, true, true, true, false, true, true, true, false, true, true, false, false, false, false, false] rfl (by kernel_rfl) (fun K hK => ?_)
                                                      go_simp
                                                      obtain ⟨W26, hW26⟩ : ∃ zz, zz = World.alloc W24 (.cells #[] 5) := ⟨_, rfl⟩
                                                      obtain ⟨q3, hq3⟩ : ∃ zz, zz = Array.size (World.heap W24) := ⟨_, rfl⟩
                                                      have hn26 : Sat E W26 (HP.pt CB (.cells #[.slice A0 128 c0, .slice A1 128 c1, .slice A2 128 c2, .slice A3 128 c3, .bool x.c.waits] 90) * (HP.pt G (.cells #[.string nm, .slice VA i vc] 93) * (HP.row 90 5 (.slice VA i vc) i (cs2.flatMap RC.vals) * (HP.pt BF (.cells #[.string nm, .slice (some ⟨gc, oc, none⟩) vn FC] 93) * (HP.rdk O room fuse v2 fs2 L2 * (HP.rdk y room fuse (.slice (some ⟨g, o, none⟩) n cF) fs L * q)))))) := by rw [hW26]; exact (HS24.out.alloc _).right
                                                      rw [← hW26, ← hq3]
                                                      refine hK _ _ (by first | exact hn26 | exact (Sat.right hn26) | exact (Sat.right (Sat.right hn26)) | exact (Sat.right (Sat.right (Sat.right hn26))) | exact (Sat.right (Sat.right (Sat.right (Sat.right hn26)))) | exact (Sat.right (Sat.right (Sat.right (Sat.right (Sat.right hn26))))) | exact (Sat.right (Sat.right (Sat.right (Sat.right (Sat.right (Sat.right hn26))))))) ?_
                                                      clear hK K hW26 hq3
                                                      have HS26 : Aside (Sat E W26 (HP.pt CB (.cells #[.slice A0 128 c0, .slice A1 128 c1, .slice A2 128 c2, .slice A3 128 c3, .bool x.c.waits] 90) * (HP.pt G (.cells #[.string nm, .slice VA i vc] 93) * (HP.row 90 5 (.slice VA i vc) i (cs2.flatMap RC.vals) * (HP.pt BF (.cells #[.string nm, .slice (some ⟨gc, oc, none⟩) vn FC] 93) * (HP.rdk O room fuse v2 fs2 L2 * (HP.rdk y room fuse (.slice (some ⟨g, o, none⟩) n cF) fs L * q))))))) := ⟨hn26.perm (by ac_rfl)⟩
                                                      clear hn26 HS24
                                                      revert HS26
                                                      revert W26
                                                      revert q4
                                                      revert q3
                                                      revert q2
                                                      exact hsh15.out
                                                · intro q2 q3 W27 HS27
                                                  refine wpR_many [2, 14] rfl (by kernel_rfl) ?_
                                                  refine List.forall_mem_cons.2 ⟨?_, List.forall_mem_cons.2 ⟨?_, (fun _ h => by cases h)⟩⟩
                                                  · refine br_keep #[true, true, true, true, true, false, true, true, true, false, true, true, true, false, false, true, true, false, true, true, false, false, false, false, false] rfl (by kernel_rfl) (fun K hK => ?_)
                                                    go_simp
                                                    obtain ⟨W28, hW28⟩ : ∃ zz, zz = World.alloc W27 (.cells #[] 5) := ⟨_, rfl⟩
                                                    obtain ⟨q1, hq1⟩ : ∃ zz, zz = Array.size (World.heap W27) := ⟨_, rfl⟩
                                                    have hn28 : Sat E W28 (HP.pt CB (.cells #[.slice A0 128 c0, .slice A1 128 c1, .slice A2 128 c2, .slice A3 128 c3, .bool x.c.waits] 90) * (HP.pt G (.cells #[.string nm, .slice VA i vc] 93) * (HP.row 90 5 (.slice VA i vc) i (cs2.flatMap RC.vals) * (HP.pt BF (.cells #[.string nm, .slice (some ⟨gc, oc, none⟩) vn FC] 93) * (HP.rdk O room fuse v2 fs2 L2 * (HP.rdk y room fuse (.slice (some ⟨g, o, none⟩) n cF) fs L * q)))))) := by rw [hW28]; exact (HS27.out.alloc _).right
                                                    rw [← hW28, ← hq1]
                                                    refine hK _ _ (by first | exact hn28 | exact (Sat.right hn28) | exact (Sat.right (Sat.right hn28)) | exact (Sat.right (Sat.right (Sat.right hn28))) | exact (Sat.right (Sat.right (Sat.right (Sat.right hn28)))) | exact (Sat.right (Sat.right (Sat.right (Sat.right (Sat.right hn28))))) | exact (Sat.right (Sat.right (Sat.right (Sat.right (Sat.right (Sat.right hn28))))))) ?_
                                                    clear hK K hW28 hq1
                                                    have HS28 : Aside (Sat E W28 (HP.pt CB (.cells #[.slice A0 128 c0, .slice A1 128 c1, .slice A2 128 c2, .slice A3 128 c3, .bool x.c.waits] 90) * (HP.pt G (.cells #[.string nm, .slice VA i vc] 93) * (HP.row 90 5 (.slice VA i vc) i (cs2.flatMap RC.vals) * (HP.pt BF (.cells #[.string nm, .slice (some ⟨gc, oc, none⟩) vn FC] 93) * (HP.rdk O room fuse v2 fs2 L2 * (HP.rdk y room fuse (.slice (some ⟨g, o, none⟩) n cF) fs L * q))))))) := ⟨hn28.perm (by ac_rfl)⟩
                                                    clear hn28 HS27
                                                    revert HS28
                                                    revert W28
                                                    revert q3
                                                    revert q2
                                                    revert q1
                                                    exact hsh12.out
                                                  · refine br_keep #[true, true, false, true, true, false, true, true, true, false, true, true, true, false, true, true, true, false, true, true, false, false, false, false, false] rfl (by kernel_rfl) (fun K hK => ?_)
                                                    go_simp
                                                    obtain ⟨W29, hW29⟩ : ∃ zz, zz = World.alloc W27 (.cells #[] 5) := ⟨_, rfl⟩
                                                    obtain ⟨q4, hq4⟩ : ∃ zz, zz = Array.size (World.heap W27) := ⟨_, rfl⟩
                                                    have hn29 : Sat E W29 (HP.pt CB (.cells #[.slice A0 128 c0, .slice A1 128 c1, .slice A2 128 c2, .slice A3 128 c3, .bool x.c.waits] 90) * (HP.pt G (.cells #[.string nm, .slice VA i vc] 93) * (HP.row 90 5 (.slice VA i vc) i (cs2.flatMap RC.vals) * (HP.pt BF (.cells #[.string nm, .slice (some ⟨gc, oc, none⟩) vn FC] 93) * (HP.rdk O room fuse v2 fs2 L2 * (HP.rdk y room fuse (.slice (some ⟨g, o, none⟩) n cF) fs L * q)))))) := by rw [hW29]; exact (HS27.out.alloc _).right
                                                    rw [← hW29, ← hq4]
                                                    refine hK _ _ (by first | exact hn29 | exact (Sat.right hn29) | exact (Sat.right (Sat.right hn29)) | exact (Sat.right (Sat.right (Sat.right hn29))) | exact (Sat.right (Sat.right (Sat.right (Sat.right hn29)))) | exact (Sat.right (Sat.right (Sat.right (Sat.right (Sat.right hn29))))) | exact (Sat.right (Sat.right (Sat.right (Sat.right (Sat.right (Sat.right hn29))))))) ?_
                                                    clear hK K hW29 hq4
                                                    have HS29 : Aside (Sat E W29 (HP.pt CB (.cells #[.slice A0 128 c0, .slice A1 128 c1, .slice A2 128 c2, .slice A3 128 c3, .bool x.c.waits] 90) * (HP.pt G (.cells #[.string nm, .slice VA i vc] 93) * (HP.row 90 5 (.slice VA i vc) i (cs2.flatMap RC.vals) * (HP.pt BF (.cells #[.string nm, .slice (some ⟨gc, oc, none⟩) vn FC] 93) * (HP.rdk O room fuse v2 fs2 L2 * (HP.rdk y room fuse (.slice (some ⟨g, o, none⟩) n cF) fs L * q))))))) := ⟨hn29.perm (by ac_rfl)⟩
                                                    clear hn29 HS27
                                                    revert HS29
                                                    revert W29
                                                    revert q4
                                                    revert q3
                                                    revert q2
                                                    exact hsh15.out
                                              · intro q1 q4 W30 HS30
                                                refine wpR_many [5, 6, 10] rfl (by kernel_rfl) ?_
                                                refine List.forall_mem_cons.2 ⟨?_, List.forall_mem_cons.2 ⟨?_, List.forall_mem_cons.2 ⟨?_, (fun _ h => by cases h)⟩⟩⟩
                                                · refine br_keep #[true, true, true, true, true, true, false, true, true, false, false, true, true, false, true, true, true, false, true, true, false, false, false, false, false] rfl (by kernel_rfl) (fun K hK => ?_)
                                                  refine Eq.mpr (if_pos (by rfl)) ?_
                                                  refine wp_append_row (v := .slice (some ⟨q1, 0, none⟩) 0 0) (n := 0) (cs := []) (A := A0) (m := 128) (c := c0) (news := b8s x.c.read) slB8 rfl rfl rfl (HS30.out.row_nil 5 1 _) (HCI.out _ (by first | exact HS30.out | exact (Sat.right HS30.out) | exact (Sat.right (Sat.right HS30.out)) | exact (Sat.right (Sat.right (Sat.right HS30.out))) | exact (Sat.right (Sat.right (Sat.right (Sat.right HS30.out)))) | exact (Sat.right (Sat.right (Sat.right (Sat.right (Sat.right HS30.out))))) | exact (Sat.right (Sat.right (Sat.right (Sat.right (Sat.right (Sat.right HS30.out)))))))).1 (by rw [b8s_length]; exact HFin.out.1) (b8s_one _) (by unfold maxLen; omega) (by omega) (fun vv W31 hn31 => ?_)
                                                  rw [List.nil_append, Nat.zero_add] at hn31
                                                  obtain ⟨E1, e1, rfl, -, -⟩ := hn31.row_slice
                                                  refine hK _ _ (by first | exact hn31 | exact (Sat.right hn31) | exact (Sat.right (Sat.right hn31)) | exact (Sat.right (Sat.right (Sat.right hn31))) | exact (Sat.right (Sat.right (Sat.right (Sat.right hn31)))) | exact (Sat.right (Sat.right (Sat.right (Sat.right (Sat.right hn31))))) | exact (Sat.right (Sat.right (Sat.right (Sat.right (Sat.right (Sat.right hn31))))))) ?_
                                                  clear hK K
                                                  have HS31 : Aside (Sat E W31 (HP.row 5 1 (.slice E1 128 e1) 128 (b8s x.c.read) * (HP.pt CB (.cells #[.slice A0 128 c0, .slice A1 128 c1, .slice A2 128 c2, .slice A3 128 c3, .bool x.c.waits] 90) * (HP.pt G (.cells #[.string nm, .slice VA i vc] 93) * (HP.row 90 5 (.slice VA i vc) i (cs2.flatMap RC.vals) * (HP.pt BF (.cells #[.string nm, .slice (some ⟨gc, oc, none⟩) vn FC] 93) * (HP.rdk O room fuse v2 fs2 L2 * (HP.rdk y room fuse (.slice (some ⟨g, o, none⟩) n cF) fs L * q)))))))) := ⟨hn31.perm (by ac_rfl)⟩
                                                  clear hn31 HS30
                                                  revert HS31
                                                  revert W31
                                                  revert q4
                                                  revert e1
                                                  revert E1
                                                  revert q1
                                                  exact hsh11.out
                                                · refine br_keep #[true, true, true, true, true, false, true, true, true, false, false, true, true, false, true, true, true, false, true, true, false, false, false, false, false] rfl (by kernel_rfl) (fun K hK => ?_)
                                                  go_simp
                                                  obtain ⟨W32, hW32⟩ : ∃ zz, zz = World.alloc W30 (.cells #[] 5) := ⟨_, rfl⟩
                                                  obtain ⟨q2, hq2⟩ : ∃ zz, zz = Array.size (World.heap W30) := ⟨_, rfl⟩
                                                  have hn32 : Sat E W32 (HP.pt CB (.cells #[.slice A0 128 c0, .slice A1 128 c1, .slice A2 128 c2, .slice A3 128 c3, .bool x.c.waits] 90) * (HP.pt G (.cells #[.string nm, .slice VA i vc] 93) * (HP.row 90 5 (.slice VA i vc) i (cs2.flatMap RC.vals) * (HP.pt BF (.cells #[.string nm, .slice (some ⟨gc, oc, none⟩) vn FC] 93) * (HP.rdk O room fuse v2 fs2 L2 * (HP.rdk y room fuse (.slice (some ⟨g, o, none⟩) n cF) fs L * q)))))) := by rw [hW32]; exact (HS30.out.alloc _).right
                                                  rw [← hW32, ← hq2]
                                                  refine hK _ _ (by first | exact hn32 | exact (Sat.right hn32) | exact (Sat.right (Sat.right hn32)) | exact (Sat.right (Sat.right (Sat.right hn32))) | exact (Sat.right (Sat.right (Sat.right (Sat.right hn32)))) | exact (Sat.right (Sat.right (Sat.right (Sat.right (Sat.right hn32))))) | exact (Sat.right (Sat.right (Sat.right (Sat.right (Sat.right (Sat.right hn32))))))) ?_
                                                  clear hK K hW32 hq2
                                                  have HS32 : Aside (Sat E W32 (HP.pt CB (.cells #[.slice A0 128 c0, .slice A1 128 c1, .slice A2 128 c2, .slice A3 128 c3, .bool x.c.waits] 90) * (HP.pt G (.cells #[.string nm, .slice VA i vc] 93) * (HP.row 90 5 (.slice VA i vc) i (cs2.flatMap RC.vals) * (HP.pt BF (.cells #[.string nm, .slice (some ⟨gc, oc, none⟩) vn FC] 93) * (HP.rdk O room fuse v2 fs2 L2 * (HP.rdk y room fuse (.slice (some ⟨g, o, none⟩) n cF) fs L * q))))))) := ⟨hn32.perm (by ac_rfl)⟩
                                                  clear hn32 HS30
                                                  revert HS32
                                                  revert W32
                                                  revert q4
                                                  revert q2
                                                  revert q1
                                                  exact hsh13.out
                                                · refine br_keep #[true, true, true, true, true, false, false, true, true, false, true, true, true, false, true, true, true, false, true, true, false, false, false, false, false] rfl (by kernel_rfl) (fun K hK => ?_)
                                                  go_simp
                                                  obtain ⟨W33, hW33⟩ : ∃ zz, zz = World.alloc W30 (.cells #[] 5) := ⟨_, rfl⟩
                                                  obtain ⟨q3, hq3⟩ : ∃ zz, zz = Array.size (World.heap W30) := ⟨_, rfl⟩
                                                  have hn33 : Sat E W33 (HP.pt CB (.cells #[.slice A0 128 c0, .slice A1 128 c1, .slice A2 128 c2, .slice A3 128 c3, .bool x.c.waits] 90) * (HP.pt G (.cells #[.string nm, .slice VA i vc] 93) * (HP.row 90 5 (.slice VA i vc) i (cs2.flatMap RC.vals) * (HP.pt BF (.cells #[.string nm, .slice (some ⟨gc, oc, none⟩) vn FC] 93) * (HP.rdk O room fuse v2 fs2 L2 * (HP.rdk y room fuse (.slice (some ⟨g, o, none⟩) n cF) fs L * q)))))) := by rw [hW33]; exact (HS30.out.alloc _).right
                                                  rw [← hW33, ← hq3]
                                                  refine hK _ _ (by first | exact hn33 | exact (Sat.right hn33) | exact (Sat.right (Sat.right hn33)) | exact (Sat.right (Sat.right (Sat.right hn33))) | exact (Sat.right (Sat.right (Sat.right (Sat.right hn33)))) | exact (Sat.right (Sat.right (Sat.right (Sat.right (Sat.right hn33))))) | exact (Sat.right (Sat.right (Sat.right (Sat.right (Sat.right (Sat.right hn33))))))) ?_
                                                  clear hK K hW33 hq3
                                                  have HS33 : Aside (Sat E W33 (HP.pt CB (.cells #[.slice A0 128 c0, .slice A1 128 c1, .slice A2 128 c2, .slice A3 128 c3, .bool x.c.waits] 90) * (HP.pt G (.cells #[.string nm, .slice VA i vc] 93) * (HP.row 90 5 (.slice VA i vc) i (cs2.flatMap RC.vals) * (HP.pt BF (.cells #[.string nm, .slice (some ⟨gc, oc, none⟩) vn FC] 93) * (HP.rdk O room fuse v2 fs2 L2 * (HP.rdk y room fuse (.slice (some ⟨g, o, none⟩) n cF) fs L * q))))))) := ⟨hn33.perm (by ac_rfl)⟩
                                                  clear hn33 HS30
                                                  revert HS33
                                                  revert W33
                                                  revert q4
                                                  revert q3
                                                  revert q1
                                                  exact hsh14.out
                                            · intro q1 q3 W34 HS34
                                              refine wpR_many [5, 6, 14] rfl (by kernel_rfl) ?_
                                              refine List.forall_mem_cons.2 ⟨?_, List.forall_mem_cons.2 ⟨?_, List.forall_mem_cons.2 ⟨?_, (fun _ h => by cases h)⟩⟩⟩
                                              · refine br_keep #[true, true, true, true, true, true, false, true, true, false, true, true, true, false, false, true, true, false, true, true, false, false, false, false, false] rfl (by kernel_rfl) (fun K hK => ?_)
                                                refine Eq.mpr (if_pos (by rfl)) ?_
                                                refine wp_append_row (v := .slice (some ⟨q1, 0, none⟩) 0 0) (n := 0) (cs := []) (A := A0) (m := 128) (c := c0) (news := b8s x.c.read) slB8 rfl rfl rfl (HS34.out.row_nil 5 1 _) (HCI.out _ (by first | exact HS34.out | exact (Sat.right HS34.out) | exact (Sat.right (Sat.right HS34.out)) | exact (Sat.right (Sat.right (Sat.right HS34.out))) | exact (Sat.right (Sat.right (Sat.right (Sat.right HS34.out)))) | exact (Sat.right (Sat.right (Sat.right (Sat.right (Sat.right HS34.out))))) | exact (Sat.right (Sat.right (Sat.right (Sat.right (Sat.right (Sat.right HS34.out)))))))).1 (by rw [b8s_length]; exact HFin.out.1) (b8s_one _) (by unfold maxLen; omega) (by omega) (fun vv W35 hn35 => ?_)
                                                rw [List.nil_append, Nat.zero_add] at hn35
                                                obtain ⟨E1, e1, rfl, -, -⟩ := hn35.row_slice
                                                refine hK _ _ (by first | exact hn35 | exact (Sat.right hn35) | exact (Sat.right (Sat.right hn35)) | exact (Sat.right (Sat.right (Sat.right hn35))) | exact (Sat.right (Sat.right (Sat.right (Sat.right hn35)))) | exact (Sat.right (Sat.right (Sat.right (Sat.right (Sat.right hn35))))) | exact (Sat.right (Sat.right (Sat.right (Sat.right (Sat.right (Sat.right hn35))))))) ?_
                                                clear hK K
                                                have HS35 : Aside (Sat E W35 (HP.row 5 1 (.slice E1 128 e1) 128 (b8s x.c.read) * (HP.pt CB (.cells #[.slice A0 128 c0, .slice A1 128 c1, .slice A2 128 c2, .slice A3 128 c3, .bool x.c.waits] 90) * (HP.pt G (.cells #[.string nm, .slice VA i vc] 93) * (HP.row 90 5 (.slice VA i vc) i (cs2.flatMap RC.vals) * (HP.pt BF (.cells #[.string nm, .slice (some ⟨gc, oc, none⟩) vn FC] 93) * (HP.rdk O room fuse v2 fs2 L2 * (HP.rdk y room fuse (.slice (some ⟨g, o, none⟩) n cF) fs L * q)))))))) := ⟨hn35.perm (by ac_rfl)⟩
                                                clear hn35 HS34
                                                revert HS35
                                                revert W35
                                                revert q3
                                                revert e1
                                                revert E1
                                                revert q1
                                                exact hsh10.out
                                              · refine br_keep #[true, true, true, true, true, false, true, true, true, false, true, true, true, false, false, true, true, false, true, true, false, false, false, false, false] rfl (by kernel_rfl) (fun K hK => ?_)
                                                go_simp
                                                obtain ⟨W36, hW36⟩ : ∃ zz, zz = World.alloc W34 (.cells #[] 5) := ⟨_, rfl⟩
                                                obtain ⟨q2, hq2⟩ : ∃ zz, zz = Array.size (World.heap W34) := ⟨_, rfl⟩
                                                have hn36 : Sat E W36 (HP.pt CB (.cells #[.slice A0 128 c0, .slice A1 128 c1, .slice A2 128 c2, .slice A3 128 c3, .bool x.c.waits] 90) * (HP.pt G (.cells #[.string nm, .slice VA i vc] 93) * (HP.row 90 5 (.slice VA i vc) i (cs2.flatMap RC.vals) * (HP.pt BF (.cells #[.string nm, .slice (some ⟨gc, oc, none⟩) vn FC] 93) * (HP.rdk O room fuse v2 fs2 L2 * (HP.rdk y room fuse (.slice (some ⟨g, o, none⟩) n cF) fs L * q)))))) := by rw [hW36]; exact (HS34.out.alloc _).right
                                                rw [← hW36, ← hq2]
                                                refine hK _ _ (by first | exact hn36 | exact (Sat.right hn36) | exact (Sat.right (Sat.right hn36)) | exact (Sat.right (Sat.right (Sat.right hn36))) | exact (Sat.right (Sat.right (Sat.right (Sat.right hn36)))) | exact (Sat.right (Sat.right (Sat.right (Sat.right (Sat.right hn36))))) | exact (Sat.right (Sat.right (Sat.right (Sat.right (Sat.right (Sat.right hn36))))))) ?_
                                                clear hK K hW36 hq2
                                                have HS36 : Aside (Sat E W36 (HP.pt CB (.cells #[.slice A0 128 c0, .slice A1 128 c1, .slice A2 128 c2, .slice A3 128 c3, .bool x.c.waits] 90) * (HP.pt G (.cells #[.string nm, .slice VA i vc] 93) * (HP.row 90 5 (.slice VA i vc) i (cs2.flatMap RC.vals) * (HP.pt BF (.cells #[.string nm, .slice (some ⟨gc, oc, none⟩) vn FC] 93) * (HP.rdk O room fuse v2 fs2 L2 * (HP.rdk y room fuse (.slice (some ⟨g, o, none⟩) n cF) fs L * q))))))) := ⟨hn36.perm (by ac_rfl)⟩
                                                clear hn36 HS34
                                                revert HS36
                                                revert W36
                                                revert q3
                                                revert q2
                                                revert q1
                                                exact hsh12.out
                                              · refine br_keep #[true, true, true, true, true, false, false, true, true, false, true, true, true, false, true, true, true, false, true, true, false, false, false, false, false] rfl (by kernel_rfl) (fun K hK => ?_)
                                                go_simp
                                                obtain ⟨W37, hW37⟩ : ∃ zz, zz = World.alloc W34 (.cells #[] 5) := ⟨_, rfl⟩
                                                obtain ⟨q4, hq4⟩ : ∃ zz, zz = Array.size (World.heap W34) := ⟨_, rfl⟩
                                                have hn37 : Sat E W37 (HP.pt CB (.cells #[.slice A0 128 c0, .slice A1 128 c1, .slice A2 128 c2, .slice A3 128 c3, .bool x.c.waits] 90) * (HP.pt G (.cells #[.string nm, .slice VA i vc] 93) * (HP.row 90 5 (.slice VA i vc) i (cs2.flatMap RC.vals) * (HP.pt BF (.cells #[.string nm, .slice (some ⟨gc, oc, none⟩) vn FC] 93) * (HP.rdk O room fuse v2 fs2 L2 * (HP.rdk y room fuse (.slice (some ⟨g, o, none⟩) n cF) fs L * q)))))) := by rw [hW37]; exact (HS34.out.alloc _).right
                                                rw [← hW37, ← hq4]
                                                refine hK _ _ (by first | exact hn37 | exact (Sat.right hn37) | exact (Sat.right (Sat.right hn37)) | exact (Sat.right (Sat.right (Sat.right hn37))) | exact (Sat.right (Sat.right (Sat.right (Sat.right hn37)))) | exact (Sat.right (Sat.right (Sat.right (Sat.right (Sat.right hn37))))) | exact (Sat.right (Sat.right (Sat.right (Sat.right (Sat.right (Sat.right hn37))))))) ?_
                                                clear hK K hW37 hq4
                                                have HS37 : Aside (Sat E W37 (HP.pt CB (.cells #[.slice A0 128 c0, .slice A1 128 c1, .slice A2 128 c2, .slice A3 128 c3, .bool x.c.waits] 90) * (HP.pt G (.cells #[.string nm, .slice VA i vc] 93) * (HP.row 90 5 (.slice VA i vc) i (cs2.flatMap RC.vals) * (HP.pt BF (.cells #[.string nm, .slice (some ⟨gc, oc, none⟩) vn FC] 93) * (HP.rdk O room fuse v2 fs2 L2 * (HP.rdk y room fuse (.slice (some ⟨g, o, none⟩) n cF) fs L * q))))))) := ⟨hn37.perm (by ac_rfl)⟩
                                                clear hn37 HS34
                                                revert HS37
                                                revert W37
                                                revert q4
                                                revert q3
                                                revert q1
                                                exact hsh14.out
                                          · intro q1 q2 W38 HS38
                                            refine wpR_many [5, 10, 14] rfl (by kernel_rfl) ?_
                                            refine List.forall_mem_cons.2 ⟨?_, List.forall_mem_cons.2 ⟨?_, List.forall_mem_cons.2 ⟨?_, (fun _ h => by cases h)⟩⟩⟩
                                            · refine br_keep #[true, true, true, true, true, true, true, true, true, false, false, true, true, false, false, true, true, false, true, true, false, false, false, false, false] rfl (by kernel_rfl) (fun K hK => ?_)
                                              refine Eq.mpr (if_pos (by rfl)) ?_
                                              refine wp_append_row (v := .slice (some ⟨q1, 0, none⟩) 0 0) (n := 0) (cs := []) (A := A0) (m := 128) (c := c0) (news := b8s x.c.read) slB8 rfl rfl rfl (HS38.out.row_nil 5 1 _) (HCI.out _ (by first | exact HS38.out | exact (Sat.right HS38.out) | exact (Sat.right (Sat.right HS38.out)) | exact (Sat.right (Sat.right (Sat.right HS38.out))) | exact (Sat.right (Sat.right (Sat.right (Sat.right HS38.out)))) | exact (Sat.right (Sat.right (Sat.right (Sat.right (Sat.right HS38.out))))) | exact (Sat.right (Sat.right (Sat.right (Sat.right (Sat.right (Sat.right HS38.out)))))))).1 (by rw [b8s_length]; exact HFin.out.1) (b8s_one _) (by unfold maxLen; omega) (by omega) (fun vv W39 hn39 => ?_)
                                              rw [List.nil_append, Nat.zero_add] at hn39
                                              obtain ⟨E1, e1, rfl, -, -⟩ := hn39.row_slice
                                              refine hK _ _ (by first | exact hn39 | exact (Sat.right hn39) | exact (Sat.right (Sat.right hn39)) | exact (Sat.right (Sat.right (Sat.right hn39))) | exact (Sat.right (Sat.right (Sat.right (Sat.right hn39)))) | exact (Sat.right (Sat.right (Sat.right (Sat.right (Sat.right hn39))))) | exact (Sat.right (Sat.right (Sat.right (Sat.right (Sat.right (Sat.right hn39))))))) ?_
                                              clear hK K
                                              have HS39 : Aside (Sat E W39 (HP.row 5 1 (.slice E1 128 e1) 128 (b8s x.c.read) * (HP.pt CB (.cells #[.slice A0 128 c0, .slice A1 128 c1, .slice A2 128 c2, .slice A3 128 c3, .bool x.c.waits] 90) * (HP.pt G (.cells #[.string nm, .slice VA i vc] 93) * (HP.row 90 5 (.slice VA i vc) i (cs2.flatMap RC.vals) * (HP.pt BF (.cells #[.string nm, .slice (some ⟨gc, oc, none⟩) vn FC] 93) * (HP.rdk O room fuse v2 fs2 L2 * (HP.rdk y room fuse (.slice (some ⟨g, o, none⟩) n cF) fs L * q)))))))) := ⟨hn39.perm (by ac_rfl)⟩
                                              clear hn39 HS38
                                              revert HS39
                                              revert W39
                                              revert q2
                                              revert e1
                                              revert E1
                                              revert q1
                                              exact hsh9.out
                                            · refine br_keep #[true, true, true, true, true, false, true, true, true, false, true, true, true, false, false, true, true, false, true, true, false, false, false, false, false] rfl (by kernel_rfl) (fun K hK => ?_)
                                              go_simp
                                              obtain ⟨W40, hW40⟩ : ∃ zz, zz = World.alloc W38 (.cells #[] 5) := ⟨_, rfl⟩
                                              obtain ⟨q3, hq3⟩ : ∃ zz, zz = Array.size (World.heap W38) := ⟨_, rfl⟩
                                              have hn40 : Sat E W40 (HP.pt CB (.cells #[.slice A0 128 c0, .slice A1 128 c1, .slice A2 128 c2, .slice A3 128 c3, .bool x.c.waits] 90) * (HP.pt G (.cells #[.string nm, .slice VA i vc] 93) * (HP.row 90 5 (.slice VA i vc) i (cs2.flatMap RC.vals) * (HP.pt BF (.cells #[.string nm, .slice (some ⟨gc, oc, none⟩) vn FC] 93) * (HP.rdk O room fuse v2 fs2 L2 * (HP.rdk y room fuse (.slice (some ⟨g, o, none⟩) n cF) fs L * q)))))) := by rw [hW40]; exact (HS38.out.alloc _).right
                                              rw [← hW40, ← hq3]
                                              refine hK _ _ (by first | exact hn40 | exact (Sat.right hn40) | exact (Sat.right (Sat.right hn40)) | exact (Sat.right (Sat.right (Sat.right hn40))) | exact (Sat.right (Sat.right (Sat.right (Sat.right hn40)))) | exact (Sat.right (Sat.right (Sat.right (Sat.right (Sat.right hn40))))) | exact (Sat.right (Sat.right (Sat.right (Sat.right (Sat.right (Sat.right hn40))))))) ?_
                                              clear hK K hW40 hq3
                                              have HS40 : Aside (Sat E W40 (HP.pt CB (.cells #[.slice A0 128 c0, .slice A1 128 c1, .slice A2 128 c2, .slice A3 128 c3, .bool x.c.waits] 90) * (HP.pt G (.cells #[.string nm, .slice VA i vc] 93) * (HP.row 90 5 (.slice VA i vc) i (cs2.flatMap RC.vals) * (HP.pt BF (.cells #[.string nm, .slice (some ⟨gc, oc, none⟩) vn FC] 93) * (HP.rdk O room fuse v2 fs2 L2 * (HP.rdk y room fuse (.slice (some ⟨g, o, none⟩) n cF) fs L * q))))))) := ⟨hn40.perm (by ac_rfl)⟩
                                              clear hn40 HS38
                                              revert HS40
                                              revert W40
                                              revert q3
                                              revert q2
                                              revert q1
                                              exact hsh12.out
                                            · refine br_keep #[true, true, true, true, true, false, true, true, true, false, false, true, true, false, true, true, true, false, true, true, false, false, false, false, false] rfl (by kernel_rfl) (fun K hK => ?_)
                                              go_simp
                                              obtain ⟨W41, hW41⟩ : ∃ zz, zz = World.alloc W38 (.cells #[] 5) := ⟨_, rfl⟩
                                              obtain ⟨q4, hq4⟩ : ∃ zz, zz = Array.size (World.heap W38) := ⟨_, rfl⟩
                                              have hn41 : Sat E W41 (HP.pt CB (.cells #[.slice A0 128 c0, .slice A1 128 c1, .slice A2 128 c2, .slice A3 128 c3, .bool x.c.waits] 90) * (HP.pt G (.cells #[.string nm, .slice VA i vc] 93) * (HP.row 90 5 (.slice VA i vc) i (cs2.flatMap RC.vals) * (HP.pt BF (.cells #[.string nm, .slice (some ⟨gc, oc, none⟩) vn FC] 93) * (HP.rdk O room fuse v2 fs2 L2 * (HP.rdk y room fuse (.slice (some ⟨g, o, none⟩) n cF) fs L * q)))))) := by rw [hW41]; exact (HS38.out.alloc _).right
                                              rw [← hW41, ← hq4]
                                              refine hK _ _ (by first | exact hn41 | exact (Sat.right hn41) | exact (Sat.right (Sat.right hn41)) | exact (Sat.right (Sat.right (Sat.right hn41))) | exact (Sat.right (Sat.right (Sat.right (Sat.right hn41)))) | exact (Sat.right (Sat.right (Sat.right (Sat.right (Sat.right hn41))))) | exact (Sat.right (Sat.right (Sat.right (Sat.right (Sat.right (Sat.right hn41))))))) ?_
                                              clear hK K hW41 hq4
                                              have HS41 : Aside (Sat E W41 (HP.pt CB (.cells #[.slice A0 128 c0, .slice A1 128 c1, .slice A2 128 c2, .slice A3 128 c3, .bool x.c.waits] 90) * (HP.pt G (.cells #[.string nm, .slice VA i vc] 93) * (HP.row 90 5 (.slice VA i vc) i (cs2.flatMap RC.vals) * (HP.pt BF (.cells #[.string nm, .slice (some ⟨gc, oc, none⟩) vn FC] 93) * (HP.rdk O room fuse v2 fs2 L2 * (HP.rdk y room fuse (.slice (some ⟨g, o, none⟩) n cF) fs L * q))))))) := ⟨hn41.perm (by ac_rfl)⟩
                                              clear hn41 HS38
                                              revert HS41
                                              revert W41
                                              revert q4
                                              revert q2
                                              revert q1
                                              exact hsh13.out
                                        · intro q2 q3 q4 W42 HS42
                                          refine wpR_keep #[true, true, true, true, true, false, true, true, true, false, true, true, true, false, true, true, true, false, true, true, false, false, false, false, false] (i := 2) rfl (by kernel_rfl) (fun K hK => ?_)
                                          go_simp
                                          obtain ⟨W43, hW43⟩ : ∃ zz, zz = World.alloc W42 (.cells #[] 5) := ⟨_, rfl⟩
                                          obtain ⟨q1, hq1⟩ : ∃ zz, zz = Array.size (World.heap W42) := ⟨_, rfl⟩
                                          have hn43 : Sat E W43 (HP.pt CB (.cells #[.slice A0 128 c0, .slice A1 128 c1, .slice A2 128 c2, .slice A3 128 c3, .bool x.c.waits] 90) * (HP.pt G (.cells #[.string nm, .slice VA i vc] 93) * (HP.row 90 5 (.slice VA i vc) i (cs2.flatMap RC.vals) * (HP.pt BF (.cells #[.string nm, .slice (some ⟨gc, oc, none⟩) vn FC] 93) * (HP.rdk O room fuse v2 fs2 L2 * (HP.rdk y room fuse (.slice (some ⟨g, o, none⟩) n cF) fs L * q)))))) := by rw [hW43]; exact (HS42.out.alloc _).right
                                          rw [← hW43, ← hq1]
                                          refine hK _ _ (by first | exact hn43 | exact (Sat.right hn43) | exact (Sat.right (Sat.right hn43)) | exact (Sat.right (Sat.right (Sat.right hn43))) | exact (Sat.right (Sat.right (Sat.right (Sat.right hn43)))) | exact (Sat.right (Sat.right (Sat.right (Sat.right (Sat.right hn43))))) | exact (Sat.right (Sat.right (Sat.right (Sat.right (Sat.right (Sat.right hn43))))))) ?_
                                          clear hK K hW43 hq1
                                          have HS43 : Aside (Sat E W43 (HP.pt CB (.cells #[.slice A0 128 c0, .slice A1 128 c1, .slice A2 128 c2, .slice A3 128 c3, .bool x.c.waits] 90) * (HP.pt G (.cells #[.string nm, .slice VA i vc] 93) * (HP.row 90 5 (.slice VA i vc) i (cs2.flatMap RC.vals) * (HP.pt BF (.cells #[.string nm, .slice (some ⟨gc, oc, none⟩) vn FC] 93) * (HP.rdk O room fuse v2 fs2 L2 * (HP.rdk y room fuse (.slice (some ⟨g, o, none⟩) n cF) fs L * q))))))) := ⟨hn43.perm (by ac_rfl)⟩
                                          clear hn43 HS42
                                          revert HS43
                                          revert W43
                                          revert q4
                                          revert q3
                                          revert q2
                                          revert q1
                                          exact hsh8.out
                                      · intro q1 q3 q4 W44 HS44
                                        refine wpR_many [5, 6] rfl (by kernel_rfl) ?_
                                        refine List.forall_mem_cons.2 ⟨?_, List.forall_mem_cons.2 ⟨?_, (fun _ h => by cases h)⟩⟩
                                        · refine br_keep #[true, true, true, true, true, true, false, true, true, false, true, true, true, false, true, true, true, false, true, true, false, false, false, false, false] rfl (by kernel_rfl) (fun K hK => ?_)
                                          refine Eq.mpr (if_pos (by rfl)) ?_
                                          refine wp_append_row (v := .slice (some ⟨q1, 0, none⟩) 0 0) (n := 0) (cs := []) (A := A0) (m := 128) (c := c0) (news := b8s x.c.read) slB8 rfl rfl rfl (HS44.out.row_nil 5 1 _) (HCI.out _ (by first | exact HS44.out | exact (Sat.right HS44.out) | exact (Sat.right (Sat.right HS44.out)) | exact (Sat.right (Sat.right (Sat.right HS44.out))) | exact (Sat.right (Sat.right (Sat.right (Sat.right HS44.out)))) | exact (Sat.right (Sat.right (Sat.right (Sat.right (Sat.right HS44.out))))) | exact (Sat.right (Sat.right (Sat.right (Sat.right (Sat.right (Sat.right HS44.out)))))))).1 (by rw [b8s_length]; exact HFin.out.1) (b8s_one _) (by unfold maxLen; omega) (by omega) (fun vv W45 hn45 => ?_)
                                          rw [List.nil_append, Nat.zero_add] at hn45
                                          obtain ⟨E1, e1, rfl, -, -⟩ := hn45.row_slice
                                          refine hK _ _ (by first | exact hn45 | exact (Sat.right hn45) | exact (Sat.right (Sat.right hn45)) | exact (Sat.right (Sat.right (Sat.right hn45))) | exact (Sat.right (Sat.right (Sat.right (Sat.right hn45)))) | exact (Sat.right (Sat.right (Sat.right (Sat.right (Sat.right hn45))))) | exact (Sat.right (Sat.right (Sat.right (Sat.right (Sat.right (Sat.right hn45))))))) ?_
                                          clear hK K
                                          have HS45 : Aside (Sat E W45 (HP.row 5 1 (.slice E1 128 e1) 128 (b8s x.c.read) * (HP.pt CB (.cells #[.slice A0 128 c0, .slice A1 128 c1, .slice A2 128 c2, .slice A3 128 c3, .bool x.c.waits] 90) * (HP.pt G (.cells #[.string nm, .slice VA i vc] 93) * (HP.row 90 5 (.slice VA i vc) i (cs2.flatMap RC.vals) * (HP.pt BF (.cells #[.string nm, .slice (some ⟨gc, oc, none⟩) vn FC] 93) * (HP.rdk O room fuse v2 fs2 L2 * (HP.rdk y room fuse (.slice (some ⟨g, o, none⟩) n cF) fs L * q)))))))) := ⟨hn45.perm (by ac_rfl)⟩
                                          clear hn45 HS44
                                          revert HS45
                                          revert W45
                                          revert q4
                                          revert q3
                                          revert e1
                                          revert E1
                                          revert q1
                                          exact hsh7.out
                                        · refine br_keep #[true, true, true, true, true, false, true, true, true, false, true, true, true, false, true, true, true, false, true, true, false, false, false, false, false] rfl (by kernel_rfl) (fun K hK => ?_)
                                          go_simp
                                          obtain ⟨W46, hW46⟩ : ∃ zz, zz = World.alloc W44 (.cells #[] 5) := ⟨_, rfl⟩
                                          obtain ⟨q2, hq2⟩ : ∃ zz, zz = Array.size (World.heap W44) := ⟨_, rfl⟩
                                          have hn46 : Sat E W46 (HP.pt CB (.cells #[.slice A0 128 c0, .slice A1 128 c1, .slice A2 128 c2, .slice A3 128 c3, .bool x.c.waits] 90) * (HP.pt G (.cells #[.string nm, .slice VA i vc] 93) * (HP.row 90 5 (.slice VA i vc) i (cs2.flatMap RC.vals) * (HP.pt BF (.cells #[.string nm, .slice (some ⟨gc, oc, none⟩) vn FC] 93) * (HP.rdk O room fuse v2 fs2 L2 * (HP.rdk y room fuse (.slice (some ⟨g, o, none⟩) n cF) fs L * q)))))) := by rw [hW46]; exact (HS44.out.alloc _).right
                                          rw [← hW46, ← hq2]
                                          refine hK _ _ (by first | exact hn46 | exact (Sat.right hn46) | exact (Sat.right (Sat.right hn46)) | exact (Sat.right (Sat.right (Sat.right hn46))) | exact (Sat.right (Sat.right (Sat.right (Sat.right hn46)))) | exact (Sat.right (Sat.right (Sat.right (Sat.right (Sat.right hn46))))) | exact (Sat.right (Sat.right (Sat.right (Sat.right (Sat.right (Sat.right hn46))))))) ?_
                                          clear hK K hW46 hq2
                                          have HS46 : Aside (Sat E W46 (HP.pt CB (.cells #[.slice A0 128 c0, .slice A1 128 c1, .slice A2 128 c2, .slice A3 128 c3, .bool x.c.waits] 90) * (HP.pt G (.cells #[.string nm, .slice VA i vc] 93) * (HP.row 90 5 (.slice VA i vc) i (cs2.flatMap RC.vals) * (HP.pt BF (.cells #[.string nm, .slice (some ⟨gc, oc, none⟩) vn FC] 93) * (HP.rdk O room fuse v2 fs2 L2 * (HP.rdk y room fuse (.slice (some ⟨g, o, none⟩) n cF) fs L * q))))))) := ⟨hn46.perm (by ac_rfl)⟩
                                          clear hn46 HS44
                                          revert HS46
                                          revert W46
                                          revert q4
                                          revert q3
                                          revert q2
                                          revert q1
                                          exact hsh8.out
                                    · intro q1 q2 q4 W47 HS47
                                      refine wpR_many [5, 10] rfl (by kernel_rfl) ?_
                                      refine List.forall_mem_cons.2 ⟨?_, List.forall_mem_cons.2 ⟨?_, (fun _ h => by cases h)⟩⟩
                                      · refine br_keep #[true, true, true, true, true, true, true, true, true, false, false, true, true, false, true, true, true, false, true, true, false, false, false, false, false] rfl (by kernel_rfl) (fun K hK => ?_)
                                        refine Eq.mpr (if_pos (by rfl)) ?_
                                        refine wp_append_row (v := .slice (some ⟨q1, 0, none⟩) 0 0) (n := 0) (cs := []) (A := A0) (m := 128) (c := c0) (news := b8s x.c.read) slB8 rfl rfl rfl (HS47.out.row_nil 5 1 _) (HCI.out _ (by first | exact HS47.out | exact (Sat.right HS47.out) | exact (Sat.right (Sat.right HS47.out)) | exact (Sat.right (Sat.right (Sat.right HS47.out))) | exact (Sat.right (Sat.right (Sat.right (Sat.right HS47.out)))) | exact (Sat.right (Sat.right (Sat.right (Sat.right (Sat.right HS47.out))))) | exact (Sat.right (Sat.right (Sat.right (Sat.right (Sat.right (Sat.right HS47.out)))))))).1 (by rw [b8s_length]; exact HFin.out.1) (b8s_one _) (by unfold maxLen; omega) (by omega) (fun vv W48 hn48 => ?_)
                                        rw [List.nil_append, Nat.zero_add] at hn48
                                        obtain ⟨E1, e1, rfl, -, -⟩ := hn48.row_slice
                                        refine hK _ _ (by first | exact hn48 | exact (Sat.right hn48) | exact (Sat.right (Sat.right hn48)) | exact (Sat.right (Sat.right (Sat.right hn48))) | exact (Sat.right (Sat.right (Sat.right (Sat.right hn48)))) | exact (Sat.right (Sat.right (Sat.right (Sat.right (Sat.right hn48))))) | exact (Sat.right (Sat.right (Sat.right (Sat.right (Sat.right (Sat.right hn48))))))) ?_
                                        clear hK K
                                        have HS48 : Aside (Sat E W48 (HP.row 5 1 (.slice E1 128 e1) 128 (b8s x.c.read) * (HP.pt CB (.cells #[.slice A0 128 c0, .slice A1 128 c1, .slice A2 128 c2, .slice A3 128 c3, .bool x.c.waits] 90) * (HP.pt G (.cells #[.string nm, .slice VA i vc] 93) * (HP.row 90 5 (.slice VA i vc) i (cs2.flatMap RC.vals) * (HP.pt BF (.cells #[.string nm, .slice (some ⟨gc, oc, none⟩) vn FC] 93) * (HP.rdk O room fuse v2 fs2 L2 * (HP.rdk y room fuse (.slice (some ⟨g, o, none⟩) n cF) fs L * q)))))))) := ⟨hn48.perm (by ac_rfl)⟩
                                        clear hn48 HS47
                                        revert HS48
                                        revert W48
                                        revert q4
                                        revert q2
                                        revert e1
                                        revert E1
                                        revert q1
                                        exact hsh6.out
                                      · refine br_keep #[true, true, true, true, true, false, true, true, true, false, true, true, true, false, true, true, true, false, true, true, false, false, false, false, false] rfl (by kernel_rfl) (fun K hK => ?_)
                                        go_simp
                                        obtain ⟨W49, hW49⟩ : ∃ zz, zz = World.alloc W47 (.cells #[] 5) := ⟨_, rfl⟩
                                        obtain ⟨q3, hq3⟩ : ∃ zz, zz = Array.size (World.heap W47) := ⟨_, rfl⟩
                                        have hn49 : Sat E W49 (HP.pt CB (.cells #[.slice A0 128 c0, .slice A1 128 c1, .slice A2 128 c2, .slice A3 128 c3, .bool x.c.waits] 90) * (HP.pt G (.cells #[.string nm, .slice VA i vc] 93) * (HP.row 90 5 (.slice VA i vc) i (cs2.flatMap RC.vals) * (HP.pt BF (.cells #[.string nm, .slice (some ⟨gc, oc, none⟩) vn FC] 93) * (HP.rdk O room fuse v2 fs2 L2 * (HP.rdk y room fuse (.slice (some ⟨g, o, none⟩) n cF) fs L * q)))))) := by rw [hW49]; exact (HS47.out.alloc _).right
                                        rw [← hW49, ← hq3]
                                        refine hK _ _ (by first | exact hn49 | exact (Sat.right hn49) | exact (Sat.right (Sat.right hn49)) | exact (Sat.right (Sat.right (Sat.right hn49))) | exact (Sat.right (Sat.right (Sat.right (Sat.right hn49)))) | exact (Sat.right (Sat.right (Sat.right (Sat.right (Sat.right hn49))))) | exact (Sat.right (Sat.right (Sat.right (Sat.right (Sat.right (Sat.right hn49))))))) ?_
                                        clear hK K hW49 hq3
                                        have HS49 : Aside (Sat E W49 (HP.pt CB (.cells #[.slice A0 128 c0, .slice A1 128 c1, .slice A2 128 c2, .slice A3 128 c3, .bool x.c.waits] 90) * (HP.pt G (.cells #[.string nm, .slice VA i vc] 93) * (HP.row 90 5 (.slice VA i vc) i (cs2.flatMap RC.vals) * (HP.pt BF (.cells #[.string nm, .slice (some ⟨gc, oc, none⟩) vn FC] 93) * (HP.rdk O room fuse v2 fs2 L2 * (HP.rdk y room fuse (.slice (some ⟨g, o, none⟩) n cF) fs L * q))))))) := ⟨hn49.perm (by ac_rfl)⟩
                                        clear hn49 HS47
                                        revert HS49
                                        revert W49
                                        revert q4
                                        revert q3
                                        revert q2
                                        revert q1
                                        exact hsh8.out
                                  · intro q1 q2 q3 W50 HS50
                                    refine wpR_many [5, 14] rfl (by kernel_rfl) ?_
                                    refine List.forall_mem_cons.2 ⟨?_, List.forall_mem_cons.2 ⟨?_, (fun _ h => by cases h)⟩⟩
                                    · refine br_keep #[true, true, true, true, true, true, true, true, true, false, true, true, true, false, false, true, true, false, true, true, false, false, false, false, false] rfl (by kernel_rfl) (fun K hK => ?_)
                                      refine Eq.mpr (if_pos (by rfl)) ?_
                                      refine wp_append_row (v := .slice (some ⟨q1, 0, none⟩) 0 0) (n := 0) (cs := []) (A := A0) (m := 128) (c := c0) (news := b8s x.c.read) slB8 rfl rfl rfl (HS50.out.row_nil 5 1 _) (HCI.out _ (by first | exact HS50.out | exact (Sat.right HS50.out) | exact (Sat.right (Sat.right HS50.out)) | exact (Sat.right (Sat.right (Sat.right HS50.out))) | exact (Sat.right (Sat.right (Sat.right (Sat.right HS50.out)))) | exact (Sat.right (Sat.right (Sat.right (Sat.right (Sat.right HS50.out))))) | exact (Sat.right (Sat.right (Sat.right (Sat.right (Sat.right (Sat.right HS50.out)))))))).1 (by rw [b8s_length]; exact HFin.out.1) (b8s_one _) (by unfold maxLen; omega) (by omega) (fun vv W51 hn51 => ?_)
                                      rw [List.nil_append, Nat.zero_add] at hn51
                                      obtain ⟨E1, e1, rfl, -, -⟩ := hn51.row_slice
                                      refine hK _ _ (by first | exact hn51 | exact (Sat.right hn51) | exact (Sat.right (Sat.right hn51)) | exact (Sat.right (Sat.right (Sat.right hn51))) | exact (Sat.right (Sat.right (Sat.right (Sat.right hn51)))) | exact (Sat.right (Sat.right (Sat.right (Sat.right (Sat.right hn51))))) | exact (Sat.right (Sat.right (Sat.right (Sat.right (Sat.right (Sat.right hn51))))))) ?_
                                      clear hK K
                                      have HS51 : Aside (Sat E W51 (HP.row 5 1 (.slice E1 128 e1) 128 (b8s x.c.read) * (HP.pt CB (.cells #[.slice A0 128 c0, .slice A1 128 c1, .slice A2 128 c2, .slice A3 128 c3, .bool x.c.waits] 90) * (HP.pt G (.cells #[.string nm, .slice VA i vc] 93) * (HP.row 90 5 (.slice VA i vc) i (cs2.flatMap RC.vals) * (HP.pt BF (.cells #[.string nm, .slice (some ⟨gc, oc, none⟩) vn FC] 93) * (HP.rdk O room fuse v2 fs2 L2 * (HP.rdk y room fuse (.slice (some ⟨g, o, none⟩) n cF) fs L * q)))))))) := ⟨hn51.perm (by ac_rfl)⟩
                                      clear hn51 HS50
                                      revert HS51
                                      revert W51
                                      revert q3
                                      revert q2
                                      revert e1
                                      revert E1
                                      revert q1
                                      exact hsh5.out
                                    · refine br_keep #[true, true, true, true, true, false, true, true, true, false, true, true, true, false, true, true, true, false, true, true, false, false, false, false, false] rfl (by kernel_rfl) (fun K hK => ?_)
                                      go_simp
                                      obtain ⟨W52, hW52⟩ : ∃ zz, zz = World.alloc W50 (.cells #[] 5) := ⟨_, rfl⟩
                                      obtain ⟨q4, hq4⟩ : ∃ zz, zz = Array.size (World.heap W50) := ⟨_, rfl⟩
                                      have hn52 : Sat E W52 (HP.pt CB (.cells #[.slice A0 128 c0, .slice A1 128 c1, .slice A2 128 c2, .slice A3 128 c3, .bool x.c.waits] 90) * (HP.pt G (.cells #[.string nm, .slice VA i vc] 93) * (HP.row 90 5 (.slice VA i vc) i (cs2.flatMap RC.vals) * (HP.pt BF (.cells #[.string nm, .slice (some ⟨gc, oc, none⟩) vn FC] 93) * (HP.rdk O room fuse v2 fs2 L2 * (HP.rdk y room fuse (.slice (some ⟨g, o, none⟩) n cF) fs L * q)))))) := by rw [hW52]; exact (HS50.out.alloc _).right
                                      rw [← hW52, ← hq4]
                                      refine hK _ _ (by first | exact hn52 | exact (Sat.right hn52) | exact (Sat.right (Sat.right hn52)) | exact (Sat.right (Sat.right (Sat.right hn52))) | exact (Sat.right (Sat.right (Sat.right (Sat.right hn52)))) | exact (Sat.right (Sat.right (Sat.right (Sat.right (Sat.right hn52))))) | exact (Sat.right (Sat.right (Sat.right (Sat.right (Sat.right (Sat.right hn52))))))) ?_
                                      clear hK K hW52 hq4
                                      have HS52 : Aside (Sat E W52 (HP.pt CB (.cells #[.slice A0 128 c0, .slice A1 128 c1, .slice A2 128 c2, .slice A3 128 c3, .bool x.c.waits] 90) * (HP.pt G (.cells #[.string nm, .slice VA i vc] 93) * (HP.row 90 5 (.slice VA i vc) i (cs2.flatMap RC.vals) * (HP.pt BF (.cells #[.string nm, .slice (some ⟨gc, oc, none⟩) vn FC] 93) * (HP.rdk O room fuse v2 fs2 L2 * (HP.rdk y room fuse (.slice (some ⟨g, o, none⟩) n cF) fs L * q))))))) := ⟨hn52.perm (by ac_rfl)⟩
                                      clear hn52 HS50
                                      revert HS52
                                      revert W52
                                      revert q4
                                      revert q3
                                      revert q2
                                      revert q1
                                      exact hsh8.out
                                · intro q1 E1 e1 q4 W53 HS53
                                  refine wpR_many [6, 10] rfl (by kernel_rfl) ?_
                                  refine List.forall_mem_cons.2 ⟨?_, List.forall_mem_cons.2 ⟨?_, (fun _ h => by cases h)⟩⟩
                                  · refine br_keep #[true, true, true, true, true, true, true, true, true, false, false, true, true, false, true, true, true, false, true, true, false, false, false, false, false] rfl (by kernel_rfl) (fun K hK => ?_)
                                    go_simp
                                    obtain ⟨W54, hW54⟩ : ∃ zz, zz = World.alloc W53 (.cells #[] 5) := ⟨_, rfl⟩
                                    obtain ⟨q2, hq2⟩ : ∃ zz, zz = Array.size (World.heap W53) := ⟨_, rfl⟩
                                    have hn54 : Sat E W54 (HP.row 5 1 (.slice E1 128 e1) 128 (b8s x.c.read) * (HP.pt CB (.cells #[.slice A0 128 c0, .slice A1 128 c1, .slice A2 128 c2, .slice A3 128 c3, .bool x.c.waits] 90) * (HP.pt G (.cells #[.string nm, .slice VA i vc] 93) * (HP.row 90 5 (.slice VA i vc) i (cs2.flatMap RC.vals) * (HP.pt BF (.cells #[.string nm, .slice (some ⟨gc, oc, none⟩) vn FC] 93) * (HP.rdk O room fuse v2 fs2 L2 * (HP.rdk y room fuse (.slice (some ⟨g, o, none⟩) n cF) fs L * q))))))) := by rw [hW54]; exact (HS53.out.alloc _).right
                                    rw [← hW54, ← hq2]
                                    refine hK _ _ (by first | exact hn54 | exact (Sat.right hn54) | exact (Sat.right (Sat.right hn54)) | exact (Sat.right (Sat.right (Sat.right hn54))) | exact (Sat.right (Sat.right (Sat.right (Sat.right hn54)))) | exact (Sat.right (Sat.right (Sat.right (Sat.right (Sat.right hn54))))) | exact (Sat.right (Sat.right (Sat.right (Sat.right (Sat.right (Sat.right hn54))))))) ?_
                                    clear hK K hW54 hq2
                                    have HS54 : Aside (Sat E W54 (HP.row 5 1 (.slice E1 128 e1) 128 (b8s x.c.read) * (HP.pt CB (.cells #[.slice A0 128 c0, .slice A1 128 c1, .slice A2 128 c2, .slice A3 128 c3, .bool x.c.waits] 90) * (HP.pt G (.cells #[.string nm, .slice VA i vc] 93) * (HP.row 90 5 (.slice VA i vc) i (cs2.flatMap RC.vals) * (HP.pt BF (.cells #[.string nm, .slice (some ⟨gc, oc, none⟩) vn FC] 93) * (HP.rdk O room fuse v2 fs2 L2 * (HP.rdk y room fuse (.slice (some ⟨g, o, none⟩) n cF) fs L * q)))))))) := ⟨hn54.perm (by ac_rfl)⟩
                                    clear hn54 HS53
                                    revert HS54
                                    revert W54
                                    revert q4
                                    revert q2
                                    revert e1
                                    revert E1
                                    revert q1
                                    exact hsh6.out
                                  · refine br_keep #[true, true, true, true, true, true, false, true, true, false, true, true, true, false, true, true, true, false, true, true, false, false, false, false, false] rfl (by kernel_rfl) (fun K hK => ?_)
                                    go_simp
                                    obtain ⟨W55, hW55⟩ : ∃ zz, zz = World.alloc W53 (.cells #[] 5) := ⟨_, rfl⟩
                                    obtain ⟨q3, hq3⟩ : ∃ zz, zz = Array.size (World.heap W53) := ⟨_, rfl⟩
                                    have hn55 : Sat E W55 (HP.row 5 1 (.slice E1 128 e1) 128 (b8s x.c.read) * (HP.pt CB (.cells #[.slice A0 128 c0, .slice A1 128 c1, .slice A2 128 c2, .slice A3 128 c3, .bool x.c.waits] 90) * (HP.pt G (.cells #[.string nm, .slice VA i vc] 93) * (HP.row 90 5 (.slice VA i vc) i (cs2.flatMap RC.vals) * (HP.pt BF (.cells #[.string nm, .slice (some ⟨gc, oc, none⟩) vn FC] 93) * (HP.rdk O room fuse v2 fs2 L2 * (HP.rdk y room fuse (.slice (some ⟨g, o, none⟩) n cF) fs L * q))))))) := by rw [hW55]; exact (HS53.out.alloc _).right
                                    rw [← hW55, ← hq3]
                                    refine hK _ _ (by first | exact hn55 | exact (Sat.right hn55) | exact (Sat.right (Sat.right hn55)) | exact (Sat.right (Sat.right (Sat.right hn55))) | exact (Sat.right (Sat.right (Sat.right (Sat.right hn55)))) | exact (Sat.right (Sat.right (Sat.right (Sat.right (Sat.right hn55))))) | exact (Sat.right (Sat.right (Sat.right (Sat.right (Sat.right (Sat.right hn55))))))) ?_
                                    clear hK K hW55 hq3
                                    have HS55 : Aside (Sat E W55 (HP.row 5 1 (.slice E1 128 e1) 128 (b8s x.c.read) * (HP.pt CB (.cells #[.slice A0 128 c0, .slice A1 128 c1, .slice A2 128 c2, .slice A3 128 c3, .bool x.c.waits] 90) * (HP.pt G (.cells #[.string nm, .slice VA i vc] 93) * (HP.row 90 5 (.slice VA i vc) i (cs2.flatMap RC.vals) * (HP.pt BF (.cells #[.string nm, .slice (some ⟨gc, oc, none⟩) vn FC] 93) * (HP.rdk O room fuse v2 fs2 L2 * (HP.rdk y room fuse (.slice (some ⟨g, o, none⟩) n cF) fs L * q)))))))) := ⟨hn55.perm (by ac_rfl)⟩
                                    clear hn55 HS53
                                    revert HS55
                                    revert W55
                                    revert q4
                                    revert q3
                                    revert e1
                                    revert E1
                                    revert q1
                                    exact hsh7.out
                              · intro q1 E1 e1 q3 W56 HS56
                                refine wpR_many [6, 14] rfl (by kernel_rfl) ?_
                                refine List.forall_mem_cons.2 ⟨?_, List.forall_mem_cons.2 ⟨?_, (fun _ h => by cases h)⟩⟩
                                · refine br_keep #[true, true, true, true, true, true, true, true, true, false, true, true, true, false, false, true, true, false, true, true, false, false, false, false, false] rfl (by kernel_rfl) (fun K hK => ?_)
                                  go_simp
                                  obtain ⟨W57, hW57⟩ : ∃ zz, zz = World.alloc W56 (.cells #[] 5) := ⟨_, rfl⟩
                                  obtain ⟨q2, hq2⟩ : ∃ zz, zz = Array.size (World.heap W56) := ⟨_, rfl⟩
                                  have hn57 : Sat E W57 (HP.row 5 1 (.slice E1 128 e1) 128 (b8s x.c.read) * (HP.pt CB (.cells #[.slice A0 128 c0, .slice A1 128 c1, .slice A2 128 c2, .slice A3 128 c3, .bool x.c.waits] 90) * (HP.pt G (.cells #[.string nm, .slice VA i vc] 93) * (HP.row 90 5 (.slice VA i vc) i (cs2.flatMap RC.vals) * (HP.pt BF (.cells #[.string nm, .slice (some ⟨gc, oc, none⟩) vn FC] 93) * (HP.rdk O room fuse v2 fs2 L2 * (HP.rdk y room fuse (.slice (some ⟨g, o, none⟩) n cF) fs L * q))))))) := by rw [hW57]; exact (HS56.out.alloc _).right
                                  rw [← hW57, ← hq2]
                                  refine hK _ _ (by first | exact hn57 | exact (Sat.right hn57) | exact (Sat.right (Sat.right hn57)) | exact (Sat.right (Sat.right (Sat.right hn57))) | exact (Sat.right (Sat.right (Sat.right (Sat.right hn57)))) | exact (Sat.right (Sat.right (Sat.right (Sat.right (Sat.right hn57))))) | exact (Sat.right (Sat.right (Sat.right (Sat.right (Sat.right (Sat.right hn57))))))) ?_
                                  clear hK K hW57 hq2
                                  have HS57 : Aside (Sat E W57 (HP.row 5 1 (.slice E1 128 e1) 128 (b8s x.c.read) * (HP.pt CB (.cells #[.slice A0 128 c0, .slice A1 128 c1, .slice A2 128 c2, .slice A3 128 c3, .bool x.c.waits] 90) * (HP.pt G (.cells #[.string nm, .slice VA i vc] 93) * (HP.row 90 5 (.slice VA i vc) i (cs2.flatMap RC.vals) * (HP.pt BF (.cells #[.string nm, .slice (some ⟨gc, oc, none⟩) vn FC] 93) * (HP.rdk O room fuse v2 fs2 L2 * (HP.rdk y room fuse (.slice (some ⟨g, o, none⟩) n cF) fs L * q)))))))) := ⟨hn57.perm (by ac_rfl)⟩
                                  clear hn57 HS56
                                  revert HS57
                                  revert W57
                                  revert q3
                                  revert q2
                                  revert e1
                                  revert E1
                                  revert q1
                                  exact hsh5.out
                                · refine br_keep #[true, true, true, true, true, true, false, true, true, false, true, true, true, false, true, true, true, false, true, true, false, false, false, false, false] rfl (by kernel_rfl) (fun K hK => ?_)
                                  go_simp
                                  obtain ⟨W58, hW58⟩ : ∃ zz, zz = World.alloc W56 (.cells #[] 5) := ⟨_, rfl⟩
                                  obtain ⟨q4, hq4⟩ : ∃ zz, zz = Array.size (World.heap W56) := ⟨_, rfl⟩
                                  have hn58 : Sat E W58 (HP.row 5 1 (.slice E1 128 e1) 128 (b8s x.c.read) * (HP.pt CB (.cells #[.slice A0 128 c0, .slice A1 128 c1, .slice A2 128 c2, .slice A3 128 c3, .bool x.c.waits] 90) * (HP.pt G (.cells #[.string nm, .slice VA i vc] 93) * (HP.row 90 5 (.slice VA i vc) i (cs2.flatMap RC.vals) * (HP.pt BF (.cells #[.string nm, .slice (some ⟨gc, oc, none⟩) vn FC] 93) * (HP.rdk O room fuse v2 fs2 L2 * (HP.rdk y room fuse (.slice (some ⟨g, o, none⟩) n cF) fs L * q))))))) := by rw [hW58]; exact (HS56.out.alloc _).right
                                  rw [← hW58, ← hq4]
                                  refine hK _ _ (by first | exact hn58 | exact (Sat.right hn58) | exact (Sat.right (Sat.right hn58)) | exact (Sat.right (Sat.right (Sat.right hn58))) | exact (Sat.right (Sat.right (Sat.right (Sat.right hn58)))) | exact (Sat.right (Sat.right (Sat.right (Sat.right (Sat.right hn58))))) | exact (Sat.right (Sat.right (Sat.right (Sat.right (Sat.right (Sat.right hn58))))))) ?_
                                  clear hK K hW58 hq4
                                  have HS58 : Aside (Sat E W58 (HP.row 5 1 (.slice E1 128 e1) 128 (b8s x.c.read) * (HP.pt CB (.cells #[.slice A0 128 c0, .slice A1 128 c1, .slice A2 128 c2, .slice A3 128 c3, .bool x.c.waits] 90) * (HP.pt G (.cells #[.string nm, .slice VA i vc] 93) * (HP.row 90 5 (.slice VA i vc) i (cs2.flatMap RC.vals) * (HP.pt BF (.cells #[.string nm, .slice (some ⟨gc, oc, none⟩) vn FC] 93) * (HP.rdk O room fuse v2 fs2 L2 * (HP.rdk y room fuse (.slice (some ⟨g, o, none⟩) n cF) fs L * q)))))))) := ⟨hn58.perm (by ac_rfl)⟩
                                  clear hn58 HS56
                                  revert HS58
                                  revert W58
                                  revert q4
                                  revert q3
                                  revert e1
                                  revert E1
                                  revert q1
                                  exact hsh7.out
                            · intro q1 E1 e1 q2 W59 HS59
                              refine wpR_many [9, 10, 14] rfl (by kernel_rfl) ?_
                              refine List.forall_mem_cons.2 ⟨?_, List.forall_mem_cons.2 ⟨?_, List.forall_mem_cons.2 ⟨?_, (fun _ h => by cases h)⟩⟩⟩
                              · refine br_keep #[true, true, true, true, true, true, true, true, true, true, false, true, true, false, false, true, true, false, true, true, false, false, false, false, false] rfl (by kernel_rfl) (fun K hK => ?_)
                                refine Eq.mpr (if_pos (by rfl)) ?_
                                refine wp_append_row (v := .slice (some ⟨q2, 0, none⟩) 0 0) (n := 0) (cs := []) (A := A1) (m := 128) (c := c1) (news := b8s x.c.durable) slB8 rfl rfl rfl (HS59.out.row_nil 5 1 _) (HCI.out _ (by first | exact HS59.out | exact (Sat.right HS59.out) | exact (Sat.right (Sat.right HS59.out)) | exact (Sat.right (Sat.right (Sat.right HS59.out))) | exact (Sat.right (Sat.right (Sat.right (Sat.right HS59.out)))) | exact (Sat.right (Sat.right (Sat.right (Sat.right (Sat.right HS59.out))))) | exact (Sat.right (Sat.right (Sat.right (Sat.right (Sat.right (Sat.right HS59.out)))))))).2.1 (by rw [b8s_length]; exact HFin.out.2.1) (b8s_one _) (by unfold maxLen; omega) (by omega) (fun vv W60 hn60 => ?_)
                                rw [List.nil_append, Nat.zero_add] at hn60
                                obtain ⟨E2, e2, rfl, -, -⟩ := hn60.row_slice
                                refine hK _ _ (by first | exact hn60 | exact (Sat.right hn60) | exact (Sat.right (Sat.right hn60)) | exact (Sat.right (Sat.right (Sat.right hn60))) | exact (Sat.right (Sat.right (Sat.right (Sat.right hn60)))) | exact (Sat.right (Sat.right (Sat.right (Sat.right (Sat.right hn60))))) | exact (Sat.right (Sat.right (Sat.right (Sat.right (Sat.right (Sat.right hn60))))))) ?_
                                clear hK K
                                have HS60 : Aside (Sat E W60 (HP.row 5 1 (.slice E1 128 e1) 128 (b8s x.c.read) * (HP.row 5 1 (.slice E2 128 e2) 128 (b8s x.c.durable) * (HP.pt CB (.cells #[.slice A0 128 c0, .slice A1 128 c1, .slice A2 128 c2, .slice A3 128 c3, .bool x.c.waits] 90) * (HP.pt G (.cells #[.string nm, .slice VA i vc] 93) * (HP.row 90 5 (.slice VA i vc) i (cs2.flatMap RC.vals) * (HP.pt BF (.cells #[.string nm, .slice (some ⟨gc, oc, none⟩) vn FC] 93) * (HP.rdk O room fuse v2 fs2 L2 * (HP.rdk y room fuse (.slice (some ⟨g, o, none⟩) n cF) fs L * q))))))))) := ⟨hn60.perm (by ac_rfl)⟩
                                clear hn60 HS59
                                refine wpR_many [10, 14] rfl (by kernel_rfl) ?_
                                refine List.forall_mem_cons.2 ⟨?_, List.forall_mem_cons.2 ⟨?_, (fun _ h => by cases h)⟩⟩
                                · refine br_keep #[true, true, true, true, true, true, true, true, true, true, true, true, true, false, false, true, true, false, true, true, false, false, false, false, false] rfl (by kernel_rfl) (fun K hK => ?_)
                                  go_simp
                                  obtain ⟨W61, hW61⟩ : ∃ zz, zz = World.alloc W60 (.cells #[] 5) := ⟨_, rfl⟩
                                  obtain ⟨q3, hq3⟩ : ∃ zz, zz = Array.size (World.heap W60) := ⟨_, rfl⟩
                                  have hn61 : Sat E W61 (HP.row 5 1 (.slice E1 128 e1) 128 (b8s x.c.read) * (HP.row 5 1 (.slice E2 128 e2) 128 (b8s x.c.durable) * (HP.pt CB (.cells #[.slice A0 128 c0, .slice A1 128 c1, .slice A2 128 c2, .slice A3 128 c3, .bool x.c.waits] 90) * (HP.pt G (.cells #[.string nm, .slice VA i vc] 93) * (HP.row 90 5 (.slice VA i vc) i (cs2.flatMap RC.vals) * (HP.pt BF (.cells #[.string nm, .slice (some ⟨gc, oc, none⟩) vn FC] 93) * (HP.rdk O room fuse v2 fs2 L2 * (HP.rdk y room fuse (.slice (some ⟨g, o, none⟩) n cF) fs L * q)))))))) := by rw [hW61]; exact (HS60.out.alloc _).right
                                  rw [← hW61, ← hq3]
                                  refine hK _ _ (by first | exact hn61 | exact (Sat.right hn61) | exact (Sat.right (Sat.right hn61)) | exact (Sat.right (Sat.right (Sat.right hn61))) | exact (Sat.right (Sat.right (Sat.right (Sat.right hn61)))) | exact (Sat.right (Sat.right (Sat.right (Sat.right (Sat.right hn61))))) | exact (Sat.right (Sat.right (Sat.right (Sat.right (Sat.right (Sat.right hn61))))))) ?_
                                  clear hK K hW61 hq3
                                  have HS61 : Aside (Sat E W61 (HP.row 5 1 (.slice E1 128 e1) 128 (b8s x.c.read) * (HP.row 5 1 (.slice E2 128 e2) 128 (b8s x.c.durable) * (HP.pt CB (.cells #[.slice A0 128 c0, .slice A1 128 c1, .slice A2 128 c2, .slice A3 128 c3, .bool x.c.waits] 90) * (HP.pt G (.cells #[.string nm, .slice VA i vc] 93) * (HP.row 90 5 (.slice VA i vc) i (cs2.flatMap RC.vals) * (HP.pt BF (.cells #[.string nm, .slice (some ⟨gc, oc, none⟩) vn FC] 93) * (HP.rdk O room fuse v2 fs2 L2 * (HP.rdk y room fuse (.slice (some ⟨g, o, none⟩) n cF) fs L * q))))))))) := ⟨hn61.perm (by ac_rfl)⟩
                                  clear hn61 HS60
                                  revert HS61
                                  revert W61
                                  revert q3
                                  revert e2
                                  revert E2
                                  revert q2
                                  revert e1
                                  revert E1
                                  revert q1
                                  exact hsh2.out
                                · refine br_keep #[true, true, true, true, true, true, true, true, true, true, false, true, true, false, true, true, true, false, true, true, false, false, false, false, false] rfl (by kernel_rfl) (fun K hK => ?_)
                                  go_simp
                                  obtain ⟨W62, hW62⟩ : ∃ zz, zz = World.alloc W60 (.cells #[] 5) := ⟨_, rfl⟩
                                  obtain ⟨q4, hq4⟩ : ∃ zz, zz = Array.size (World.heap W60) := ⟨_, rfl⟩
                                  have hn62 : Sat E W62 (HP.row 5 1 (.slice E1 128 e1) 128 (b8s x.c.read) * (HP.row 5 1 (.slice E2 128 e2) 128 (b8s x.c.durable) * (HP.pt CB (.cells #[.slice A0 128 c0, .slice A1 128 c1, .slice A2 128 c2, .slice A3 128 c3, .bool x.c.waits] 90) * (HP.pt G (.cells #[.string nm, .slice VA i vc] 93) * (HP.row 90 5 (.slice VA i vc) i (cs2.flatMap RC.vals) * (HP.pt BF (.cells #[.string nm, .slice (some ⟨gc, oc, none⟩) vn FC] 93) * (HP.rdk O room fuse v2 fs2 L2 * (HP.rdk y room fuse (.slice (some ⟨g, o, none⟩) n cF) fs L * q)))))))) := by rw [hW62]; exact (HS60.out.alloc _).right
                                  rw [← hW62, ← hq4]
                                  refine hK _ _ (by first | exact hn62 | exact (Sat.right hn62) | exact (Sat.right (Sat.right hn62)) | exact (Sat.right (Sat.right (Sat.right hn62))) | exact (Sat.right (Sat.right (Sat.right (Sat.right hn62)))) | exact (Sat.right (Sat.right (Sat.right (Sat.right (Sat.right hn62))))) | exact (Sat.right (Sat.right (Sat.right (Sat.right (Sat.right (Sat.right hn62))))))) ?_
                                  clear hK K hW62 hq4
                                  have HS62 : Aside (Sat E W62 (HP.row 5 1 (.slice E1 128 e1) 128 (b8s x.c.read) * (HP.row 5 1 (.slice E2 128 e2) 128 (b8s x.c.durable) * (HP.pt CB (.cells #[.slice A0 128 c0, .slice A1 128 c1, .slice A2 128 c2, .slice A3 128 c3, .bool x.c.waits] 90) * (HP.pt G (.cells #[.string nm, .slice VA i vc] 93) * (HP.row 90 5 (.slice VA i vc) i (cs2.flatMap RC.vals) * (HP.pt BF (.cells #[.string nm, .slice (some ⟨gc, oc, none⟩) vn FC] 93) * (HP.rdk O room fuse v2 fs2 L2 * (HP.rdk y room fuse (.slice (some ⟨g, o, none⟩) n cF) fs L * q))))))))) := ⟨hn62.perm (by ac_rfl)⟩
                                  clear hn62 HS60
                                  revert HS62
                                  revert W62
                                  revert q4
                                  revert e2
                                  revert E2
                                  revert q2
                                  revert e1
                                  revert E1
                                  revert q1
                                  exact hsh3.out
                              · refine br_keep #[true, true, true, true, true, true, true, true, true, false, true, true, true, false, false, true, true, false, true, true, false, false, false, false, false] rfl (by kernel_rfl) (fun K hK => ?_)
                                go_simp
                                obtain ⟨W63, hW63⟩ : ∃ zz, zz = World.alloc W59 (.cells #[] 5) := ⟨_, rfl⟩
                                obtain ⟨q3, hq3⟩ : ∃ zz, zz = Array.size (World.heap W59) := ⟨_, rfl⟩
                                have hn63 : Sat E W63 (HP.row 5 1 (.slice E1 128 e1) 128 (b8s x.c.read) * (HP.pt CB (.cells #[.slice A0 128 c0, .slice A1 128 c1, .slice A2 128 c2, .slice A3 128 c3, .bool x.c.waits] 90) * (HP.pt G (.cells #[.string nm, .slice VA i vc] 93) * (HP.row 90 5 (.slice VA i vc) i (cs2.flatMap RC.vals) * (HP.pt BF (.cells #[.string nm, .slice (some ⟨gc, oc, none⟩) vn FC] 93) * (HP.rdk O room fuse v2 fs2 L2 * (HP.rdk y room fuse (.slice (some ⟨g, o, none⟩) n cF) fs L * q))))))) := by rw [hW63]; exact (HS59.out.alloc _).right
                                rw [← hW63, ← hq3]
                                refine hK _ _ (by first | exact hn63 | exact (Sat.right hn63) | exact (Sat.right (Sat.right hn63)) | exact (Sat.right (Sat.right (Sat.right hn63))) | exact (Sat.right (Sat.right (Sat.right (Sat.right hn63)))) | exact (Sat.right (Sat.right (Sat.right (Sat.right (Sat.right hn63))))) | exact (Sat.right (Sat.right (Sat.right (Sat.right (Sat.right (Sat.right hn63))))))) ?_
                                clear hK K hW63 hq3
                                have HS63 : Aside (Sat E W63 (HP.row 5 1 (.slice E1 128 e1) 128 (b8s x.c.read) * (HP.pt CB (.cells #[.slice A0 128 c0, .slice A1 128 c1, .slice A2 128 c2, .slice A3 128 c3, .bool x.c.waits] 90) * (HP.pt G (.cells #[.string nm, .slice VA i vc] 93) * (HP.row 90 5 (.slice VA i vc) i (cs2.flatMap RC.vals) * (HP.pt BF (.cells #[.string nm, .slice (some ⟨gc, oc, none⟩) vn FC] 93) * (HP.rdk O room fuse v2 fs2 L2 * (HP.rdk y room fuse (.slice (some ⟨g, o, none⟩) n cF) fs L * q)))))))) := ⟨hn63.perm (by ac_rfl)⟩
                                clear hn63 HS59
                                revert HS63
                                revert W63
                                revert q3
                                revert q2
                                revert e1
                                revert E1
                                revert q1
                                exact hsh5.out
                              · refine br_keep #[true, true, true, true, true, true, true, true, true, false, false, true, true, false, true, true, true, false, true, true, false, false, false, false, false] rfl (by kernel_rfl) (fun K hK => ?_)
                                go_simp
                                obtain ⟨W64, hW64⟩ : ∃ zz, zz = World.alloc W59 (.cells #[] 5) := ⟨_, rfl⟩
                                obtain ⟨q4, hq4⟩ : ∃ zz, zz = Array.size (World.heap W59) := ⟨_, rfl⟩
                                have hn64 : Sat E W64 (HP.row 5 1 (.slice E1 128 e1) 128 (b8s x.c.read) * (HP.pt CB (.cells #[.slice A0 128 c0, .slice A1 128 c1, .slice A2 128 c2, .slice A3 128 c3, .bool x.c.waits] 90) * (HP.pt G (.cells #[.string nm, .slice VA i vc] 93) * (HP.row 90 5 (.slice VA i vc) i (cs2.flatMap RC.vals) * (HP.pt BF (.cells #[.string nm, .slice (some ⟨gc, oc, none⟩) vn FC] 93) * (HP.rdk O room fuse v2 fs2 L2 * (HP.rdk y room fuse (.slice (some ⟨g, o, none⟩) n cF) fs L * q))))))) := by rw [hW64]; exact (HS59.out.alloc _).right
                                rw [← hW64, ← hq4]
                                refine hK _ _ (by first | exact hn64 | exact (Sat.right hn64) | exact (Sat.right (Sat.right hn64)) | exact (Sat.right (Sat.right (Sat.right hn64))) | exact (Sat.right (Sat.right (Sat.right (Sat.right hn64)))) | exact (Sat.right (Sat.right (Sat.right (Sat.right (Sat.right hn64))))) | exact (Sat.right (Sat.right (Sat.right (Sat.right (Sat.right (Sat.right hn64))))))) ?_
                                clear hK K hW64 hq4
                                have HS64 : Aside (Sat E W64 (HP.row 5 1 (.slice E1 128 e1) 128 (b8s x.c.read) * (HP.pt CB (.cells #[.slice A0 128 c0, .slice A1 128 c1, .slice A2 128 c2, .slice A3 128 c3, .bool x.c.waits] 90) * (HP.pt G (.cells #[.string nm, .slice VA i vc] 93) * (HP.row 90 5 (.slice VA i vc) i (cs2.flatMap RC.vals) * (HP.pt BF (.cells #[.string nm, .slice (some ⟨gc, oc, none⟩) vn FC] 93) * (HP.rdk O room fuse v2 fs2 L2 * (HP.rdk y room fuse (.slice (some ⟨g, o, none⟩) n cF) fs L * q)))))))) := ⟨hn64.perm (by ac_rfl)⟩
                                clear hn64 HS59
                                revert HS64
                                revert W64
                                revert q4
                                revert q2
                                revert e1
                                revert E1
                                revert q1
                                exact hsh6.out
                          · intro q1 q2 q3 q4 W65 HS65
                            refine wpR_keep #[true, true, true, true, true, true, true, true, true, false, true, true, true, false, true, true, true, false, true, true, false, false, false, false, false] (i := 5) rfl (by kernel_rfl) (fun K hK => ?_)
                            refine Eq.mpr (if_pos (by rfl)) ?_
                            refine wp_append_row (v := .slice (some ⟨q1, 0, none⟩) 0 0) (n := 0) (cs := []) (A := A0) (m := 128) (c := c0) (news := b8s x.c.read) slB8 rfl rfl rfl (HS65.out.row_nil 5 1 _) (HCI.out _ (by first | exact HS65.out | exact (Sat.right HS65.out) | exact (Sat.right (Sat.right HS65.out)) | exact (Sat.right (Sat.right (Sat.right HS65.out))) | exact (Sat.right (Sat.right (Sat.right (Sat.right HS65.out)))) | exact (Sat.right (Sat.right (Sat.right (Sat.right (Sat.right HS65.out))))) | exact (Sat.right (Sat.right (Sat.right (Sat.right (Sat.right (Sat.right HS65.out)))))))).1 (by rw [b8s_length]; exact HFin.out.1) (b8s_one _) (by unfold maxLen; omega) (by omega) (fun vv W66 hn66 => ?_)
                            rw [List.nil_append, Nat.zero_add] at hn66
                            obtain ⟨E1, e1, rfl, -, -⟩ := hn66.row_slice
                            refine hK _ _ (by first | exact hn66 | exact (Sat.right hn66) | exact (Sat.right (Sat.right hn66)) | exact (Sat.right (Sat.right (Sat.right hn66))) | exact (Sat.right (Sat.right (Sat.right (Sat.right hn66)))) | exact (Sat.right (Sat.right (Sat.right (Sat.right (Sat.right hn66))))) | exact (Sat.right (Sat.right (Sat.right (Sat.right (Sat.right (Sat.right hn66))))))) ?_
                            clear hK K
                            have HS66 : Aside (Sat E W66 (HP.row 5 1 (.slice E1 128 e1) 128 (b8s x.c.read) * (HP.pt CB (.cells #[.slice A0 128 c0, .slice A1 128 c1, .slice A2 128 c2, .slice A3 128 c3, .bool x.c.waits] 90) * (HP.pt G (.cells #[.string nm, .slice VA i vc] 93) * (HP.row 90 5 (.slice VA i vc) i (cs2.flatMap RC.vals) * (HP.pt BF (.cells #[.string nm, .slice (some ⟨gc, oc, none⟩) vn FC] 93) * (HP.rdk O room fuse v2 fs2 L2 * (HP.rdk y room fuse (.slice (some ⟨g, o, none⟩) n cF) fs L * q)))))))) := ⟨hn66.perm (by ac_rfl)⟩
                            clear hn66 HS65
                            revert HS66
                            revert W66
                            revert q4
                            revert q3
                            revert q2
                            revert e1
                            revert E1
                            revert q1
                            exact hsh4.out
                        · intro q1 E1 e1 q3 q4 W67 HS67
                          refine wpR_keep #[true, true, true, true, true, true, true, true, true, false, true, true, true, false, true, true, true, false, true, true, false, false, false, false, false] (i := 6) rfl (by kernel_rfl) (fun K hK => ?_)
                          go_simp
                          obtain ⟨W68, hW68⟩ : ∃ zz, zz = World.alloc W67 (.cells #[] 5) := ⟨_, rfl⟩
                          obtain ⟨q2, hq2⟩ : ∃ zz, zz = Array.size (World.heap W67) := ⟨_, rfl⟩
                          have hn68 : Sat E W68 (HP.row 5 1 (.slice E1 128 e1) 128 (b8s x.c.read) * (HP.pt CB (.cells #[.slice A0 128 c0, .slice A1 128 c1, .slice A2 128 c2, .slice A3 128 c3, .bool x.c.waits] 90) * (HP.pt G (.cells #[.string nm, .slice VA i vc] 93) * (HP.row 90 5 (.slice VA i vc) i (cs2.flatMap RC.vals) * (HP.pt BF (.cells #[.string nm, .slice (some ⟨gc, oc, none⟩) vn FC] 93) * (HP.rdk O room fuse v2 fs2 L2 * (HP.rdk y room fuse (.slice (some ⟨g, o, none⟩) n cF) fs L * q))))))) := by rw [hW68]; exact (HS67.out.alloc _).right
                          rw [← hW68, ← hq2]
                          refine hK _ _ (by first | exact hn68 | exact (Sat.right hn68) | exact (Sat.right (Sat.right hn68)) | exact (Sat.right (Sat.right (Sat.right hn68))) | exact (Sat.right (Sat.right (Sat.right (Sat.right hn68)))) | exact (Sat.right (Sat.right (Sat.right (Sat.right (Sat.right hn68))))) | exact (Sat.right (Sat.right (Sat.right (Sat.right (Sat.right (Sat.right hn68))))))) ?_
                          clear hK K hW68 hq2
                          have HS68 : Aside (Sat E W68 (HP.row 5 1 (.slice E1 128 e1) 128 (b8s x.c.read) * (HP.pt CB (.cells #[.slice A0 128 c0, .slice A1 128 c1, .slice A2 128 c2, .slice A3 128 c3, .bool x.c.waits] 90) * (HP.pt G (.cells #[.string nm, .slice VA i vc] 93) * (HP.row 90 5 (.slice VA i vc) i (cs2.flatMap RC.vals) * (HP.pt BF (.cells #[.string nm, .slice (some ⟨gc, oc, none⟩) vn FC] 93) * (HP.rdk O room fuse v2 fs2 L2 * (HP.rdk y room fuse (.slice (some ⟨g, o, none⟩) n cF) fs L * q)))))))) := ⟨hn68.perm (by ac_rfl)⟩
                          clear hn68 HS67
                          revert HS68
                          revert W68
                          revert q4
                          revert q3
                          revert q2
                          revert e1
                          revert E1
                          revert q1
                          exact hsh4.out
                      · intro q1 E1 e1 q2 q4 W69 HS69
                        refine wpR_many [9, 10] rfl (by kernel_rfl) ?_
                        refine List.forall_mem_cons.2 ⟨?_, List.forall_mem_cons.2 ⟨?_, (fun _ h => by cases h)⟩⟩
                        · refine br_keep #[true, true, true, true, true, true, true, true, true, true, false, true, true, false, true, true, true, false, true, true, false, false, false, false, false] rfl (by kernel_rfl) (fun K hK => ?_)
                          refine Eq.mpr (if_pos (by rfl)) ?_
                          refine wp_append_row (v := .slice (some ⟨q2, 0, none⟩) 0 0) (n := 0) (cs := []) (A := A1) (m := 128) (c := c1) (news := b8s x.c.durable) slB8 rfl rfl rfl (HS69.out.row_nil 5 1 _) (HCI.out _ (by first | exact HS69.out | exact (Sat.right HS69.out) | exact (Sat.right (Sat.right HS69.out)) | exact (Sat.right (Sat.right (Sat.right HS69.out))) | exact (Sat.right (Sat.right (Sat.right (Sat.right HS69.out)))) | exact (Sat.right (Sat.right (Sat.right (Sat.right (Sat.right HS69.out))))) | exact (Sat.right (Sat.right (Sat.right (Sat.right (Sat.right (Sat.right HS69.out)))))))).2.1 (by rw [b8s_length]; exact HFin.out.2.1) (b8s_one _) (by unfold maxLen; omega) (by omega) (fun vv W70 hn70 => ?_)
                          rw [List.nil_append, Nat.zero_add] at hn70
                          obtain ⟨E2, e2, rfl, -, -⟩ := hn70.row_slice
                          refine hK _ _ (by first | exact hn70 | exact (Sat.right hn70) | exact (Sat.right (Sat.right hn70)) | exact (Sat.right (Sat.right (Sat.right hn70))) | exact (Sat.right (Sat.right (Sat.right (Sat.right hn70)))) | exact (Sat.right (Sat.right (Sat.right (Sat.right (Sat.right hn70))))) | exact (Sat.right (Sat.right (Sat.right (Sat.right (Sat.right (Sat.right hn70))))))) ?_
                          clear hK K
                          have HS70 : Aside (Sat E W70 (HP.row 5 1 (.slice E1 128 e1) 128 (b8s x.c.read) * (HP.row 5 1 (.slice E2 128 e2) 128 (b8s x.c.durable) * (HP.pt CB (.cells #[.slice A0 128 c0, .slice A1 128 c1, .slice A2 128 c2, .slice A3 128 c3, .bool x.c.waits] 90) * (HP.pt G (.cells #[.string nm, .slice VA i vc] 93) * (HP.row 90 5 (.slice VA i vc) i (cs2.flatMap RC.vals) * (HP.pt BF (.cells #[.string nm, .slice (some ⟨gc, oc, none⟩) vn FC] 93) * (HP.rdk O room fuse v2 fs2 L2 * (HP.rdk y room fuse (.slice (some ⟨g, o, none⟩) n cF) fs L * q))))))))) := ⟨hn70.perm (by ac_rfl)⟩
                          clear hn70 HS69
                          revert HS70
                          revert W70
                          revert q4
                          revert e2
                          revert E2
                          revert q2
                          revert e1
                          revert E1
                          revert q1
                          exact hsh3.out
                        · refine br_keep #[true, true, true, true, true, true, true, true, true, false, true, true, true, false, true, true, true, false, true, true, false, false, false, false, false] rfl (by kernel_rfl) (fun K hK => ?_)
                          go_simp
                          obtain ⟨W71, hW71⟩ : ∃ zz, zz = World.alloc W69 (.cells #[] 5) := ⟨_, rfl⟩
                          obtain ⟨q3, hq3⟩ : ∃ zz, zz = Array.size (World.heap W69) := ⟨_, rfl⟩
                          have hn71 : Sat E W71 (HP.row 5 1 (.slice E1 128 e1) 128 (b8s x.c.read) * (HP.pt CB (.cells #[.slice A0 128 c0, .slice A1 128 c1, .slice A2 128 c2, .slice A3 128 c3, .bool x.c.waits] 90) * (HP.pt G (.cells #[.string nm, .slice VA i vc] 93) * (HP.row 90 5 (.slice VA i vc) i (cs2.flatMap RC.vals) * (HP.pt BF (.cells #[.string nm, .slice (some ⟨gc, oc, none⟩) vn FC] 93) * (HP.rdk O room fuse v2 fs2 L2 * (HP.rdk y room fuse (.slice (some ⟨g, o, none⟩) n cF) fs L * q))))))) := by rw [hW71]; exact (HS69.out.alloc _).right
                          rw [← hW71, ← hq3]
                          refine hK _ _ (by first | exact hn71 | exact (Sat.right hn71) | exact (Sat.right (Sat.right hn71)) | exact (Sat.right (Sat.right (Sat.right hn71))) | exact (Sat.right (Sat.right (Sat.right (Sat.right hn71)))) | exact (Sat.right (Sat.right (Sat.right (Sat.right (Sat.right hn71))))) | exact (Sat.right (Sat.right (Sat.right (Sat.right (Sat.right (Sat.right hn71))))))) ?_
                          clear hK K hW71 hq3
                          have HS71 : Aside (Sat E W71 (HP.row 5 1 (.slice E1 128 e1) 128 (b8s x.c.read) * (HP.pt CB (.cells #[.slice A0 128 c0, .slice A1 128 c1, .slice A2 128 c2, .slice A3 128 c3, .bool x.c.waits] 90) * (HP.pt G (.cells #[.string nm, .slice VA i vc] 93) * (HP.row 90 5 (.slice VA i vc) i (cs2.flatMap RC.vals) * (HP.pt BF (.cells #[.string nm, .slice (some ⟨gc, oc, none⟩) vn FC] 93) * (HP.rdk O room fuse v2 fs2 L2 * (HP.rdk y room fuse (.slice (some ⟨g, o, none⟩) n cF) fs L * q)))))))) := ⟨hn71.perm (by ac_rfl)⟩
                          clear hn71 HS69
                          revert HS71
                          revert W71
                          revert q4
                          revert q3
                          revert q2
                          revert e1
                          revert E1
                          revert q1
                          exact hsh4.out
                    · intro q1 E1 e1 q2 q3 W72 HS72
                      refine wpR_many [9, 14] rfl (by kernel_rfl) ?_
                      refine List.forall_mem_cons.2 ⟨?_, List.forall_mem_cons.2 ⟨?_, (fun _ h => by cases h)⟩⟩
                      · refine br_keep #[true, true, true, true, true, true, true, true, true, true, true, true, true, false, false, true, true, false, true, true, false, false, false, false, false] rfl (by kernel_rfl) (fun K hK => ?_)
                        refine Eq.mpr (if_pos (by rfl)) ?_
                        refine wp_append_row (v := .slice (some ⟨q2, 0, none⟩) 0 0) (n := 0) (cs := []) (A := A1) (m := 128) (c := c1) (news := b8s x.c.durable) slB8 rfl rfl rfl (HS72.out.row_nil 5 1 _) (HCI.out _ (by first | exact HS72.out | exact (Sat.right HS72.out) | exact (Sat.right (Sat.right HS72.out)) | exact (Sat.right (Sat.right (Sat.right HS72.out))) | exact (Sat.right (Sat.right (Sat.right (Sat.right HS72.out)))) | exact (Sat.right (Sat.right (Sat.right (Sat.right (Sat.right HS72.out))))) | exact (Sat.right (Sat.right (Sat.right (Sat.right (Sat.right (Sat.right HS72.out)))))))).2.1 (by rw [b8s_length]; exact HFin.out.2.1) (b8s_one _) (by unfold maxLen; omega) (by omega) (fun vv W73 hn73 => ?_)
                        rw [List.nil_append, Nat.zero_add] at hn73
                        obtain ⟨E2, e2, rfl, -, -⟩ := hn73.row_slice
                        refine hK _ _ (by first | exact hn73 | exact (Sat.right hn73) | exact (Sat.right (Sat.right hn73)) | exact (Sat.right (Sat.right (Sat.right hn73))) | exact (Sat.right (Sat.right (Sat.right (Sat.right hn73)))) | exact (Sat.right (Sat.right (Sat.right (Sat.right (Sat.right hn73))))) | exact (Sat.right (Sat.right (Sat.right (Sat.right (Sat.right (Sat.right hn73))))))) ?_
                        clear hK K
                        have HS73 : Aside (Sat E W73 (HP.row 5 1 (.slice E1 128 e1) 128 (b8s x.c.read) * (HP.row 5 1 (.slice E2 128 e2) 128 (b8s x.c.durable) * (HP.pt CB (.cells #[.slice A0 128 c0, .slice A1 128 c1, .slice A2 128 c2, .slice A3 128 c3, .bool x.c.waits] 90) * (HP.pt G (.cells #[.string nm, .slice VA i vc] 93) * (HP.row 90 5 (.slice VA i vc) i (cs2.flatMap RC.vals) * (HP.pt BF (.cells #[.string nm, .slice (some ⟨gc, oc, none⟩) vn FC] 93) * (HP.rdk O room fuse v2 fs2 L2 * (HP.rdk y room fuse (.slice (some ⟨g, o, none⟩) n cF) fs L * q))))))))) := ⟨hn73.perm (by ac_rfl)⟩
                        clear hn73 HS72
                        revert HS73
                        revert W73
                        revert q3
                        revert e2
                        revert E2
                        revert q2
                        revert e1
                        revert E1
                        revert q1
                        exact hsh2.out
                      · refine br_keep #[true, true, true, true, true, true, true, true, true, false, true, true, true, false, true, true, true, false, true, true, false, false, false, false, false] rfl (by kernel_rfl) (fun K hK => ?_)
                        go_simp
                        obtain ⟨W74, hW74⟩ : ∃ zz, zz = World.alloc W72 (.cells #[] 5) := ⟨_, rfl⟩
                        obtain ⟨q4, hq4⟩ : ∃ zz, zz = Array.size (World.heap W72) := ⟨_, rfl⟩
                        have hn74 : Sat E W74 (HP.row 5 1 (.slice E1 128 e1) 128 (b8s x.c.read) * (HP.pt CB (.cells #[.slice A0 128 c0, .slice A1 128 c1, .slice A2 128 c2, .slice A3 128 c3, .bool x.c.waits] 90) * (HP.pt G (.cells #[.string nm, .slice VA i vc] 93) * (HP.row 90 5 (.slice VA i vc) i (cs2.flatMap RC.vals) * (HP.pt BF (.cells #[.string nm, .slice (some ⟨gc, oc, none⟩) vn FC] 93) * (HP.rdk O room fuse v2 fs2 L2 * (HP.rdk y room fuse (.slice (some ⟨g, o, none⟩) n cF) fs L * q))))))) := by rw [hW74]; exact (HS72.out.alloc _).right
                        rw [← hW74, ← hq4]
                        refine hK _ _ (by first | exact hn74 | exact (Sat.right hn74) | exact (Sat.right (Sat.right hn74)) | exact (Sat.right (Sat.right (Sat.right hn74))) | exact (Sat.right (Sat.right (Sat.right (Sat.right hn74)))) | exact (Sat.right (Sat.right (Sat.right (Sat.right (Sat.right hn74))))) | exact (Sat.right (Sat.right (Sat.right (Sat.right (Sat.right (Sat.right hn74))))))) ?_
                        clear hK K hW74 hq4
                        have HS74 : Aside (Sat E W74 (HP.row 5 1 (.slice E1 128 e1) 128 (b8s x.c.read) * (HP.pt CB (.cells #[.slice A0 128 c0, .slice A1 128 c1, .slice A2 128 c2, .slice A3 128 c3, .bool x.c.waits] 90) * (HP.pt G (.cells #[.string nm, .slice VA i vc] 93) * (HP.row 90 5 (.slice VA i vc) i (cs2.flatMap RC.vals) * (HP.pt BF (.cells #[.string nm, .slice (some ⟨gc, oc, none⟩) vn FC] 93) * (HP.rdk O room fuse v2 fs2 L2 * (HP.rdk y room fuse (.slice (some ⟨g, o, none⟩) n cF) fs L * q)))))))) := ⟨hn74.perm (by ac_rfl)⟩
                        clear hn74 HS72
                        revert HS74
                        revert W74
                        revert q4
                        revert q3
                        revert q2
                        revert e1
                        revert E1
                        revert q1
                        exact hsh4.out
                  · intro q1 E1 e1 q2 q3 q4 W75 HS75
                    refine wpR_keep #[true, true, true, true, true, true, true, true, true, true, true, true, true, false, true, true, true, false, true, true, false, false, false, false, false] (i := 9) rfl (by kernel_rfl) (fun K hK => ?_)
                    refine Eq.mpr (if_pos (by rfl)) ?_
                    refine wp_append_row (v := .slice (some ⟨q2, 0, none⟩) 0 0) (n := 0) (cs := []) (A := A1) (m := 128) (c := c1) (news := b8s x.c.durable) slB8 rfl rfl rfl (HS75.out.row_nil 5 1 _) (HCI.out _ (by first | exact HS75.out | exact (Sat.right HS75.out) | exact (Sat.right (Sat.right HS75.out)) | exact (Sat.right (Sat.right (Sat.right HS75.out))) | exact (Sat.right (Sat.right (Sat.right (Sat.right HS75.out)))) | exact (Sat.right (Sat.right (Sat.right (Sat.right (Sat.right HS75.out))))) | exact (Sat.right (Sat.right (Sat.right (Sat.right (Sat.right (Sat.right HS75.out)))))))).2.1 (by rw [b8s_length]; exact HFin.out.2.1) (b8s_one _) (by unfold maxLen; omega) (by omega) (fun vv W76 hn76 => ?_)
                    rw [List.nil_append, Nat.zero_add] at hn76
                    obtain ⟨E2, e2, rfl, -, -⟩ := hn76.row_slice
                    refine hK _ _ (by first | exact hn76 | exact (Sat.right hn76) | exact (Sat.right (Sat.right hn76)) | exact (Sat.right (Sat.right (Sat.right hn76))) | exact (Sat.right (Sat.right (Sat.right (Sat.right hn76)))) | exact (Sat.right (Sat.right (Sat.right (Sat.right (Sat.right hn76))))) | exact (Sat.right (Sat.right (Sat.right (Sat.right (Sat.right (Sat.right hn76))))))) ?_
                    clear hK K
                    have HS76 : Aside (Sat E W76 (HP.row 5 1 (.slice E1 128 e1) 128 (b8s x.c.read) * (HP.row 5 1 (.slice E2 128 e2) 128 (b8s x.c.durable) * (HP.pt CB (.cells #[.slice A0 128 c0, .slice A1 128 c1, .slice A2 128 c2, .slice A3 128 c3, .bool x.c.waits] 90) * (HP.pt G (.cells #[.string nm, .slice VA i vc] 93) * (HP.row 90 5 (.slice VA i vc) i (cs2.flatMap RC.vals) * (HP.pt BF (.cells #[.string nm, .slice (some ⟨gc, oc, none⟩) vn FC] 93) * (HP.rdk O room fuse v2 fs2 L2 * (HP.rdk y room fuse (.slice (some ⟨g, o, none⟩) n cF) fs L * q))))))))) := ⟨hn76.perm (by ac_rfl)⟩
                    clear hn76 HS75
                    revert HS76
                    revert W76
                    revert q4
                    revert q3
                    revert e2
                    revert E2
                    revert q2
                    revert e1
                    revert E1
                    revert q1
                    exact hsh1.out
                · intro q1 E1 e1 q2 E2 e2 q4 W77 HS77
                  refine wpR_keep #[true, true, true, true, true, true, true, true, true, true, true, true, true, false, true, true, true, false, true, true, false, false, false, false, false] (i := 10) rfl (by kernel_rfl) (fun K hK => ?_)
                  go_simp
                  obtain ⟨W78, hW78⟩ : ∃ zz, zz = World.alloc W77 (.cells #[] 5) := ⟨_, rfl⟩
                  obtain ⟨q3, hq3⟩ : ∃ zz, zz = Array.size (World.heap W77) := ⟨_, rfl⟩
                  have hn78 : Sat E W78 (HP.row 5 1 (.slice E1 128 e1) 128 (b8s x.c.read) * (HP.row 5 1 (.slice E2 128 e2) 128 (b8s x.c.durable) * (HP.pt CB (.cells #[.slice A0 128 c0, .slice A1 128 c1, .slice A2 128 c2, .slice A3 128 c3, .bool x.c.waits] 90) * (HP.pt G (.cells #[.string nm, .slice VA i vc] 93) * (HP.row 90 5 (.slice VA i vc) i (cs2.flatMap RC.vals) * (HP.pt BF (.cells #[.string nm, .slice (some ⟨gc, oc, none⟩) vn FC] 93) * (HP.rdk O room fuse v2 fs2 L2 * (HP.rdk y room fuse (.slice (some ⟨g, o, none⟩) n cF) fs L * q)))))))) := by rw [hW78]; exact (HS77.out.alloc _).right
                  rw [← hW78, ← hq3]
                  refine hK _ _ (by first | exact hn78 | exact (Sat.right hn78) | exact (Sat.right (Sat.right hn78)) | exact (Sat.right (Sat.right (Sat.right hn78))) | exact (Sat.right (Sat.right (Sat.right (Sat.right hn78)))) | exact (Sat.right (Sat.right (Sat.right (Sat.right (Sat.right hn78))))) | exact (Sat.right (Sat.right (Sat.right (Sat.right (Sat.right (Sat.right hn78))))))) ?_
                  clear hK K hW78 hq3
                  have HS78 : Aside (Sat E W78 (HP.row 5 1 (.slice E1 128 e1) 128 (b8s x.c.read) * (HP.row 5 1 (.slice E2 128 e2) 128 (b8s x.c.durable) * (HP.pt CB (.cells #[.slice A0 128 c0, .slice A1 128 c1, .slice A2 128 c2, .slice A3 128 c3, .bool x.c.waits] 90) * (HP.pt G (.cells #[.string nm, .slice VA i vc] 93) * (HP.row 90 5 (.slice VA i vc) i (cs2.flatMap RC.vals) * (HP.pt BF (.cells #[.string nm, .slice (some ⟨gc, oc, none⟩) vn FC] 93) * (HP.rdk O room fuse v2 fs2 L2 * (HP.rdk y room fuse (.slice (some ⟨g, o, none⟩) n cF) fs L * q))))))))) := ⟨hn78.perm (by ac_rfl)⟩
                  clear hn78 HS77
                  revert HS78
                  revert W78
                  revert q4
                  revert q3
                  revert e2
                  revert E2
                  revert q2
                  revert e1
                  revert E1
                  revert q1
                  exact hsh1.out
              · intro q1 E1 e1 q2 E2 e2 q3 W79 HS79
                refine wpR_many [13, 14] rfl (by kernel_rfl) ?_
                refine List.forall_mem_cons.2 ⟨?_, List.forall_mem_cons.2 ⟨?_, (fun _ h => by cases h)⟩⟩
                · refine br_keep #[true, true, true, true, true, true, true, true, true, true, true, true, true, true, false, true, true, false, true, true, false, false, false, false, false] rfl (by kernel_rfl) (fun K hK => ?_)
                  refine Eq.mpr (if_pos (by rfl)) ?_
                  refine wp_append_row (v := .slice (some ⟨q3, 0, none⟩) 0 0) (n := 0) (cs := []) (A := A2) (m := 128) (c := c2) (news := b8s x.c.synced) slB8 rfl rfl rfl (HS79.out.row_nil 5 1 _) (HCI.out _ (by first | exact HS79.out | exact (Sat.right HS79.out) | exact (Sat.right (Sat.right HS79.out)) | exact (Sat.right (Sat.right (Sat.right HS79.out))) | exact (Sat.right (Sat.right (Sat.right (Sat.right HS79.out)))) | exact (Sat.right (Sat.right (Sat.right (Sat.right (Sat.right HS79.out))))) | exact (Sat.right (Sat.right (Sat.right (Sat.right (Sat.right (Sat.right HS79.out)))))))).2.2.1 (by rw [b8s_length]; exact HFin.out.2.2.1) (b8s_one _) (by unfold maxLen; omega) (by omega) (fun vv W80 hn80 => ?_)
                  rw [List.nil_append, Nat.zero_add] at hn80
                  obtain ⟨E3, e3, rfl, -, -⟩ := hn80.row_slice
                  refine hK _ _ (by first | exact hn80 | exact (Sat.right hn80) | exact (Sat.right (Sat.right hn80)) | exact (Sat.right (Sat.right (Sat.right hn80))) | exact (Sat.right (Sat.right (Sat.right (Sat.right hn80)))) | exact (Sat.right (Sat.right (Sat.right (Sat.right (Sat.right hn80))))) | exact (Sat.right (Sat.right (Sat.right (Sat.right (Sat.right (Sat.right hn80))))))) ?_
                  clear hK K
                  have HS80 : Aside (Sat E W80 (HP.row 5 1 (.slice E1 128 e1) 128 (b8s x.c.read) * (HP.row 5 1 (.slice E2 128 e2) 128 (b8s x.c.durable) * (HP.row 5 1 (.slice E3 128 e3) 128 (b8s x.c.synced) * (HP.pt CB (.cells #[.slice A0 128 c0, .slice A1 128 c1, .slice A2 128 c2, .slice A3 128 c3, .bool x.c.waits] 90) * (HP.pt G (.cells #[.string nm, .slice VA i vc] 93) * (HP.row 90 5 (.slice VA i vc) i (cs2.flatMap RC.vals) * (HP.pt BF (.cells #[.string nm, .slice (some ⟨gc, oc, none⟩) vn FC] 93) * (HP.rdk O room fuse v2 fs2 L2 * (HP.rdk y room fuse (.slice (some ⟨g, o, none⟩) n cF) fs L * q)))))))))) := ⟨hn80.perm (by ac_rfl)⟩
                  clear hn80 HS79
                  refine wpR_keep #[true, true, true, true, true, true, true, true, true, true, true, true, true, true, true, true, true, false, true, true, false, false, false, false, false] (i := 14) rfl (by kernel_rfl) (fun K hK => ?_)
                  go_simp
                  obtain ⟨W81, hW81⟩ : ∃ zz, zz = World.alloc W80 (.cells #[] 5) := ⟨_, rfl⟩
                  obtain ⟨q4, hq4⟩ : ∃ zz, zz = Array.size (World.heap W80) := ⟨_, rfl⟩
                  have hn81 : Sat E W81 (HP.row 5 1 (.slice E1 128 e1) 128 (b8s x.c.read) * (HP.row 5 1 (.slice E2 128 e2) 128 (b8s x.c.durable) * (HP.row 5 1 (.slice E3 128 e3) 128 (b8s x.c.synced) * (HP.pt CB (.cells #[.slice A0 128 c0, .slice A1 128 c1, .slice A2 128 c2, .slice A3 128 c3, .bool x.c.waits] 90) * (HP.pt G (.cells #[.string nm, .slice VA i vc] 93) * (HP.row 90 5 (.slice VA i vc) i (cs2.flatMap RC.vals) * (HP.pt BF (.cells #[.string nm, .slice (some ⟨gc, oc, none⟩) vn FC] 93) * (HP.rdk O room fuse v2 fs2 L2 * (HP.rdk y room fuse (.slice (some ⟨g, o, none⟩) n cF) fs L * q))))))))) := by rw [hW81]; exact (HS80.out.alloc _).right
                  rw [← hW81, ← hq4]
                  refine hK _ _ (by first | exact hn81 | exact (Sat.right hn81) | exact (Sat.right (Sat.right hn81)) | exact (Sat.right (Sat.right (Sat.right hn81))) | exact (Sat.right (Sat.right (Sat.right (Sat.right hn81)))) | exact (Sat.right (Sat.right (Sat.right (Sat.right (Sat.right hn81))))) | exact (Sat.right (Sat.right (Sat.right (Sat.right (Sat.right (Sat.right hn81))))))) ?_
                  clear hK K hW81 hq4
                  have HS81 : Aside (Sat E W81 (HP.row 5 1 (.slice E1 128 e1) 128 (b8s x.c.read) * (HP.row 5 1 (.slice E2 128 e2) 128 (b8s x.c.durable) * (HP.row 5 1 (.slice E3 128 e3) 128 (b8s x.c.synced) * (HP.pt CB (.cells #[.slice A0 128 c0, .slice A1 128 c1, .slice A2 128 c2, .slice A3 128 c3, .bool x.c.waits] 90) * (HP.pt G (.cells #[.string nm, .slice VA i vc] 93) * (HP.row 90 5 (.slice VA i vc) i (cs2.flatMap RC.vals) * (HP.pt BF (.cells #[.string nm, .slice (some ⟨gc, oc, none⟩) vn FC] 93) * (HP.rdk O room fuse v2 fs2 L2 * (HP.rdk y room fuse (.slice (some ⟨g, o, none⟩) n cF) fs L * q)))))))))) := ⟨hn81.perm (by ac_rfl)⟩
                  clear hn81 HS80
                  revert HS81
                  revert W81
                  revert q4
                  revert e3
                  revert E3
                  revert q3
                  revert e2
                  revert E2
                  revert q2
                  revert e1
                  revert E1
                  revert q1
                  exact hsh0.out
                · refine br_keep #[true, true, true, true, true, true, true, true, true, true, true, true, true, false, true, true, true, false, true, true, false, false, false, false, false] rfl (by kernel_rfl) (fun K hK => ?_)
                  go_simp
                  obtain ⟨W82, hW82⟩ : ∃ zz, zz = World.alloc W79 (.cells #[] 5) := ⟨_, rfl⟩
                  obtain ⟨q4, hq4⟩ : ∃ zz, zz = Array.size (World.heap W79) := ⟨_, rfl⟩
                  have hn82 : Sat E W82 (HP.row 5 1 (.slice E1 128 e1) 128 (b8s x.c.read) * (HP.row 5 1 (.slice E2 128 e2) 128 (b8s x.c.durable) * (HP.pt CB (.cells #[.slice A0 128 c0, .slice A1 128 c1, .slice A2 128 c2, .slice A3 128 c3, .bool x.c.waits] 90) * (HP.pt G (.cells #[.string nm, .slice VA i vc] 93) * (HP.row 90 5 (.slice VA i vc) i (cs2.flatMap RC.vals) * (HP.pt BF (.cells #[.string nm, .slice (some ⟨gc, oc, none⟩) vn FC] 93) * (HP.rdk O room fuse v2 fs2 L2 * (HP.rdk y room fuse (.slice (some ⟨g, o, none⟩) n cF) fs L * q)))))))) := by rw [hW82]; exact (HS79.out.alloc _).right
                  rw [← hW82, ← hq4]
                  refine hK _ _ (by first | exact hn82 | exact (Sat.right hn82) | exact (Sat.right (Sat.right hn82)) | exact (Sat.right (Sat.right (Sat.right hn82))) | exact (Sat.right (Sat.right (Sat.right (Sat.right hn82)))) | exact (Sat.right (Sat.right (Sat.right (Sat.right (Sat.right hn82))))) | exact (Sat.right (Sat.right (Sat.right (Sat.right (Sat.right (Sat.right hn82))))))) ?_
                  clear hK K hW82 hq4
                  have HS82 : Aside (Sat E W82 (HP.row 5 1 (.slice E1 128 e1) 128 (b8s x.c.read) * (HP.row 5 1 (.slice E2 128 e2) 128 (b8s x.c.durable) * (HP.pt CB (.cells #[.slice A0 128 c0, .slice A1 128 c1, .slice A2 128 c2, .slice A3 128 c3, .bool x.c.waits] 90) * (HP.pt G (.cells #[.string nm, .slice VA i vc] 93) * (HP.row 90 5 (.slice VA i vc) i (cs2.flatMap RC.vals) * (HP.pt BF (.cells #[.string nm, .slice (some ⟨gc, oc, none⟩) vn FC] 93) * (HP.rdk O room fuse v2 fs2 L2 * (HP.rdk y room fuse (.slice (some ⟨g, o, none⟩) n cF) fs L * q))))))))) := ⟨hn82.perm (by ac_rfl)⟩
                  clear hn82 HS79
                  revert HS82
                  revert W82
                  revert q4
                  revert q3
                  revert e2
                  revert E2
                  revert q2
                  revert e1
                  revert E1
                  revert q1
                  exact hsh1.out
            · intro q1 E1 e1 q2 E2 e2 q3 q4 W83 HS83
              refine wpR_keep #[true, true, true, true, true, true, true, true, true, true, true, true, true, true, true, true, true, false, true, true, false, false, false, false, false] (i := 13) rfl (by kernel_rfl) (fun K hK => ?_)
              refine Eq.mpr (if_pos (by rfl)) ?_
              refine wp_append_row (v := .slice (some ⟨q3, 0, none⟩) 0 0) (n := 0) (cs := []) (A := A2) (m := 128) (c := c2) (news := b8s x.c.synced) slB8 rfl rfl rfl (HS83.out.row_nil 5 1 _) (HCI.out _ (by first | exact HS83.out | exact (Sat.right HS83.out) | exact (Sat.right (Sat.right HS83.out)) | exact (Sat.right (Sat.right (Sat.right HS83.out))) | exact (Sat.right (Sat.right (Sat.right (Sat.right HS83.out)))) | exact (Sat.right (Sat.right (Sat.right (Sat.right (Sat.right HS83.out))))) | exact (Sat.right (Sat.right (Sat.right (Sat.right (Sat.right (Sat.right HS83.out)))))))).2.2.1 (by rw [b8s_length]; exact HFin.out.2.2.1) (b8s_one _) (by unfold maxLen; omega) (by omega) (fun vv W84 hn84 => ?_)
              rw [List.nil_append, Nat.zero_add] at hn84
              obtain ⟨E3, e3, rfl, -, -⟩ := hn84.row_slice
              refine hK _ _ (by first | exact hn84 | exact (Sat.right hn84) | exact (Sat.right (Sat.right hn84)) | exact (Sat.right (Sat.right (Sat.right hn84))) | exact (Sat.right (Sat.right (Sat.right (Sat.right hn84)))) | exact (Sat.right (Sat.right (Sat.right (Sat.right (Sat.right hn84))))) | exact (Sat.right (Sat.right (Sat.right (Sat.right (Sat.right (Sat.right hn84))))))) ?_
              clear hK K
              have HS84 : Aside (Sat E W84 (HP.row 5 1 (.slice E1 128 e1) 128 (b8s x.c.read) * (HP.row 5 1 (.slice E2 128 e2) 128 (b8s x.c.durable) * (HP.row 5 1 (.slice E3 128 e3) 128 (b8s x.c.synced) * (HP.pt CB (.cells #[.slice A0 128 c0, .slice A1 128 c1, .slice A2 128 c2, .slice A3 128 c3, .bool x.c.waits] 90) * (HP.pt G (.cells #[.string nm, .slice VA i vc] 93) * (HP.row 90 5 (.slice VA i vc) i (cs2.flatMap RC.vals) * (HP.pt BF (.cells #[.string nm, .slice (some ⟨gc, oc, none⟩) vn FC] 93) * (HP.rdk O room fuse v2 fs2 L2 * (HP.rdk y room fuse (.slice (some ⟨g, o, none⟩) n cF) fs L * q)))))))))) := ⟨hn84.perm (by ac_rfl)⟩
              clear hn84 HS83
              revert HS84
              revert W84
              revert q4
              revert e3
              revert E3
              revert q3
              revert e2
              revert E2
              revert q2
              revert e1
              revert E1
              revert q1
              exact hsh0.out
          · intro q1 E1 e1 q2 E2 e2 q3 E3 e3 q4 W85 HS85
            refine wpR_keep #[true, true, true, true, true, true, true, true, true, true, true, true, true, true, true, true, true, true, true, true, false, false, false, false, false] (i := 17) rfl (by kernel_rfl) (fun K hK => ?_)
            refine Eq.mpr (if_pos (by rfl)) ?_
            refine wp_append_row (v := .slice (some ⟨q4, 0, none⟩) 0 0) (n := 0) (cs := []) (A := A3) (m := 128) (c := c3) (news := b8s x.c.written) slB8 rfl rfl rfl (HS85.out.row_nil 5 1 _) (HCI.out _ (by first | exact HS85.out | exact (Sat.right HS85.out) | exact (Sat.right (Sat.right HS85.out)) | exact (Sat.right (Sat.right (Sat.right HS85.out))) | exact (Sat.right (Sat.right (Sat.right (Sat.right HS85.out)))) | exact (Sat.right (Sat.right (Sat.right (Sat.right (Sat.right HS85.out))))) | exact (Sat.right (Sat.right (Sat.right (Sat.right (Sat.right (Sat.right HS85.out)))))))).2.2.2 (by rw [b8s_length]; exact HFin.out.2.2.2) (b8s_one _) (by unfold maxLen; omega) (by omega) (fun vv W86 hn86 => ?_)
            rw [List.nil_append, Nat.zero_add] at hn86
            obtain ⟨E4, e4, rfl, -, -⟩ := hn86.row_slice
            refine hK _ _ (by first | exact hn86 | exact (Sat.right hn86) | exact (Sat.right (Sat.right hn86)) | exact (Sat.right (Sat.right (Sat.right hn86))) | exact (Sat.right (Sat.right (Sat.right (Sat.right hn86)))) | exact (Sat.right (Sat.right (Sat.right (Sat.right (Sat.right hn86))))) | exact (Sat.right (Sat.right (Sat.right (Sat.right (Sat.right (Sat.right hn86))))))) ?_
            clear hK K
            have HS86 : Aside (Sat E W86 (HP.row 5 1 (.slice E1 128 e1) 128 (b8s x.c.read) * (HP.row 5 1 (.slice E2 128 e2) 128 (b8s x.c.durable) * (HP.row 5 1 (.slice E3 128 e3) 128 (b8s x.c.synced) * (HP.row 5 1 (.slice E4 128 e4) 128 (b8s x.c.written) * (HP.pt CB (.cells #[.slice A0 128 c0, .slice A1 128 c1, .slice A2 128 c2, .slice A3 128 c3, .bool x.c.waits] 90) * (HP.pt G (.cells #[.string nm, .slice VA i vc] 93) * (HP.row 90 5 (.slice VA i vc) i (cs2.flatMap RC.vals) * (HP.pt BF (.cells #[.string nm, .slice (some ⟨gc, oc, none⟩) vn FC] 93) * (HP.rdk O room fuse v2 fs2 L2 * (HP.rdk y room fuse (.slice (some ⟨g, o, none⟩) n cF) fs L * q))))))))))) := ⟨hn86.perm (by ac_rfl)⟩
            clear hn86 HS85
            refine wpR_rd 20 #[true, true, true, true, true, true, true, true, true, true, true, true, true, true, true, true, true, true, true, true, true, false, false, false, false] rfl onlyN_noPanic (by kernel_rfl) (fun K hK => ?_); (go_simp; try go_bits); refine hK _ ?_; clear hK K
            refine wpR_keep #[true, true, true, true, true, true, true, true, true, true, true, true, true, true, true, true, true, true, true, true, true, true, false, false, false] (i := 21) rfl (by kernel_rfl) (fun K hK => ?_)
            go_simp
            obtain ⟨W87, hW87⟩ : ∃ zz, zz = World.alloc W86 (.cells #[.slice E1 128 e1, .slice E2 128 e2, .slice E3 128 e3, .slice E4 128 e4, .bool x.c.waits] 90) := ⟨_, rfl⟩
            obtain ⟨g21, hg21⟩ : ∃ zz, zz = Array.size (World.heap W86) := ⟨_, rfl⟩
            have hn87 : Sat E W87 (HP.pt g21 (.cells #[.slice E1 128 e1, .slice E2 128 e2, .slice E3 128 e3, .slice E4 128 e4, .bool x.c.waits] 90) * (HP.row 5 1 (.slice E1 128 e1) 128 (b8s x.c.read) * (HP.row 5 1 (.slice E2 128 e2) 128 (b8s x.c.durable) * (HP.row 5 1 (.slice E3 128 e3) 128 (b8s x.c.synced) * (HP.row 5 1 (.slice E4 128 e4) 128 (b8s x.c.written) * (HP.pt CB (.cells #[.slice A0 128 c0, .slice A1 128 c1, .slice A2 128 c2, .slice A3 128 c3, .bool x.c.waits] 90) * (HP.pt G (.cells #[.string nm, .slice VA i vc] 93) * (HP.row 90 5 (.slice VA i vc) i (cs2.flatMap RC.vals) * (HP.pt BF (.cells #[.string nm, .slice (some ⟨gc, oc, none⟩) vn FC] 93) * (HP.rdk O room fuse v2 fs2 L2 * (HP.rdk y room fuse (.slice (some ⟨g, o, none⟩) n cF) fs L * q))))))))))) := by rw [hW87, hg21]; exact (HS86.out.alloc _)
            rw [← hW87, ← hg21]
            refine hK _ _ (by first | exact hn87 | exact (Sat.right hn87) | exact (Sat.right (Sat.right hn87)) | exact (Sat.right (Sat.right (Sat.right hn87))) | exact (Sat.right (Sat.right (Sat.right (Sat.right hn87)))) | exact (Sat.right (Sat.right (Sat.right (Sat.right (Sat.right hn87))))) | exact (Sat.right (Sat.right (Sat.right (Sat.right (Sat.right (Sat.right hn87))))))) ?_
            clear hK K hW87 hg21
            have HS87 : Aside (Sat E W87 (HP.row 5 1 (.slice E1 128 e1) 128 (b8s x.c.read) * (HP.row 5 1 (.slice E2 128 e2) 128 (b8s x.c.durable) * (HP.row 5 1 (.slice E3 128 e3) 128 (b8s x.c.synced) * (HP.row 5 1 (.slice E4 128 e4) 128 (b8s x.c.written) * (HP.pt g21 (.cells #[.slice E1 128 e1, .slice E2 128 e2, .slice E3 128 e3, .slice E4 128 e4, .bool x.c.waits] 90) * (HP.pt CB (.cells #[.slice A0 128 c0, .slice A1 128 c1, .slice A2 128 c2, .slice A3 128 c3, .bool x.c.waits] 90) * (HP.pt G (.cells #[.string nm, .slice VA i vc] 93) * (HP.row 90 5 (.slice VA i vc) i (cs2.flatMap RC.vals) * (HP.pt BF (.cells #[.string nm, .slice (some ⟨gc, oc, none⟩) vn FC] 93) * (HP.rdk O room fuse v2 fs2 L2 * (HP.rdk y room fuse (.slice (some ⟨g, o, none⟩) n cF) fs L * q)))))))))))) := ⟨hn87.perm (by ac_rfl)⟩
            clear hn87 HS86
            refine wpR_eff #[true, true, true, true, true, true, true, true, true, true, true, true, true, true, true, true, true, true, true, true, true, true, true, false, false] (i := 22) rfl (by kernel_rfl) (fun K hK => ?_)
            have hn88a : Sat E W87 (HP.row 90 5 (.slice VA i vc) i (cs2.flatMap RC.vals) * (HP.pt g21 (.cells #[.slice E1 128 e1, .slice E2 128 e2, .slice E3 128 e3, .slice E4 128 e4, .bool x.c.waits] 90) * ((HP.row 5 1 (.slice E1 128 e1) 128 (b8s x.c.read) * (HP.row 5 1 (.slice E2 128 e2) 128 (b8s x.c.durable) * (HP.row 5 1 (.slice E3 128 e3) 128 (b8s x.c.synced) * HP.row 5 1 (.slice E4 128 e4) 128 (b8s x.c.written)))) * (HP.pt CB (.cells #[.slice A0 128 c0, .slice A1 128 c1, .slice A2 128 c2, .slice A3 128 c3, .bool x.c.waits] 90) * (HP.pt G (.cells #[.string nm, .slice VA i vc] 93) * (HP.pt BF (.cells #[.string nm, .slice (some ⟨gc, oc, none⟩) vn FC] 93) * (HP.rdk O room fuse v2 fs2 L2 * (HP.rdk y room fuse (.slice (some ⟨g, o, none⟩) n cF) fs L * q)))))))) := HS87.out.perm (by ac_rfl)
            refine Eq.mpr (if_pos (by rfl)) ?_
            refine wp_append_row (v := .slice VA i vc) (n := i) (cs := cs2.flatMap RC.vals) (A := some ⟨g21, 0, none⟩) (m := 1) (c := 1) (news := (⟨x.c, .slice E1 128 e1, .slice E2 128 e2, .slice E3 128 e3, .slice E4 128 e4⟩ : RC).vals) slCl rfl rfl rfl hn88a hn88a.s2.pt_cells rfl rfl (by unfold maxLen; omega) (by omega) (fun v22 W88 hn88b => ?_)
            obtain ⟨V22, c22, rfl, -, -⟩ := hn88b.row_slice
            have hn88c := hn88b.drop2
            have hn88 : Sat E W88 (HP.row 5 1 (.slice E1 128 e1) 128 (b8s x.c.read) * (HP.row 5 1 (.slice E2 128 e2) 128 (b8s x.c.durable) * (HP.row 5 1 (.slice E3 128 e3) 128 (b8s x.c.synced) * (HP.row 5 1 (.slice E4 128 e4) 128 (b8s x.c.written) * (HP.pt CB (.cells #[.slice A0 128 c0, .slice A1 128 c1, .slice A2 128 c2, .slice A3 128 c3, .bool x.c.waits] 90) * (HP.pt G (.cells #[.string nm, .slice VA i vc] 93) * (HP.row 90 5 (.slice V22 (i + 1) c22) (i + 1) (cs2.flatMap RC.vals ++ (⟨x.c, .slice E1 128 e1, .slice E2 128 e2, .slice E3 128 e3, .slice E4 128 e4⟩ : RC).vals) * (HP.pt BF (.cells #[.string nm, .slice (some ⟨gc, oc, none⟩) vn FC] 93) * (HP.rdk O room fuse v2 fs2 L2 * (HP.rdk y room fuse (.slice (some ⟨g, o, none⟩) n cF) fs L * q)))))))))) := hn88c.perm (by ac_rfl)
            refine hK _ _ ?_
            clear hK K hn88a hn88b hn88c
            have HS88 : Aside (Sat E W88 (HP.row 5 1 (.slice E1 128 e1) 128 (b8s x.c.read) * (HP.row 5 1 (.slice E2 128 e2) 128 (b8s x.c.durable) * (HP.row 5 1 (.slice E3 128 e3) 128 (b8s x.c.synced) * (HP.row 5 1 (.slice E4 128 e4) 128 (b8s x.c.written) * (HP.pt CB (.cells #[.slice A0 128 c0, .slice A1 128 c1, .slice A2 128 c2, .slice A3 128 c3, .bool x.c.waits] 90) * (HP.pt G (.cells #[.string nm, .slice VA i vc] 93) * (HP.row 90 5 (.slice V22 (i + 1) c22) (i + 1) (cs2.flatMap RC.vals ++ (⟨x.c, .slice E1 128 e1, .slice E2 128 e2, .slice E3 128 e3, .slice E4 128 e4⟩ : RC).vals) * (HP.pt BF (.cells #[.string nm, .slice (some ⟨gc, oc, none⟩) vn FC] 93) * (HP.rdk O room fuse v2 fs2 L2 * (HP.rdk y room fuse (.slice (some ⟨g, o, none⟩) n cF) fs L * q))))))))))) := ⟨hn88.perm (by ac_rfl)⟩
            clear hn88 HS87
            refine wpR_rd 23 #[true, true, true, true, true, true, true, true, true, true, true, true, true, true, true, true, true, true, true, true, true, true, true, true, false] rfl onlyN_noPanic (by kernel_rfl) (fun K hK => ?_); (go_simp; try go_bits); refine hK _ ?_; clear hK K
            refine wpR_eff #[true, true, true, true, true, true, true, true, true, true, true, true, true, true, true, true, true, true, true, true, true, true, true, true, true] (i := 24) rfl (by kernel_rfl) (fun K hK => ?_)
            have hn89a : Sat E W88 (HP.pt G (.cells #[.string nm, .slice VA i vc] 93) * ((HP.row 5 1 (.slice E1 128 e1) 128 (b8s x.c.read) * (HP.row 5 1 (.slice E2 128 e2) 128 (b8s x.c.durable) * (HP.row 5 1 (.slice E3 128 e3) 128 (b8s x.c.synced) * HP.row 5 1 (.slice E4 128 e4) 128 (b8s x.c.written)))) * (HP.pt CB (.cells #[.slice A0 128 c0, .slice A1 128 c1, .slice A2 128 c2, .slice A3 128 c3, .bool x.c.waits] 90) * (HP.row 90 5 (.slice V22 (i + 1) c22) (i + 1) (cs2.flatMap RC.vals ++ (⟨x.c, .slice E1 128 e1, .slice E2 128 e2, .slice E3 128 e3, .slice E4 128 e4⟩ : RC).vals) * (HP.pt BF (.cells #[.string nm, .slice (some ⟨gc, oc, none⟩) vn FC] 93) * (HP.rdk O room fuse v2 fs2 L2 * (HP.rdk y room fuse (.slice (some ⟨g, o, none⟩) n cF) fs L * q))))))) := HS88.out.perm (by ac_rfl)
            have t9 := hn89a.cell 1
            simp only [List.getElem?_toArray, List.getElem?_cons_zero, List.getElem?_cons_succ] at t9
            have z9 := hn89a.thaw 1
            have hn89b := hn89a.set (i := 1) (.slice V22 (i + 1) c22)
            simp only [List.setIfInBounds_toArray, List.set_cons_zero, List.set_cons_succ] at hn89b
            go_simp
            obtain ⟨W89, hW89⟩ : ∃ x, x = World.setCell W88 ⟨G, 1, none⟩ (.slice V22 (i + 1) c22) := ⟨_, rfl⟩
            rw [← hW89] at hn89b
            have hn89 : Sat E W89 (HP.row 5 1 (.slice E1 128 e1) 128 (b8s x.c.read) * (HP.row 5 1 (.slice E2 128 e2) 128 (b8s x.c.durable) * (HP.row 5 1 (.slice E3 128 e3) 128 (b8s x.c.synced) * (HP.row 5 1 (.slice E4 128 e4) 128 (b8s x.c.written) * (HP.pt CB (.cells #[.slice A0 128 c0, .slice A1 128 c1, .slice A2 128 c2, .slice A3 128 c3, .bool x.c.waits] 90) * (HP.pt G (.cells #[.string nm, .slice V22 (i + 1) c22] 93) * (HP.row 90 5 (.slice V22 (i + 1) c22) (i + 1) (cs2.flatMap RC.vals ++ (⟨x.c, .slice E1 128 e1, .slice E2 128 e2, .slice E3 128 e3, .slice E4 128 e4⟩ : RC).vals) * (HP.pt BF (.cells #[.string nm, .slice (some ⟨gc, oc, none⟩) vn FC] 93) * (HP.rdk O room fuse v2 fs2 L2 * (HP.rdk y room fuse (.slice (some ⟨g, o, none⟩) n cF) fs L * q)))))))))) := hn89b.perm (by ac_rfl)
            rw [← hW89]
            refine hK _ _ ?_
            clear hK K hW89 t9 z9 hn89a hn89b
            have HS89 : Aside (Sat E W89 (HP.row 5 1 (.slice E1 128 e1) 128 (b8s x.c.read) * (HP.row 5 1 (.slice E2 128 e2) 128 (b8s x.c.durable) * (HP.row 5 1 (.slice E3 128 e3) 128 (b8s x.c.synced) * (HP.row 5 1 (.slice E4 128 e4) 128 (b8s x.c.written) * (HP.pt CB (.cells #[.slice A0 128 c0, .slice A1 128 c1, .slice A2 128 c2, .slice A3 128 c3, .bool x.c.waits] 90) * (HP.pt G (.cells #[.string nm, .slice V22 (i + 1) c22] 93) * (HP.row 90 5 (.slice V22 (i + 1) c22) (i + 1) (cs2.flatMap RC.vals ++ (⟨x.c, .slice E1 128 e1, .slice E2 128 e2, .slice E3 128 e3, .slice E4 128 e4⟩ : RC).vals) * (HP.pt BF (.cells #[.string nm, .slice (some ⟨gc, oc, none⟩) vn FC] 93) * (HP.rdk O room fuse v2 fs2 L2 * (HP.rdk y room fuse (.slice (some ⟨g, o, none⟩) n cF) fs L * q))))))))))) := ⟨hn89.perm (by ac_rfl)⟩
            clear hn89 HS88
            refine wpR_done (by kernel_rfl) ?_ _
            simp only [OnlyN]
            have HS9 : Aside (Sat E W89 (HP.pt G (.cells #[.string nm, .slice V22 (i + 1) c22] 93) * (HP.row 90 5 (.slice V22 (i + 1) c22) (i + 1) (cs2.flatMap RC.vals ++ (⟨x.c, .slice E1 128 e1, .slice E2 128 e2, .slice E3 128 e3, .slice E4 128 e4⟩ : RC).vals) * (HP.pt BF (.cells #[.string nm, .slice (some ⟨gc, oc, none⟩) vn FC] 93) * (HP.rdk O room fuse v2 fs2 ((.slice E1 128 e1, x.c.read) :: (.slice E2 128 e2, x.c.durable) :: (.slice E3 128 e3, x.c.synced) :: (.slice E4 128 e4, x.c.written) :: L2) * (HP.rdk y room fuse (.slice (some ⟨g, o, none⟩) n cF) fs L * q)))))) := ⟨by
              have h1 : Sat E W89 (HP.rdk O room fuse v2 fs2 L2 * (HP.row 5 1 (.slice E4 128 e4) 128 (b8s x.c.written) * (HP.row 5 1 (.slice E3 128 e3) 128 (b8s x.c.synced) * (HP.row 5 1 (.slice E2 128 e2) 128 (b8s x.c.durable) * (HP.row 5 1 (.slice E1 128 e1) 128 (b8s x.c.read) * (HP.pt CB (.cells #[.slice A0 128 c0, .slice A1 128 c1, .slice A2 128 c2, .slice A3 128 c3, .bool x.c.waits] 90) * (HP.pt G (.cells #[.string nm, .slice V22 (i + 1) c22] 93) * (HP.row 90 5 (.slice V22 (i + 1) c22) (i + 1) (cs2.flatMap RC.vals ++ (⟨x.c, .slice E1 128 e1, .slice E2 128 e2, .slice E3 128 e3, .slice E4 128 e4⟩ : RC).vals) * (HP.pt BF (.cells #[.string nm, .slice (some ⟨gc, oc, none⟩) vn FC] 93) * (HP.rdk y room fuse (.slice (some ⟨g, o, none⟩) n cF) fs L * q)))))))))) := HS89.out.perm (by ac_rfl)
              have h2 := copy_imgs h1
              have h3 : Sat E W89 (HP.pt CB (.cells #[.slice A0 128 c0, .slice A1 128 c1, .slice A2 128 c2, .slice A3 128 c3, .bool x.c.waits] 90) * (HP.pt G (.cells #[.string nm, .slice V22 (i + 1) c22] 93) * (HP.row 90 5 (.slice V22 (i + 1) c22) (i + 1) (cs2.flatMap RC.vals ++ (⟨x.c, .slice E1 128 e1, .slice E2 128 e2, .slice E3 128 e3, .slice E4 128 e4⟩ : RC).vals) * (HP.pt BF (.cells #[.string nm, .slice (some ⟨gc, oc, none⟩) vn FC] 93) * (HP.rdk O room fuse v2 fs2 ((.slice E1 128 e1, x.c.read) :: (.slice E2 128 e2, x.c.durable) :: (.slice E3 128 e3, x.c.synced) :: (.slice E4 128 e4, x.c.written) :: L2) * (HP.rdk y room fuse (.slice (some ⟨g, o, none⟩) n cF) fs L * q)))))) := h2.perm (by ac_rfl)
              exact h3.right⟩
            clear HS89
            have hmn : ∀ z ∈ L2, z ∈ ((.slice E1 128 e1, x.c.read) :: (.slice E2 128 e2, x.c.durable) :: (.slice E3 128 e3, x.c.synced) :: (.slice E4 128 e4, x.c.written) :: L2) := fun z hz => List.mem_cons_of_mem _ (List.mem_cons_of_mem _ (List.mem_cons_of_mem _ (List.mem_cons_of_mem _ hz)))
            have HCC2 : Aside (CpC l (i + 1) (cs2 ++ [(⟨x.c, .slice E1 128 e1, .slice E2 128 e2, .slice E3 128 e3, .slice E4 128 e4⟩ : RC)]) ((.slice E1 128 e1, x.c.read) :: (.slice E2 128 e2, x.c.durable) :: (.slice E3 128 e3, x.c.synced) :: (.slice E4 128 e4, x.c.written) :: L2)) := ⟨HCC.out.push (x := (⟨x.c, .slice E1 128 e1, .slice E2 128 e2, .slice E3 128 e3, .slice E4 128 e4⟩ : RC)) HX.out.2.2 hmn ⟨List.mem_cons_self .., List.mem_cons_of_mem _ (List.mem_cons_self ..), List.mem_cons_of_mem _ (List.mem_cons_of_mem _ (List.mem_cons_self ..)), List.mem_cons_of_mem _ (List.mem_cons_of_mem _ (List.mem_cons_of_mem _ (List.mem_cons_self ..)))⟩⟩
            have HCR2 := Aside.mk (HCR.out.mono hmn)
            have HR9 : Aside (Sat E W89 (HP.pt G (.cells #[.string nm, .slice V22 (i + 1) c22] 93) * (HP.row 90 5 (.slice V22 (i + 1) c22) (i + 1) ((cs2 ++ [(⟨x.c, .slice E1 128 e1, .slice E2 128 e2, .slice E3 128 e3, .slice E4 128 e4⟩ : RC)]).flatMap RC.vals) * (HP.pt BF (.cells #[.string nm, .slice (some ⟨gc, oc, none⟩) vn FC] 93) * (HP.rdk O room fuse v2 fs2 ((.slice E1 128 e1, x.c.read) :: (.slice E2 128 e2, x.c.durable) :: (.slice E3 128 e3, x.c.synced) :: (.slice E4 128 e4, x.c.written) :: L2) * (HP.rdk y room fuse (.slice (some ⟨g, o, none⟩) n cF) fs L * q)))))) := ⟨by rw [List.flatMap_append]; exact HS9.out⟩
            clear HS9 hmn
            go_wp2
            go_roundw
            case rel => exact ⟨i + 1, _, _, _, _, by omega, by go_num, HCC2, HCR2, HR9⟩
            case measure => simp [intOf]; omega
        · obtain rfl : i = vn := by omega
          have HCR3 : Aside (CpR A (k + 1) (fs2 ++ [⟨nm, .slice VA i vc, cs2⟩]) L2) := ⟨HCR.out.push HKA.out HCC.out HLL.out.symm _⟩
          have HK3 : Aside (k + 1 = (fs2 ++ [(⟨nm, .slice VA i vc, cs2⟩ : RF)]).length) := ⟨by rw [List.length_append, ← HK2.out]; rfl⟩
          have HCI2 : Aside (i = cs2.length) := ⟨(HCC.out.len (by rw [HLL.out]; exact Nat.le_refl _)).symm⟩
          have hro := HI.out.right.right.right.rdk_parts
          rw [← HK2.out] at hro
          obtain ⟨OA, oc, rfl, -, -⟩ := hro.s2.row_slice
          clear hro
          have hs9 : Sat E wr (HP.pt G (.cells #[.string nm, .slice VA i vc] 93) * (HP.pt O (.cells #[.int .i64 room, .slice OA k oc, .int .i64 fuse] 96) * (HP.row 93 2 (.slice OA k oc) k (fs2.flatMap RF.vals) * (HP.all (fs2.map HP.rcs) * (HP.imgs L2 * (HP.row 90 5 (.slice VA i vc) i (cs2.flatMap RC.vals) * (HP.rdk y room fuse (.slice (some ⟨g, o, none⟩) n cF) fs L * q))))))) := by
            have h := HI.out
            have h1 : Sat E _ (HP.rdk O room fuse (.slice OA k oc) fs2 L2 * (HP.pt BF (.cells #[.string nm, .slice FV i FC] 93) * (HP.pt G (.cells #[.string nm, .slice VA i vc] 93) * (HP.row 90 5 (.slice VA i vc) i (cs2.flatMap RC.vals) * (HP.rdk y room fuse (.slice (some ⟨g, o, none⟩) n cF) fs L * q))))) := h.perm (by ac_rfl)
            have h2 := h1.rdk_parts
            rw [← HK2.out] at h2
            have h3 : Sat E _ (HP.pt BF (.cells #[.string nm, .slice FV i FC] 93) * (HP.pt G (.cells #[.string nm, .slice VA i vc] 93) * (HP.pt O (.cells #[.int .i64 room, .slice OA k oc, .int .i64 fuse] 96) * (HP.row 93 2 (.slice OA k oc) k (fs2.flatMap RF.vals) * (HP.all (fs2.map HP.rcs) * (HP.imgs L2 * (HP.row 90 5 (.slice VA i vc) i (cs2.flatMap RC.vals) * (HP.rdk y room fuse (.slice (some ⟨g, o, none⟩) n cF) fs L * q)))))))) := h2.perm (by ac_rfl)
            exact h3.right
          have HS := Aside.mk hs9
          have p0 := hs9.cell 0
          have p1 := hs9.cell 1
          simp only [List.getElem?_toArray, List.getElem?_cons_zero, List.getElem?_cons_succ] at p0 p1
          clear hs9 HI HCC HCR
          go_upto_region 11 with fail
          refine region_R [6, 7, 10] [6] (fun W => Sat E W (HP.pt G (.cells #[.string nm, .slice VA i vc] 93) * (HP.pt O (.cells #[.int .i64 room, .slice OA k oc, .int .i64 fuse] 96) * (HP.row 93 2 (.slice OA k oc) k (fs2.flatMap RF.vals) * (HP.all (fs2.map HP.rcs) * (HP.imgs L2 * (HP.row 90 5 (.slice VA i vc) i (cs2.flatMap RC.vals) * (HP.rdk y room fuse (.slice (some ⟨g, o, none⟩) n cF) fs L * q)))))))) #[false, false, false, false, false, false, false, false, false, false, false] (by kernel_rfl) rfl rfl ?_
          have HT : Aside ((fun W => Sat E W (HP.pt G (.cells #[.string nm, .slice VA i vc] 93) * (HP.pt O (.cells #[.int .i64 room, .slice OA k oc, .int .i64 fuse] 96) * (HP.row 93 2 (.slice OA k oc) k (fs2.flatMap RF.vals) * (HP.all (fs2.map HP.rcs) * (HP.imgs L2 * (HP.row 90 5 (.slice VA i vc) i (cs2.flatMap RC.vals) * (HP.rdk y room fuse (.slice (some ⟨g, o, none⟩) n cF) fs L * q)))))))) _) := ⟨HS.out.drew⟩
          refine wpR_pu 0 #[true, false, false, false, false, false, false, false, false, false, false] rfl onlyN_noPanic (by kernel_rfl) (fun K hK => ?_); (go_simp; try go_bits); refine hK _ ?_; clear hK K
          refine wpR_pu 1 #[true, true, false, false, false, false, false, false, false, false, false] rfl onlyN_noPanic (by kernel_rfl) (fun K hK => ?_); (go_simp; try go_bits); refine hK _ ?_; clear hK K
          refine wpR_pu 2 #[true, true, true, false, false, false, false, false, false, false, false] rfl onlyN_noPanic (by kernel_rfl) (fun K hK => ?_); (go_simp; try go_bits); refine hK _ ?_; clear hK K
          refine wpR_pu 3 #[true, true, true, true, false, false, false, false, false, false, false] rfl onlyN_noPanic (by kernel_rfl) (fun K hK => ?_); (go_simp; try go_bits); refine hK _ ?_; clear hK K
          refine wpR_held (i := 4) (v := .slice OA k oc) #[true, true, true, true, true, false, false, false, false, false, false] rfl onlyN_noPanic (by kernel_rfl) HT.out (.inl ⟨rfl, fun w' hT => ?_⟩) ?_
          · have t1 := hT.s2.cell 1; simp only [List.getElem?_toArray, List.getElem?_cons_zero, List.getElem?_cons_succ] at t1; go_simp
          simp only [Act.put, List.setIfInBounds_toArray, List.set_cons_zero, List.set_cons_succ]
          refine wpR_rd 5 #[true, true, true, true, true, true, false, false, false, false, false] rfl onlyN_noPanic (by kernel_rfl) (fun K hK => ?_); (go_simp; try go_bits); refine hK _ ?_; clear hK K
          clear HT
          have HS0 := Aside.mk HS.out.drew
          clear HS
          revert HS0
          generalize World.drew wr = W0
          intro HS0
          refine wpR_keep #[true, true, true, true, true, true, true, false, false, false, false] (i := 6) rfl (by kernel_rfl) (fun K hK => ?_)
          go_simp
          obtain ⟨W1, hW1⟩ : ∃ zz, zz = World.alloc W0 (.cells #[.string nm, .slice VA i vc] 93) := ⟨_, rfl⟩
          obtain ⟨g6, hg6⟩ : ∃ zz, zz = Array.size (World.heap W0) := ⟨_, rfl⟩
          have hn1 : Sat E W1 (HP.pt g6 (.cells #[.string nm, .slice VA i vc] 93) * (HP.pt G (.cells #[.string nm, .slice VA i vc] 93) * (HP.pt O (.cells #[.int .i64 room, .slice OA k oc, .int .i64 fuse] 96) * (HP.row 93 2 (.slice OA k oc) k (fs2.flatMap RF.vals) * (HP.all (fs2.map HP.rcs) * (HP.imgs L2 * (HP.row 90 5 (.slice VA i vc) i (cs2.flatMap RC.vals) * (HP.rdk y room fuse (.slice (some ⟨g, o, none⟩) n cF) fs L * q)))))))) := by rw [hW1, hg6]; exact (HS0.out.alloc _)
          rw [← hW1, ← hg6]
          refine hK _ _ (by first | exact hn1 | exact (Sat.right hn1) | exact (Sat.right (Sat.right hn1)) | exact (Sat.right (Sat.right (Sat.right hn1))) | exact (Sat.right (Sat.right (Sat.right (Sat.right hn1)))) | exact (Sat.right (Sat.right (Sat.right (Sat.right (Sat.right hn1))))) | exact (Sat.right (Sat.right (Sat.right (Sat.right (Sat.right (Sat.right hn1))))))) ?_
          clear hK K hW1 hg6
          have HS1 : Aside (Sat E W1 (HP.pt g6 (.cells #[.string nm, .slice VA i vc] 93) * (HP.pt G (.cells #[.string nm, .slice VA i vc] 93) * (HP.pt O (.cells #[.int .i64 room, .slice OA k oc, .int .i64 fuse] 96) * (HP.row 93 2 (.slice OA k oc) k (fs2.flatMap RF.vals) * (HP.all (fs2.map HP.rcs) * (HP.imgs L2 * (HP.row 90 5 (.slice VA i vc) i (cs2.flatMap RC.vals) * (HP.rdk y room fuse (.slice (some ⟨g, o, none⟩) n cF) fs L * q))))))))) := ⟨hn1.perm (by ac_rfl)⟩
          clear hn1
          refine wpR_eff #[true, true, true, true, true, true, true, true, false, false, false] (i := 7) rfl (by kernel_rfl) (fun K hK => ?_)
          have hn2a : Sat E W1 (HP.row 93 2 (.slice OA k oc) k (fs2.flatMap RF.vals) * (HP.pt g6 (.cells #[.string nm, .slice VA i vc] 93) * (HP.pt G (.cells #[.string nm, .slice VA i vc] 93) * (HP.pt O (.cells #[.int .i64 room, .slice OA k oc, .int .i64 fuse] 96) * (HP.all (fs2.map HP.rcs) * (HP.imgs L2 * (HP.row 90 5 (.slice VA i vc) i (cs2.flatMap RC.vals) * (HP.rdk y room fuse (.slice (some ⟨g, o, none⟩) n cF) fs L * q)))))))) := HS1.out.perm (by ac_rfl)
          refine Eq.mpr (if_pos (by rfl)) ?_
          refine wp_append_row (v := .slice OA k oc) (n := k) (cs := fs2.flatMap RF.vals) (A := some ⟨g6, 0, none⟩) (m := 1) (c := 1) (news := [.string nm, .slice VA i vc]) slFi rfl rfl rfl hn2a hn2a.s2.pt_cells rfl rfl (by unfold maxLen; omega) (by omega) (fun v7 W2 hn2b => ?_)
          obtain ⟨V7, c7, rfl, -, -⟩ := hn2b.row_slice
          have hn2c := hn2b.drop2
          have hn2 : Sat E W2 (HP.pt G (.cells #[.string nm, .slice VA i vc] 93) * (HP.pt O (.cells #[.int .i64 room, .slice OA k oc, .int .i64 fuse] 96) * (HP.row 93 2 (.slice V7 (k + 1) c7) (k + 1) (fs2.flatMap RF.vals ++ [.string nm, .slice VA i vc]) * (HP.all (fs2.map HP.rcs) * (HP.imgs L2 * (HP.row 90 5 (.slice VA i vc) i (cs2.flatMap RC.vals) * (HP.rdk y room fuse (.slice (some ⟨g, o, none⟩) n cF) fs L * q))))))) := hn2c.perm (by ac_rfl)
          refine hK _ _ ?_
          clear hK K hn2a hn2b hn2c
          have HS2 : Aside (Sat E W2 (HP.pt G (.cells #[.string nm, .slice VA i vc] 93) * (HP.pt O (.cells #[.int .i64 room, .slice OA k oc, .int .i64 fuse] 96) * (HP.row 93 2 (.slice V7 (k + 1) c7) (k + 1) (fs2.flatMap RF.vals ++ [.string nm, .slice VA i vc]) * (HP.all (fs2.map HP.rcs) * (HP.imgs L2 * (HP.row 90 5 (.slice VA i vc) i (cs2.flatMap RC.vals) * (HP.rdk y room fuse (.slice (some ⟨g, o, none⟩) n cF) fs L * q)))))))) := ⟨hn2.perm (by ac_rfl)⟩
          clear hn2 HS1
          refine wpR_rd 8 #[true, true, true, true, true, true, true, true, true, false, false] rfl onlyN_noPanic (by kernel_rfl) (fun K hK => ?_); (go_simp; try go_bits); refine hK _ ?_; clear hK K
          refine wpR_rd 9 #[true, true, true, true, true, true, true, true, true, true, false] rfl onlyN_noPanic (by kernel_rfl) (fun K hK => ?_); (go_simp; try go_bits); refine hK _ ?_; clear hK K
          refine wpR_eff #[true, true, true, true, true, true, true, true, true, true, true] (i := 10) rfl (by kernel_rfl) (fun K hK => ?_)
          have hn3a : Sat E W2 (HP.row 93 2 (.slice V7 (k + 1) c7) (k + 1) (fs2.flatMap RF.vals ++ [.string nm, .slice VA i vc]) * (HP.pt O (.cells #[.int .i64 room, .slice OA k oc, .int .i64 fuse] 96) * (HP.all (fs2.map HP.rcs) * (HP.imgs L2 * (HP.row 90 5 (.slice VA i vc) i (cs2.flatMap RC.vals) * (HP.pt G (.cells #[.string nm, .slice VA i vc] 93) * (HP.rdk y room fuse (.slice (some ⟨g, o, none⟩) n cF) fs L * q))))))) := HS2.out.perm (by ac_rfl)
          have t9 := hn3a.s2.cell 1
          simp only [List.getElem?_toArray, List.getElem?_cons_zero, List.getElem?_cons_succ] at t9
          have z9 := hn3a.s2.thaw 1
          have hn3b := hn3a.rdk_push HK2.out HCI2.out
          go_simp
          obtain ⟨W3, hW3⟩ : ∃ x, x = World.setCell W2 ⟨O, 1, none⟩ (.slice V7 (k + 1) c7) := ⟨_, rfl⟩
          rw [← hW3] at hn3b
          have hn3 := hn3b
          rw [← hW3]
          refine hK _ _ ?_
          clear hK K hW3 t9 z9 hn3a hn3b
          have HS3 : Aside (Sat E W3 (HP.rdk O room fuse (.slice V7 (k + 1) c7) (fs2 ++ [⟨nm, .slice VA i vc, cs2⟩]) L2 * (HP.pt G (.cells #[.string nm, .slice VA i vc] 93) * (HP.rdk y room fuse (.slice (some ⟨g, o, none⟩) n cF) fs L * q)))) := ⟨hn3.perm (by ac_rfl)⟩
          clear hn3 HS2
          refine wpR_done (by kernel_rfl) ?_ _
          simp only [OnlyN]
          have HS9 : Aside (Sat E W3 (HP.rdk O room fuse (.slice V7 (k + 1) c7) (fs2 ++ [⟨nm, .slice VA i vc, cs2⟩]) L2 * (HP.rdk y room fuse (.slice (some ⟨g, o, none⟩) n cF) fs L * q))) := ⟨HS3.out.drop2⟩
          clear HS3
          go_wp2
          go_roundw
          case rel => exact ⟨k + 1, _, _, _, by omega, by go_num, HCR3, HK3, HS9⟩
          case measure => simp [intOf]; omega
    · obtain rfl : k = n := by omega
      go_wp2
      go_ret
      refine ⟨O, rfl, ?_⟩
      have h1 := HS.out
      have hcr := HCR.out
      rw [HFR.out.1, HFR.out.2] at h1
      have hcv : RView A fs2 L2 := CpR.view HV.out.fine (by rw [← HNA.out]; exact hcr)
      exact Sat.rdisk_close hcv ((Sat.rdisk_close HV.out (h1.perm (HP.left_comm _ _ _))).perm (HP.left_comm _ _ _))
end Go.Proofs.Ytjlfhfknnpjikaa

