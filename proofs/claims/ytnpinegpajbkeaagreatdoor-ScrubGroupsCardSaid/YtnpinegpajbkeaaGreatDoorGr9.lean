/- Texts of one claim, one behind the other: RefK3, WhP, RefL3, RefN3, RefO3, RefP3. -/
import Derived.Test.YtnpinegpajbkeaaGreatDoorGr8
import Derived.Laws.Bits64
set_option linter.unusedSimpArgs false
set_option linter.unusedVariables false
namespace Go.Proofs.YtnpinegpajbkeaaGreatDoor
open Go.RowKit HP
def syL (l : List Cel) (i : Nat) : List Cel := (l.take i).map Cel.syncd ++ l.drop i
theorem syL_step {l : List Cel} {i : Nat} {c : Cel} (h : l[i]? = some c) : (syL l i)[i]? = some c ∧ (syL l i).set i c.syncd = syL l (i + 1) := by
  obtain ⟨hi, rfl⟩ := List.getElem?_eq_some_iff.1 h
  have hlen : ((l.take i).map Cel.syncd).length = i := by simp; omega
  unfold syL
  constructor
  · rw [List.getElem?_append_right (by omega), hlen, Nat.sub_self, List.getElem?_drop, Nat.add_zero, h]
  · rw [List.set_append_right _ _ (by omega), hlen, Nat.sub_self, List.drop_eq_getElem_cons hi, List.set_cons_zero, List.take_succ_eq_append_getElem hi, List.map_append, List.append_assoc]
    rfl
theorem sync_push {E : Env} {w : World} {q R : HP} {y : Nat} {room fuse : Int} {v v1 v2 v3 : Value} {b : List Int} {fs : List RF} {L : List (Value × List Int)} (h : Sat E w (HP.rdk y room fuse v fs L * ((HP.row 5 1 v3 128 (b8s b) * (HP.row 5 1 v2 128 (b8s b) * HP.row 5 1 v1 128 (b8s b))) * (R * q)))) :
    Sat E w (R * (HP.rdk y room fuse v fs ((v1, b) :: (v2, b) :: (v3, b) :: L) * q)) := by
  have h1 : Sat E w (HP.rdk y room fuse v fs L * (HP.row 5 1 v3 128 (b8s b) * (HP.row 5 1 v2 128 (b8s b) * (HP.row 5 1 v1 128 (b8s b) * (R * q))))) := h.perm (by ac_rfl)
  have h2 := Sat.rdk_imgs_in (z := (v3, b)) h1
  have h3 := Sat.rdk_imgs_in (z := (v2, b)) h2
  have h4 := Sat.rdk_imgs_in (z := (v1, b)) h3
  exact h4.perm (by ac_rfl)
structure SyR (A : Dk) (name : ByteArray) (k : Nat) (l : List Cel) (VA : Option Addr) (vn VC i : Nat) (fs' : List RF) (L' : List (Value × List Int)) (f' : RF) : Prop where
  at_ : fs'[k]? = some f'
  nm : f'.name = name
  val : f'.val = .slice VA vn VC
  len : f'.cs.length = vn
  cels : f'.cs.map (·.c) = syL l i
  view : RView { A.burnt with files := A.files.set k (name, syL l i) } fs' L'
theorem sync_step {A : Dk} {name : ByteArray} {k : Nat} {l : List Cel} {VA : Option Addr} {vn VC i c3 e1 e2 e3 : Nat} {fs' : List RF} {L' : List (Value × List Int)} {f' : RF} {x : RC} {A3 E1 E2 E3 : Option Addr} (HR : SyR A name k l VA vn VC i fs' L' f') (hx : f'.cs[i]? = some x) (hl : l[i]? = some x.c) (hi : i < f'.cs.length) (hw : x.c.waits = true) (hf : x.c.Fine) (hin : x.In L') (h3 : x.vw = .slice A3 128 c3) (hkA : A.files[k]? = some (name, l)) :
    SyR A name k l VA vn VC (i + 1) (setRC fs' k i (⟨⟨x.c.written, x.c.written, x.c.written, x.c.written, false⟩, .slice A3 128 c3, .slice E1 128 e1, .slice E2 128 e2, .slice E3 128 e3⟩ : RC)) ((.slice E1 128 e1, x.c.written) :: (.slice E2 128 e2, x.c.written) :: (.slice E3 128 e3, x.c.written) :: L') { f' with cs := f'.cs.set i (⟨⟨x.c.written, x.c.written, x.c.written, x.c.written, false⟩, .slice A3 128 c3, .slice E1 128 e1, .slice E2 128 e2, .slice E3 128 e3⟩ : RC) } := by
  obtain ⟨X, hX⟩ : ∃ X : RC, X = ⟨⟨x.c.written, x.c.written, x.c.written, x.c.written, false⟩, .slice A3 128 c3, .slice E1 128 e1, .slice E2 128 e2, .slice E3 128 e3⟩ := ⟨_, rfl⟩
  have hXc : X.c = x.c.syncd := by rw [hX]; unfold Cel.syncd; rw [hw]; rfl
  rw [← hX]
  have hcels : (f'.cs.set i X).map (·.c) = syL l (i + 1) := by
    rw [List.map_set, HR.cels, hXc]
    exact (syL_step hl).2
  refine ⟨(setRC_at HR.at_ hi).1, HR.nm, HR.val, by rw [← HR.len]; exact List.length_set, hcels, ?_⟩
  have hv := HR.view.setRC HR.at_ hx (x' := X) (L' := (.slice E1 128 e1, x.c.written) :: (.slice E2 128 e2, x.c.written) :: (.slice E3 128 e3, x.c.written) :: L') (fun z hz => List.mem_cons_of_mem _ (List.mem_cons_of_mem _ (List.mem_cons_of_mem _ hz))) (by
    rw [hX]
    refine ⟨?_, List.mem_cons_self .., List.mem_cons_of_mem _ (List.mem_cons_self ..), List.mem_cons_of_mem _ (List.mem_cons_of_mem _ (List.mem_cons_self ..))⟩
    have := hin.2.2.2
    rw [h3] at this
    exact List.mem_cons_of_mem _ (List.mem_cons_of_mem _ (List.mem_cons_of_mem _ this))) (by rw [hX]; exact ⟨hf.2.2.2, hf.2.2.2, hf.2.2.2, hf.2.2.2⟩)
  have hlt : k < A.files.length := (List.getElem?_eq_some_iff.1 hkA).1
  have e : (({ A.burnt with files := A.files.set k (name, syL l i) } : Dk).set f'.name ((f'.cs.map (·.c)).set i X.c)) = { A.burnt with files := A.files.set k (name, syL l (i + 1)) } := by
    unfold Dk.set
    dsimp only
    rw [HR.nm, putF_at (k := k) (u := syL l i) HR.view.fine.sorted (by simp [hlt]), List.set_set, HR.cels, hXc, (syL_step hl).2]
  rw [e] at hv
  exact hv
set_option maxHeartbeats 8000000 in
set_option maxRecDepth 100000 in
theorem ref_sync (E : Env) (q : HP) (y : Nat) (A : Dk) (name : ByteArray) (w : World) (hw : Sat E w (HP.rdisk y A * q)) :
    Calls Tryz.prog 69 #[.pointer (some ⟨y, 0, none⟩), .string name] w fun e w' => e = .returned (.int .i64 (A.sync name).1) ∧ Sat E w' (HP.rdisk y (A.sync name).2 * q) := by
  obtain ⟨v, fs, L, hv, hk⟩ := hw.rdisk_open
  clear hw
  obtain ⟨FA, cF, rfl, hcF, hcM⟩ := hk.rdk_parts.s2.row_slice
  obtain ⟨n, hn⟩ : ∃ n, n = fs.length := ⟨_, rfl⟩
  have hfl := hv.flen
  rw [← hn] at hcF hk hfl
  have HN := Aside.mk hn
  have HW := Aside.mk hk
  clear hn hk
  obtain ⟨AR, hAR⟩ : ∃ AR, AR = A.sync name := ⟨_, rfl⟩
  rw [← hAR]
  have HPl := Aside.mk (ref_place E q y A.room A.fuse (.slice FA n cF) fs L name w (by rw [← HN.out]; exact hfl) HW.out)
  rcases plI_cases fs name with ⟨k, f, h1, h2, h3, h4⟩ | ⟨h1, h2⟩
  · rw [h1] at HPl
    have hkA : A.files[k]? = some (name, f.cs.map (·.c)) := by rw [← hv.same, List.getElem?_map, h2, ← h3]; rfl
    have hlk : lk A.files name = some (f.cs.map (·.c)) := lk_first hv.fine.sorted hkA
    have HV := Aside.mk hv
    have HF := Aside.mk (And.intro h2 h3)
    have HKA := Aside.mk hkA
    have hk0 : (0 : Int) ≤ (k : Int) := by omega
    have hkn : k < n := by rw [HN.out]; exact (List.getElem?_eq_some_iff.1 h2).1
    have hk1 : (k : Int) < (n : Int) := by omega
    cases hg : A.goes with
    | false =>
      have HA : Aside (AR = (31, A.burnt)) := ⟨by rw [hAR]; unfold Dk.sync; rw [hlk]; simp [hg]⟩
      have HG := Aside.mk hg
      clear hv h1 h2 h3 h4 hkA hlk hAR hg
      go_enter Tryz.func69, Tryz.ntmps69
      go_wp2_with fail
      refine HPl.out.mono ?_
      rintro e w1 ⟨rfl, h1⟩
      have HS := Aside.mk h1
      clear h1
      go_wp2_with fail
      refine (ref_stops E q y A _ fs L _ HV.out.fine.fuse HS.out).mono ?_
      rw [HG.out]
      rintro e w2 ⟨rfl, h2⟩
      have HS2 := Aside.mk h2
      clear h2 HS
      go_wp2
      go_ret
      rw [HA.out]
      exact ⟨rfl, Sat.rdisk_close (A := A.burnt) HV.out.burnt HS2.out⟩
    | true =>
      have HA : Aside (AR = (0, A.burnt.set name ((f.cs.map (·.c)).map Cel.syncd))) := ⟨by rw [hAR]; unfold Dk.sync; rw [hlk]; simp [hg]⟩
      have HG := Aside.mk hg
      clear hv h1 h2 h3 h4 hkA hlk hAR hg
      go_enter Tryz.func69, Tryz.ntmps69
      go_wp2_with fail
      refine HPl.out.mono ?_
      rintro e w1 ⟨rfl, h1⟩
      have HS := Aside.mk h1
      clear h1
      go_wp2_with fail
      refine (ref_stops E q y A _ fs L _ HV.out.fine.fuse HS.out).mono ?_
      rw [HG.out]
      rintro e w2 ⟨rfl, h2⟩
      have HS2 := Aside.mk h2
      clear h2 HS HW HPl
      obtain ⟨fuse, hfu⟩ : ∃ fuse, fuse = A.burnt.fuse := ⟨_, rfl⟩
      obtain ⟨room, hro⟩ : ∃ room, room = A.room := ⟨_, rfl⟩
      rw [← hfu, ← hro] at HS2
      have HFR := Aside.mk (And.intro hfu hro)
      clear hfu hro
      obtain ⟨g, o, VA, VC, rfl, hval, hvc, c0, c1⟩ := HS2.out.rf_at HN.out HF.out.1
      obtain ⟨vn, hvn⟩ : ∃ vn, vn = f.cs.length := ⟨_, rfl⟩
      rw [← hvn] at hval c1 hvc
      have hvs : vn ≤ 100000 := by
        have := at_small HV.out.fine name
        have e : A.at name = f.cs.map (·.c) := by unfold Dk.at; rw [lk_first HV.out.fine.sorted HKA.out]; rfl
        rw [e, List.length_map] at this
        omega
      obtain ⟨l, hl⟩ : ∃ l, l = f.cs.map (·.c) := ⟨_, rfl⟩
      rw [← hl] at HA HKA
      have HR0 : Aside (SyR A name k l VA vn VC 0 fs L f) := ⟨⟨HF.out.1, HF.out.2, hval, hvn.symm, by rw [hl]; simp [syL], by
        have h := HV.out.burnt
        have e : A.files.set k (name, syL l 0) = A.files := set_self (by rw [HKA.out]; simp [syL])
        rw [e]; exact h⟩⟩
      have hll : l.length = vn := by rw [hl, List.length_map, hvn]
      have HLL := Aside.mk hll
      have y1 := HS2.out.rdk_parts.cell 1
      simp only [List.getElem?_toArray, List.getElem?_cons_zero, List.getElem?_cons_succ] at y1
      clear hl hval hvn hll c0
      go_wp2
      go_loopw [24] (fun v24 wr => ∃ (i : Nat) (fs' : List RF) (L' : List (Value × List Int)) (f' : RF), i ≤ vn ∧ v24 = .int .i64 i ∧ Aside (SyR A name k l VA vn VC i fs' L' f') ∧ Aside (n = fs'.length) ∧ Aside (Sat E wr (HP.rdk y room fuse (.slice (some ⟨g, o, none⟩) n cF) fs' L' * q))) (fun i _ => vn - (intOf i).toNat)
      case atStart => exact ⟨0, fs, L, f, Nat.zero_le _, rfl, HR0, HN, HS2⟩
      case round =>
        clear HS2 HR0 y1 c1
        obtain ⟨i, fs', L', f', hi, rfl, HR, HN2, HS2⟩ := hrel
        by_cases hlt : i < vn
        · have hlt2 : (i : Int) < (vn : Int) := by omega
          have hi0 : (0 : Int) ≤ (i : Int) := by omega
          obtain ⟨x, hx⟩ : ∃ x, f'.cs[i]? = some x := ⟨_, List.getElem?_eq_getElem (by rw [HR.out.len]; exact hlt)⟩
          have hxl : l[i]? = some x.c := by
            have h := congrArg (fun l => l[i]?) HR.out.cels
            simp only [List.getElem?_map, hx, Option.map_some] at h
            obtain ⟨c, hc⟩ : ∃ c, l[i]? = some c := ⟨_, List.getElem?_eq_getElem (by rw [HLL.out]; exact hlt)⟩
            rw [(syL_step hc).1] at h
            cases h; exact hc
          have hval := HR.out.val
          have HF := Aside.mk (And.intro HR.out.at_ (And.intro hval hx))
          have hin := HR.out.view.imgs f' (List.mem_of_getElem? HR.out.at_) x (List.mem_of_getElem? hx)
          have hfin : x.c.Fine := by
            have hm : (f'.name, f'.cs.map (·.c)) ∈ A.files.set k (name, syL l i) := by
              have h : (f'.name, f'.cs.map (·.c)) ∈ fs'.map fun f => (f.name, f.cs.map (·.c)) := List.mem_map.2 ⟨f', List.mem_of_getElem? HR.out.at_, rfl⟩
              rw [HR.out.view.same] at h; exact h
            exact HR.out.view.fine.cels _ hm x.c (List.mem_map.2 ⟨x, List.mem_of_getElem? hx, rfl⟩)
          have HIN := Aside.mk (And.intro hin (And.intro hfin hxl))
          obtain ⟨gc, oc, rfl, x0, x1, x2, x3, x4⟩ := HS2.out.rc_at HR.out.at_ hval hx
          obtain ⟨A0, c0, e0, -, -, -⟩ := HS2.out.rdk_imgs.img hin.1
          obtain ⟨A1, c1, e1, -, -, -⟩ := HS2.out.rdk_imgs.img hin.2.1
          obtain ⟨A2, c2, e2, -, -, -⟩ := HS2.out.rdk_imgs.img hin.2.2.1
          obtain ⟨A3, c3, e3, hc3, hm3, -⟩ := HS2.out.rdk_imgs.img hin.2.2.2
          rw [e0] at x0
          rw [e1] at x1
          rw [e2] at x2
          rw [e3] at x3
          have hlt5 : i < f'.cs.length := by rw [HR.out.len]; exact hlt
          have hltA := Aside.mk hlt5
          have hlen : Aside (x.c.written.length = 128) := ⟨hfin.2.2.2⟩
          have HB := Aside.mk (HS2.out.alloc (.cells #[.slice A0 128 c0, .slice A1 128 c1, .slice A2 128 c2, .slice A3 128 c3, .bool x.c.waits] 176))
          have HE3 := Aside.mk e3
          clear hval hx hxl hin hfin hlt5 e0 e1 e2 e3
          cases hwt : x.c.waits with
          | false =>
            rw [hwt] at x4 HB
            have hsy : x.c.syncd = x.c := by unfold Cel.syncd; simp [hwt]
            have HR2 : Aside (SyR A name k l (some ⟨gc, oc, none⟩) vn VC (i + 1) fs' L' f') := ⟨by
              have e : syL l (i + 1) = syL l i := by rw [← (syL_step HIN.out.2.2).2, hsy]; exact set_self (syL_step HIN.out.2.2).1
              exact ⟨HR.out.at_, HR.out.nm, HR.out.val, HR.out.len, by rw [e]; exact HR.out.cels, by rw [e]; exact HR.out.view⟩⟩
            have HB2 := Aside.mk HB.out.right
            clear HB hsy hwt
            go_wp2
            go_roundw
            case rel => exact ⟨i + 1, fs', L', f', by omega, by go_num, HR2, HN2, HB2⟩
            case measure => simp [intOf]; omega
          | true =>
            rw [hwt] at x4 HB
            have HWT := Aside.mk hwt
            clear hwt
            obtain ⟨B, hB⟩ : ∃ B, B = wr.heap.size := ⟨_, rfl⟩
            rw [← hB] at HB
            have HBB := Aside.mk hB
            clear hB
            have HC : Aside (∀ W, Sat E W (HP.pt B (.cells #[.slice A0 128 c0, .slice A1 128 c1, .slice A2 128 c2, .slice A3 128 c3, .bool true] 176) * (HP.rdk y room fuse (.slice (some ⟨g, o, none⟩) n cF) fs' L' * q)) → W.cell? ⟨y, 1, none⟩ = some (.slice (some ⟨g, o, none⟩) n cF) ∧ W.cell? ⟨g, o + k * 2 + 1, none⟩ = some (.slice (some ⟨gc, oc, none⟩) vn VC) ∧ W.cell? ⟨B, 3, none⟩ = some (.slice A3 128 c3) ∧ Cells W A3 (b8s x.c.written)) := ⟨fun W h => by
              have h1 := h.right.rf_cell HN2.out HF.out.1
              rw [HF.out.2.1] at h1
              exact ⟨h1.1, h1.2.2, h.cell 3, h.right.rdk_imgs.img_cells (by rw [← HE3.out]; exact HIN.out.1.2.2.2)⟩⟩
            go_wp2
            rw [← HBB.out]
            clear x0 x1 x2 x3 x4
            have HS := HB
            clear HB
            generalize World.alloc wr _ = wb at *
            refine region_R [11, 14, 15, 18, 19, 22, 25] [11, 14, 15, 18, 19, 22] (fun W => Sat E W (HP.pt B (.cells #[.slice A0 128 c0, .slice A1 128 c1, .slice A2 128 c2, .slice A3 128 c3, .bool true] 176) * (HP.rdk y room fuse (.slice (some ⟨g, o, none⟩) n cF) fs' L' * q))) #[false, false, false, false, false, false, false, false, false, false, false, false, false, false, false, false, false, false, false, false, false, false, false, false, false, false] (by kernel_rfl) rfl rfl ?_
            have HT : Aside ((fun W => Sat E W (HP.pt B (.cells #[.slice A0 128 c0, .slice A1 128 c1, .slice A2 128 c2, .slice A3 128 c3, .bool true] 176) * (HP.rdk y room fuse (.slice (some ⟨g, o, none⟩) n cF) fs' L' * q))) _) := ⟨(show Sat E _ (HP.pt B (.cells #[.slice A0 128 c0, .slice A1 128 c1, .slice A2 128 c2, .slice A3 128 c3, .bool true] 176) * (HP.rdk y room fuse (.slice (some ⟨g, o, none⟩) n cF) fs' L' * q)) by first | exact HS.out | exact HS.out.right | exact HS.out.right.right | exact HS.out.right.right.right).drew⟩
            refine wpR_pu 0 #[true, false, false, false, false, false, false, false, false, false, false, false, false, false, false, false, false, false, false, false, false, false, false, false, false, false] rfl onlyN_noPanic (by kernel_rfl) (fun K hK => ?_); (go_simp; try go_bits); refine hK _ ?_; clear hK K
            refine wpR_pu 1 #[true, true, false, false, false, false, false, false, false, false, false, false, false, false, false, false, false, false, false, false, false, false, false, false, false, false] rfl onlyN_noPanic (by kernel_rfl) (fun K hK => ?_); (go_simp; try go_bits); refine hK _ ?_; clear hK K
            refine wpR_pu 2 #[true, true, true, false, false, false, false, false, false, false, false, false, false, false, false, false, false, false, false, false, false, false, false, false, false, false] rfl onlyN_noPanic (by kernel_rfl) (fun K hK => ?_); (go_simp; try go_bits); refine hK _ ?_; clear hK K
            refine wpR_held (i := 3) (v := .slice (some ⟨g, o, none⟩) n cF) #[true, true, true, true, false, false, false, false, false, false, false, false, false, false, false, false, false, false, false, false, false, false, false, false, false, false] rfl onlyN_noPanic (by kernel_rfl) HT.out (.inl ⟨rfl, fun w' hT => ?_⟩) ?_
            · obtain ⟨t1, t2, t3, -⟩ := HC.out _ hT; go_simp
            simp only [Act.put, List.setIfInBounds_toArray, List.set_cons_zero, List.set_cons_succ]
            refine wpR_pu 4 #[true, true, true, true, true, false, false, false, false, false, false, false, false, false, false, false, false, false, false, false, false, false, false, false, false, false] rfl onlyN_noPanic (by kernel_rfl) (fun K hK => ?_); (go_simp; try go_bits); refine hK _ ?_; clear hK K
            refine wpR_pu 5 #[true, true, true, true, true, true, false, false, false, false, false, false, false, false, false, false, false, false, false, false, false, false, false, false, false, false] rfl onlyN_noPanic (by kernel_rfl) (fun K hK => ?_); (go_simp; try go_bits); refine hK _ ?_; clear hK K
            refine wpR_pu 6 #[true, true, true, true, true, true, true, false, false, false, false, false, false, false, false, false, false, false, false, false, false, false, false, false, false, false] rfl onlyN_noPanic (by kernel_rfl) (fun K hK => ?_); (go_simp; try go_bits); refine hK _ ?_; clear hK K
            refine wpR_held (i := 7) (v := .slice (some ⟨gc, oc, none⟩) vn VC) #[true, true, true, true, true, true, true, true, false, false, false, false, false, false, false, false, false, false, false, false, false, false, false, false, false, false] rfl onlyN_noPanic (by kernel_rfl) HT.out (.inl ⟨rfl, fun w' hT => ?_⟩) ?_
            · obtain ⟨t1, t2, t3, -⟩ := HC.out _ hT; go_simp
            simp only [Act.put, List.setIfInBounds_toArray, List.set_cons_zero, List.set_cons_succ]
            refine wpR_pu 8 #[true, true, true, true, true, true, true, true, true, false, false, false, false, false, false, false, false, false, false, false, false, false, false, false, false, false] rfl onlyN_noPanic (by kernel_rfl) (fun K hK => ?_); (go_simp; try go_bits); refine hK _ ?_; clear hK K
            refine wpR_pu 9 #[true, true, true, true, true, true, true, true, true, true, false, false, false, false, false, false, false, false, false, false, false, false, false, false, false, false] rfl onlyN_noPanic (by kernel_rfl) (fun K hK => ?_); (go_simp; try go_bits); refine hK _ ?_; clear hK K
            refine wpR_held (i := 10) (v := .slice A3 128 c3) #[true, true, true, true, true, true, true, true, true, true, true, false, false, false, false, false, false, false, false, false, false, false, false, false, false, false] rfl onlyN_noPanic (by kernel_rfl) HT.out (.inl ⟨rfl, fun w' hT => ?_⟩) ?_
            · obtain ⟨t1, t2, t3, -⟩ := HC.out _ hT; go_simp
            simp only [Act.put, List.setIfInBounds_toArray, List.set_cons_zero, List.set_cons_succ]
            refine wpR_pu 12 #[true, true, true, true, true, true, true, true, true, true, true, false, true, false, false, false, false, false, false, false, false, false, false, false, false, false] rfl onlyN_noPanic (by kernel_rfl) (fun K hK => ?_); (go_simp; try go_bits); refine hK _ ?_; clear hK K
            refine wpR_held (i := 13) (v := .slice A3 128 c3) #[true, true, true, true, true, true, true, true, true, true, true, false, true, true, false, false, false, false, false, false, false, false, false, false, false, false] rfl onlyN_noPanic (by kernel_rfl) HT.out (.inl ⟨rfl, fun w' hT => ?_⟩) ?_
            · obtain ⟨t1, t2, t3, -⟩ := HC.out _ hT; go_simp
            simp only [Act.put, List.setIfInBounds_toArray, List.set_cons_zero, List.set_cons_succ]
            refine wpR_pu 16 #[true, true, true, true, true, true, true, true, true, true, true, false, true, true, false, false, true, false, false, false, false, false, false, false, false, false] rfl onlyN_noPanic (by kernel_rfl) (fun K hK => ?_); (go_simp; try go_bits); refine hK _ ?_; clear hK K
            refine wpR_held (i := 17) (v := .slice A3 128 c3) #[true, true, true, true, true, true, true, true, true, true, true, false, true, true, false, false, true, true, false, false, false, false, false, false, false, false] rfl onlyN_noPanic (by kernel_rfl) HT.out (.inl ⟨rfl, fun w' hT => ?_⟩) ?_
            · obtain ⟨t1, t2, t3, -⟩ := HC.out _ hT; go_simp
            simp only [Act.put, List.setIfInBounds_toArray, List.set_cons_zero, List.set_cons_succ]
            refine wpR_pu 20 #[true, true, true, true, true, true, true, true, true, true, true, false, true, true, false, false, true, true, false, false, true, false, false, false, false, false] rfl onlyN_noPanic (by kernel_rfl) (fun K hK => ?_); (go_simp; try go_bits); refine hK _ ?_; clear hK K
            refine wpR_held (i := 21) (v := .slice A3 128 c3) #[true, true, true, true, true, true, true, true, true, true, true, false, true, true, false, false, true, true, false, false, true, true, false, false, false, false] rfl onlyN_noPanic (by kernel_rfl) HT.out (.inl ⟨rfl, fun w' hT => ?_⟩) ?_
            · obtain ⟨t1, t2, t3, -⟩ := HC.out _ hT; go_simp
            simp only [Act.put, List.setIfInBounds_toArray, List.set_cons_zero, List.set_cons_succ]
            clear HT
            have HS0 := Aside.mk HS.out.drew
            clear HS
            revert HS0
            generalize World.drew wb = W0
            intro HS0
            apply share
            · intro hsh00
              have hsh0 := Aside.mk hsh00
              clear hsh00
              apply share
              · intro hsh10
                have hsh1 := Aside.mk hsh10
                clear hsh10
                apply share
                · intro hsh20
                  have hsh2 := Aside.mk hsh20
                  clear hsh20
                  apply share
                  · intro hsh30
                    have hsh3 := Aside.mk hsh30
                    clear hsh30
                    apply share
                    · intro hsh40
                      have hsh4 := Aside.mk hsh40
                      clear hsh40
                      apply share
                      · intro hsh50
                        have hsh5 := Aside.mk hsh50
                        clear hsh50
                        apply share
                        · intro hsh60
                          have hsh6 := Aside.mk hsh60
                          clear hsh60
                          apply share
                          · intro hsh70
                            have hsh7 := Aside.mk hsh70
                            clear hsh70
                            refine wpR_many [11, 15, 19] rfl (by kernel_rfl) ?_
                            refine List.forall_mem_cons.2 ⟨?_, List.forall_mem_cons.2 ⟨?_, List.forall_mem_cons.2 ⟨?_, (fun _ h => by cases h)⟩⟩⟩
                            · refine br_keep #[true, true, true, true, true, true, true, true, true, true, true, true, true, true, false, false, true, true, false, false, true, true, false, false, false, false] rfl (by kernel_rfl) (fun K hK => ?_)
                              go_simp
                              obtain ⟨W1, hW1⟩ : ∃ x, x = World.alloc W0 (.cells #[] 5) := ⟨_, rfl⟩
                              have hn1 : Sat E W1 (HP.pt B (.cells #[.slice A0 128 c0, .slice A1 128 c1, .slice A2 128 c2, .slice A3 128 c3, .bool true] 176) * (HP.rdk y room fuse (.slice (some ⟨g, o, none⟩) n cF) fs' L' * q)) := by rw [hW1]; exact (HS0.out.alloc _).right
                              rw [← hW1]
                              refine hK _ _ (by first | exact hn1 | exact hn1.right | exact hn1.right.right | exact hn1.right.right.right) ?_
                              clear hK K hW1
                              generalize World.heap W0 = hp0
                              generalize Array.size hp0 = g1
                              have HS1 : Aside (Sat E W1 (HP.pt B (.cells #[.slice A0 128 c0, .slice A1 128 c1, .slice A2 128 c2, .slice A3 128 c3, .bool true] 176) * (HP.rdk y room fuse (.slice (some ⟨g, o, none⟩) n cF) fs' L' * q))) := ⟨hn1.perm (by ac_rfl)⟩
                              clear hn1
                              refine wpR_many [14, 15, 19] rfl (by kernel_rfl) ?_
                              refine List.forall_mem_cons.2 ⟨?_, List.forall_mem_cons.2 ⟨?_, List.forall_mem_cons.2 ⟨?_, (fun _ h => by cases h)⟩⟩⟩
                              · refine br_keep #[true, true, true, true, true, true, true, true, true, true, true, true, true, true, true, false, true, true, false, false, true, true, false, false, false, false] rfl (by kernel_rfl) (fun K hK => ?_)
                                refine Eq.mpr (if_pos (by rfl)) ?_
                                refine wp_append_row (v := .slice (some ⟨g1, 0, none⟩) 0 0) (n := 0) (cs := []) (A := A3) (m := 128) (c := c3) (news := b8s x.c.written) slB8 rfl rfl rfl (HS1.out.row_nil 5 1 _) (HC.out _ (by first | exact HS1.out | exact HS1.out.right | exact HS1.out.right.right | exact HS1.out.right.right.right)).2.2.2 (by rw [b8s_length]; exact hlen.out) (b8s_one _) (by unfold maxLen; omega) (by omega) (fun vv W2 hn2 => ?_)
                                rw [List.nil_append, Nat.zero_add] at hn2
                                obtain ⟨E1, e1, rfl, -, -⟩ := hn2.row_slice
                                refine hK _ _ (by first | exact hn2 | exact hn2.right | exact hn2.right.right | exact hn2.right.right.right) ?_
                                clear hK K
                                have HS2 : Aside (Sat E W2 (HP.row 5 1 (.slice E1 128 e1) 128 (b8s x.c.written) * (HP.pt B (.cells #[.slice A0 128 c0, .slice A1 128 c1, .slice A2 128 c2, .slice A3 128 c3, .bool true] 176) * (HP.rdk y room fuse (.slice (some ⟨g, o, none⟩) n cF) fs' L' * q)))) := ⟨hn2.perm (by ac_rfl)⟩
                                clear hn2 HS1
                                refine wpR_many [15, 19] rfl (by kernel_rfl) ?_
                                refine List.forall_mem_cons.2 ⟨?_, List.forall_mem_cons.2 ⟨?_, (fun _ h => by cases h)⟩⟩
                                · refine br_keep #[true, true, true, true, true, true, true, true, true, true, true, true, true, true, true, true, true, true, false, false, true, true, false, false, false, false] rfl (by kernel_rfl) (fun K hK => ?_)
                                  go_simp
                                  obtain ⟨W3, hW3⟩ : ∃ x, x = World.alloc W2 (.cells #[] 5) := ⟨_, rfl⟩
                                  have hn3 : Sat E W3 (HP.row 5 1 (.slice E1 128 e1) 128 (b8s x.c.written) * (HP.pt B (.cells #[.slice A0 128 c0, .slice A1 128 c1, .slice A2 128 c2, .slice A3 128 c3, .bool true] 176) * (HP.rdk y room fuse (.slice (some ⟨g, o, none⟩) n cF) fs' L' * q))) := by rw [hW3]; exact (HS2.out.alloc _).right
                                  rw [← hW3]
                                  refine hK _ _ (by first | exact hn3 | exact hn3.right | exact hn3.right.right | exact hn3.right.right.right) ?_
                                  clear hK K hW3
                                  generalize World.heap W2 = hp0
                                  generalize Array.size hp0 = g2
                                  have HS3 : Aside (Sat E W3 (HP.row 5 1 (.slice E1 128 e1) 128 (b8s x.c.written) * (HP.pt B (.cells #[.slice A0 128 c0, .slice A1 128 c1, .slice A2 128 c2, .slice A3 128 c3, .bool true] 176) * (HP.rdk y room fuse (.slice (some ⟨g, o, none⟩) n cF) fs' L' * q)))) := ⟨hn3.perm (by ac_rfl)⟩
                                  clear hn3 HS2
                                  revert HS3
                                  revert W3
                                  revert g2
                                  revert e1
                                  revert E1
                                  revert g1
                                  exact hsh2.out
                                · refine br_keep #[true, true, true, true, true, true, true, true, true, true, true, true, true, true, true, false, true, true, false, true, true, true, false, false, false, false] rfl (by kernel_rfl) (fun K hK => ?_)
                                  go_simp
                                  obtain ⟨W4, hW4⟩ : ∃ x, x = World.alloc W2 (.cells #[] 5) := ⟨_, rfl⟩
                                  have hn4 : Sat E W4 (HP.row 5 1 (.slice E1 128 e1) 128 (b8s x.c.written) * (HP.pt B (.cells #[.slice A0 128 c0, .slice A1 128 c1, .slice A2 128 c2, .slice A3 128 c3, .bool true] 176) * (HP.rdk y room fuse (.slice (some ⟨g, o, none⟩) n cF) fs' L' * q))) := by rw [hW4]; exact (HS2.out.alloc _).right
                                  rw [← hW4]
                                  refine hK _ _ (by first | exact hn4 | exact hn4.right | exact hn4.right.right | exact hn4.right.right.right) ?_
                                  clear hK K hW4
                                  generalize World.heap W2 = hp0
                                  generalize Array.size hp0 = g3
                                  have HS4 : Aside (Sat E W4 (HP.row 5 1 (.slice E1 128 e1) 128 (b8s x.c.written) * (HP.pt B (.cells #[.slice A0 128 c0, .slice A1 128 c1, .slice A2 128 c2, .slice A3 128 c3, .bool true] 176) * (HP.rdk y room fuse (.slice (some ⟨g, o, none⟩) n cF) fs' L' * q)))) := ⟨hn4.perm (by ac_rfl)⟩
                                  clear hn4 HS2
                                  revert HS4
                                  revert W4
                                  revert g3
                                  revert e1
                                  revert E1
                                  revert g1
                                  exact hsh3.out
                              · refine br_keep #[true, true, true, true, true, true, true, true, true, true, true, true, true, true, false, true, true, true, false, false, true, true, false, false, false, false] rfl (by kernel_rfl) (fun K hK => ?_)
                                go_simp
                                obtain ⟨W5, hW5⟩ : ∃ x, x = World.alloc W1 (.cells #[] 5) := ⟨_, rfl⟩
                                have hn5 : Sat E W5 (HP.pt B (.cells #[.slice A0 128 c0, .slice A1 128 c1, .slice A2 128 c2, .slice A3 128 c3, .bool true] 176) * (HP.rdk y room fuse (.slice (some ⟨g, o, none⟩) n cF) fs' L' * q)) := by rw [hW5]; exact (HS1.out.alloc _).right
                                rw [← hW5]
                                refine hK _ _ (by first | exact hn5 | exact hn5.right | exact hn5.right.right | exact hn5.right.right.right) ?_
                                clear hK K hW5
                                generalize World.heap W1 = hp0
                                generalize Array.size hp0 = g2
                                have HS5 : Aside (Sat E W5 (HP.pt B (.cells #[.slice A0 128 c0, .slice A1 128 c1, .slice A2 128 c2, .slice A3 128 c3, .bool true] 176) * (HP.rdk y room fuse (.slice (some ⟨g, o, none⟩) n cF) fs' L' * q))) := ⟨hn5.perm (by ac_rfl)⟩
                                clear hn5 HS1
                                revert HS5
                                revert W5
                                revert g2
                                revert g1
                                exact hsh5.out
                              · refine br_keep #[true, true, true, true, true, true, true, true, true, true, true, true, true, true, false, false, true, true, false, true, true, true, false, false, false, false] rfl (by kernel_rfl) (fun K hK => ?_)
                                go_simp
                                obtain ⟨W6, hW6⟩ : ∃ x, x = World.alloc W1 (.cells #[] 5) := ⟨_, rfl⟩
                                have hn6 : Sat E W6 (HP.pt B (.cells #[.slice A0 128 c0, .slice A1 128 c1, .slice A2 128 c2, .slice A3 128 c3, .bool true] 176) * (HP.rdk y room fuse (.slice (some ⟨g, o, none⟩) n cF) fs' L' * q)) := by rw [hW6]; exact (HS1.out.alloc _).right
                                rw [← hW6]
                                refine hK _ _ (by first | exact hn6 | exact hn6.right | exact hn6.right.right | exact hn6.right.right.right) ?_
                                clear hK K hW6
                                generalize World.heap W1 = hp0
                                generalize Array.size hp0 = g3
                                have HS6 : Aside (Sat E W6 (HP.pt B (.cells #[.slice A0 128 c0, .slice A1 128 c1, .slice A2 128 c2, .slice A3 128 c3, .bool true] 176) * (HP.rdk y room fuse (.slice (some ⟨g, o, none⟩) n cF) fs' L' * q))) := ⟨hn6.perm (by ac_rfl)⟩
                                clear hn6 HS1
                                revert HS6
                                revert W6
                                revert g3
                                revert g1
                                exact hsh6.out
                            · refine br_keep #[true, true, true, true, true, true, true, true, true, true, true, false, true, true, false, true, true, true, false, false, true, true, false, false, false, false] rfl (by kernel_rfl) (fun K hK => ?_)
                              go_simp
                              obtain ⟨W7, hW7⟩ : ∃ x, x = World.alloc W0 (.cells #[] 5) := ⟨_, rfl⟩
                              have hn7 : Sat E W7 (HP.pt B (.cells #[.slice A0 128 c0, .slice A1 128 c1, .slice A2 128 c2, .slice A3 128 c3, .bool true] 176) * (HP.rdk y room fuse (.slice (some ⟨g, o, none⟩) n cF) fs' L' * q)) := by rw [hW7]; exact (HS0.out.alloc _).right
                              rw [← hW7]
                              refine hK _ _ (by first | exact hn7 | exact hn7.right | exact hn7.right.right | exact hn7.right.right.right) ?_
                              clear hK K hW7
                              generalize World.heap W0 = hp0
                              generalize Array.size hp0 = g2
                              have HS7 : Aside (Sat E W7 (HP.pt B (.cells #[.slice A0 128 c0, .slice A1 128 c1, .slice A2 128 c2, .slice A3 128 c3, .bool true] 176) * (HP.rdk y room fuse (.slice (some ⟨g, o, none⟩) n cF) fs' L' * q))) := ⟨hn7.perm (by ac_rfl)⟩
                              clear hn7
                              refine wpR_many [11, 19] rfl (by kernel_rfl) ?_
                              refine List.forall_mem_cons.2 ⟨?_, List.forall_mem_cons.2 ⟨?_, (fun _ h => by cases h)⟩⟩
                              · refine br_keep #[true, true, true, true, true, true, true, true, true, true, true, true, true, true, false, true, true, true, false, false, true, true, false, false, false, false] rfl (by kernel_rfl) (fun K hK => ?_)
                                go_simp
                                obtain ⟨W8, hW8⟩ : ∃ x, x = World.alloc W7 (.cells #[] 5) := ⟨_, rfl⟩
                                have hn8 : Sat E W8 (HP.pt B (.cells #[.slice A0 128 c0, .slice A1 128 c1, .slice A2 128 c2, .slice A3 128 c3, .bool true] 176) * (HP.rdk y room fuse (.slice (some ⟨g, o, none⟩) n cF) fs' L' * q)) := by rw [hW8]; exact (HS7.out.alloc _).right
                                rw [← hW8]
                                refine hK _ _ (by first | exact hn8 | exact hn8.right | exact hn8.right.right | exact hn8.right.right.right) ?_
                                clear hK K hW8
                                generalize World.heap W7 = hp0
                                generalize Array.size hp0 = g1
                                have HS8 : Aside (Sat E W8 (HP.pt B (.cells #[.slice A0 128 c0, .slice A1 128 c1, .slice A2 128 c2, .slice A3 128 c3, .bool true] 176) * (HP.rdk y room fuse (.slice (some ⟨g, o, none⟩) n cF) fs' L' * q))) := ⟨hn8.perm (by ac_rfl)⟩
                                clear hn8 HS7
                                revert HS8
                                revert W8
                                revert g2
                                revert g1
                                exact hsh5.out
                              · refine br_keep #[true, true, true, true, true, true, true, true, true, true, true, false, true, true, false, true, true, true, false, true, true, true, false, false, false, false] rfl (by kernel_rfl) (fun K hK => ?_)
                                go_simp
                                obtain ⟨W9, hW9⟩ : ∃ x, x = World.alloc W7 (.cells #[] 5) := ⟨_, rfl⟩
                                have hn9 : Sat E W9 (HP.pt B (.cells #[.slice A0 128 c0, .slice A1 128 c1, .slice A2 128 c2, .slice A3 128 c3, .bool true] 176) * (HP.rdk y room fuse (.slice (some ⟨g, o, none⟩) n cF) fs' L' * q)) := by rw [hW9]; exact (HS7.out.alloc _).right
                                rw [← hW9]
                                refine hK _ _ (by first | exact hn9 | exact hn9.right | exact hn9.right.right | exact hn9.right.right.right) ?_
                                clear hK K hW9
                                generalize World.heap W7 = hp0
                                generalize Array.size hp0 = g3
                                have HS9 : Aside (Sat E W9 (HP.pt B (.cells #[.slice A0 128 c0, .slice A1 128 c1, .slice A2 128 c2, .slice A3 128 c3, .bool true] 176) * (HP.rdk y room fuse (.slice (some ⟨g, o, none⟩) n cF) fs' L' * q))) := ⟨hn9.perm (by ac_rfl)⟩
                                clear hn9 HS7
                                revert HS9
                                revert W9
                                revert g3
                                revert g2
                                exact hsh7.out
                            · refine br_keep #[true, true, true, true, true, true, true, true, true, true, true, false, true, true, false, false, true, true, false, true, true, true, false, false, false, false] rfl (by kernel_rfl) (fun K hK => ?_)
                              go_simp
                              obtain ⟨W10, hW10⟩ : ∃ x, x = World.alloc W0 (.cells #[] 5) := ⟨_, rfl⟩
                              have hn10 : Sat E W10 (HP.pt B (.cells #[.slice A0 128 c0, .slice A1 128 c1, .slice A2 128 c2, .slice A3 128 c3, .bool true] 176) * (HP.rdk y room fuse (.slice (some ⟨g, o, none⟩) n cF) fs' L' * q)) := by rw [hW10]; exact (HS0.out.alloc _).right
                              rw [← hW10]
                              refine hK _ _ (by first | exact hn10 | exact hn10.right | exact hn10.right.right | exact hn10.right.right.right) ?_
                              clear hK K hW10
                              generalize World.heap W0 = hp0
                              generalize Array.size hp0 = g3
                              have HS10 : Aside (Sat E W10 (HP.pt B (.cells #[.slice A0 128 c0, .slice A1 128 c1, .slice A2 128 c2, .slice A3 128 c3, .bool true] 176) * (HP.rdk y room fuse (.slice (some ⟨g, o, none⟩) n cF) fs' L' * q))) := ⟨hn10.perm (by ac_rfl)⟩
                              clear hn10
                              refine wpR_many [11, 15] rfl (by kernel_rfl) ?_
                              refine List.forall_mem_cons.2 ⟨?_, List.forall_mem_cons.2 ⟨?_, (fun _ h => by cases h)⟩⟩
                              · refine br_keep #[true, true, true, true, true, true, true, true, true, true, true, true, true, true, false, false, true, true, false, true, true, true, false, false, false, false] rfl (by kernel_rfl) (fun K hK => ?_)
                                go_simp
                                obtain ⟨W11, hW11⟩ : ∃ x, x = World.alloc W10 (.cells #[] 5) := ⟨_, rfl⟩
                                have hn11 : Sat E W11 (HP.pt B (.cells #[.slice A0 128 c0, .slice A1 128 c1, .slice A2 128 c2, .slice A3 128 c3, .bool true] 176) * (HP.rdk y room fuse (.slice (some ⟨g, o, none⟩) n cF) fs' L' * q)) := by rw [hW11]; exact (HS10.out.alloc _).right
                                rw [← hW11]
                                refine hK _ _ (by first | exact hn11 | exact hn11.right | exact hn11.right.right | exact hn11.right.right.right) ?_
                                clear hK K hW11
                                generalize World.heap W10 = hp0
                                generalize Array.size hp0 = g1
                                have HS11 : Aside (Sat E W11 (HP.pt B (.cells #[.slice A0 128 c0, .slice A1 128 c1, .slice A2 128 c2, .slice A3 128 c3, .bool true] 176) * (HP.rdk y room fuse (.slice (some ⟨g, o, none⟩) n cF) fs' L' * q))) := ⟨hn11.perm (by ac_rfl)⟩
                                clear hn11 HS10
                                revert HS11
                                revert W11
                                revert g3
                                revert g1
                                exact hsh6.out
                              · refine br_keep #[true, true, true, true, true, true, true, true, true, true, true, false, true, true, false, true, true, true, false, true, true, true, false, false, false, false] rfl (by kernel_rfl) (fun K hK => ?_)
                                go_simp
                                obtain ⟨W12, hW12⟩ : ∃ x, x = World.alloc W10 (.cells #[] 5) := ⟨_, rfl⟩
                                have hn12 : Sat E W12 (HP.pt B (.cells #[.slice A0 128 c0, .slice A1 128 c1, .slice A2 128 c2, .slice A3 128 c3, .bool true] 176) * (HP.rdk y room fuse (.slice (some ⟨g, o, none⟩) n cF) fs' L' * q)) := by rw [hW12]; exact (HS10.out.alloc _).right
                                rw [← hW12]
                                refine hK _ _ (by first | exact hn12 | exact hn12.right | exact hn12.right.right | exact hn12.right.right.right) ?_
                                clear hK K hW12
                                generalize World.heap W10 = hp0
                                generalize Array.size hp0 = g2
                                have HS12 : Aside (Sat E W12 (HP.pt B (.cells #[.slice A0 128 c0, .slice A1 128 c1, .slice A2 128 c2, .slice A3 128 c3, .bool true] 176) * (HP.rdk y room fuse (.slice (some ⟨g, o, none⟩) n cF) fs' L' * q))) := ⟨hn12.perm (by ac_rfl)⟩
                                clear hn12 HS10
                                revert HS12
                                revert W12
                                revert g3
                                revert g2
                                exact hsh7.out
                          · intro g2 g3 W13 HS13
                            refine wpR_keep #[true, true, true, true, true, true, true, true, true, true, true, true, true, true, false, true, true, true, false, true, true, true, false, false, false, false] (i := 11) rfl (by kernel_rfl) (fun K hK => ?_)
                            go_simp
                            obtain ⟨W14, hW14⟩ : ∃ x, x = World.alloc W13 (.cells #[] 5) := ⟨_, rfl⟩
                            have hn14 : Sat E W14 (HP.pt B (.cells #[.slice A0 128 c0, .slice A1 128 c1, .slice A2 128 c2, .slice A3 128 c3, .bool true] 176) * (HP.rdk y room fuse (.slice (some ⟨g, o, none⟩) n cF) fs' L' * q)) := by rw [hW14]; exact (HS13.out.alloc _).right
                            rw [← hW14]
                            refine hK _ _ (by first | exact hn14 | exact hn14.right | exact hn14.right.right | exact hn14.right.right.right) ?_
                            clear hK K hW14
                            generalize World.heap W13 = hp0
                            generalize Array.size hp0 = g1
                            have HS14 : Aside (Sat E W14 (HP.pt B (.cells #[.slice A0 128 c0, .slice A1 128 c1, .slice A2 128 c2, .slice A3 128 c3, .bool true] 176) * (HP.rdk y room fuse (.slice (some ⟨g, o, none⟩) n cF) fs' L' * q))) := ⟨hn14.perm (by ac_rfl)⟩
                            clear hn14 HS13
                            revert HS14
                            revert W14
                            revert g3
                            revert g2
                            revert g1
                            exact hsh4.out
                        · intro g1 g3 W15 HS15
                          refine wpR_many [14, 15] rfl (by kernel_rfl) ?_
                          refine List.forall_mem_cons.2 ⟨?_, List.forall_mem_cons.2 ⟨?_, (fun _ h => by cases h)⟩⟩
                          · refine br_keep #[true, true, true, true, true, true, true, true, true, true, true, true, true, true, true, false, true, true, false, true, true, true, false, false, false, false] rfl (by kernel_rfl) (fun K hK => ?_)
                            refine Eq.mpr (if_pos (by rfl)) ?_
                            refine wp_append_row (v := .slice (some ⟨g1, 0, none⟩) 0 0) (n := 0) (cs := []) (A := A3) (m := 128) (c := c3) (news := b8s x.c.written) slB8 rfl rfl rfl (HS15.out.row_nil 5 1 _) (HC.out _ (by first | exact HS15.out | exact HS15.out.right | exact HS15.out.right.right | exact HS15.out.right.right.right)).2.2.2 (by rw [b8s_length]; exact hlen.out) (b8s_one _) (by unfold maxLen; omega) (by omega) (fun vv W16 hn16 => ?_)
                            rw [List.nil_append, Nat.zero_add] at hn16
                            obtain ⟨E1, e1, rfl, -, -⟩ := hn16.row_slice
                            refine hK _ _ (by first | exact hn16 | exact hn16.right | exact hn16.right.right | exact hn16.right.right.right) ?_
                            clear hK K
                            have HS16 : Aside (Sat E W16 (HP.row 5 1 (.slice E1 128 e1) 128 (b8s x.c.written) * (HP.pt B (.cells #[.slice A0 128 c0, .slice A1 128 c1, .slice A2 128 c2, .slice A3 128 c3, .bool true] 176) * (HP.rdk y room fuse (.slice (some ⟨g, o, none⟩) n cF) fs' L' * q)))) := ⟨hn16.perm (by ac_rfl)⟩
                            clear hn16 HS15
                            revert HS16
                            revert W16
                            revert g3
                            revert e1
                            revert E1
                            revert g1
                            exact hsh3.out
                          · refine br_keep #[true, true, true, true, true, true, true, true, true, true, true, true, true, true, false, true, true, true, false, true, true, true, false, false, false, false] rfl (by kernel_rfl) (fun K hK => ?_)
                            go_simp
                            obtain ⟨W17, hW17⟩ : ∃ x, x = World.alloc W15 (.cells #[] 5) := ⟨_, rfl⟩
                            have hn17 : Sat E W17 (HP.pt B (.cells #[.slice A0 128 c0, .slice A1 128 c1, .slice A2 128 c2, .slice A3 128 c3, .bool true] 176) * (HP.rdk y room fuse (.slice (some ⟨g, o, none⟩) n cF) fs' L' * q)) := by rw [hW17]; exact (HS15.out.alloc _).right
                            rw [← hW17]
                            refine hK _ _ (by first | exact hn17 | exact hn17.right | exact hn17.right.right | exact hn17.right.right.right) ?_
                            clear hK K hW17
                            generalize World.heap W15 = hp0
                            generalize Array.size hp0 = g2
                            have HS17 : Aside (Sat E W17 (HP.pt B (.cells #[.slice A0 128 c0, .slice A1 128 c1, .slice A2 128 c2, .slice A3 128 c3, .bool true] 176) * (HP.rdk y room fuse (.slice (some ⟨g, o, none⟩) n cF) fs' L' * q))) := ⟨hn17.perm (by ac_rfl)⟩
                            clear hn17 HS15
                            revert HS17
                            revert W17
                            revert g3
                            revert g2
                            revert g1
                            exact hsh4.out
                      · intro g1 g2 W18 HS18
                        refine wpR_many [14, 19] rfl (by kernel_rfl) ?_
                        refine List.forall_mem_cons.2 ⟨?_, List.forall_mem_cons.2 ⟨?_, (fun _ h => by cases h)⟩⟩
                        · refine br_keep #[true, true, true, true, true, true, true, true, true, true, true, true, true, true, true, true, true, true, false, false, true, true, false, false, false, false] rfl (by kernel_rfl) (fun K hK => ?_)
                          refine Eq.mpr (if_pos (by rfl)) ?_
                          refine wp_append_row (v := .slice (some ⟨g1, 0, none⟩) 0 0) (n := 0) (cs := []) (A := A3) (m := 128) (c := c3) (news := b8s x.c.written) slB8 rfl rfl rfl (HS18.out.row_nil 5 1 _) (HC.out _ (by first | exact HS18.out | exact HS18.out.right | exact HS18.out.right.right | exact HS18.out.right.right.right)).2.2.2 (by rw [b8s_length]; exact hlen.out) (b8s_one _) (by unfold maxLen; omega) (by omega) (fun vv W19 hn19 => ?_)
                          rw [List.nil_append, Nat.zero_add] at hn19
                          obtain ⟨E1, e1, rfl, -, -⟩ := hn19.row_slice
                          refine hK _ _ (by first | exact hn19 | exact hn19.right | exact hn19.right.right | exact hn19.right.right.right) ?_
                          clear hK K
                          have HS19 : Aside (Sat E W19 (HP.row 5 1 (.slice E1 128 e1) 128 (b8s x.c.written) * (HP.pt B (.cells #[.slice A0 128 c0, .slice A1 128 c1, .slice A2 128 c2, .slice A3 128 c3, .bool true] 176) * (HP.rdk y room fuse (.slice (some ⟨g, o, none⟩) n cF) fs' L' * q)))) := ⟨hn19.perm (by ac_rfl)⟩
                          clear hn19 HS18
                          revert HS19
                          revert W19
                          revert g2
                          revert e1
                          revert E1
                          revert g1
                          exact hsh2.out
                        · refine br_keep #[true, true, true, true, true, true, true, true, true, true, true, true, true, true, false, true, true, true, false, true, true, true, false, false, false, false] rfl (by kernel_rfl) (fun K hK => ?_)
                          go_simp
                          obtain ⟨W20, hW20⟩ : ∃ x, x = World.alloc W18 (.cells #[] 5) := ⟨_, rfl⟩
                          have hn20 : Sat E W20 (HP.pt B (.cells #[.slice A0 128 c0, .slice A1 128 c1, .slice A2 128 c2, .slice A3 128 c3, .bool true] 176) * (HP.rdk y room fuse (.slice (some ⟨g, o, none⟩) n cF) fs' L' * q)) := by rw [hW20]; exact (HS18.out.alloc _).right
                          rw [← hW20]
                          refine hK _ _ (by first | exact hn20 | exact hn20.right | exact hn20.right.right | exact hn20.right.right.right) ?_
                          clear hK K hW20
                          generalize World.heap W18 = hp0
                          generalize Array.size hp0 = g3
                          have HS20 : Aside (Sat E W20 (HP.pt B (.cells #[.slice A0 128 c0, .slice A1 128 c1, .slice A2 128 c2, .slice A3 128 c3, .bool true] 176) * (HP.rdk y room fuse (.slice (some ⟨g, o, none⟩) n cF) fs' L' * q))) := ⟨hn20.perm (by ac_rfl)⟩
                          clear hn20 HS18
                          revert HS20
                          revert W20
                          revert g3
                          revert g2
                          revert g1
                          exact hsh4.out
                    · intro g1 g2 g3 W21 HS21
                      refine wpR_keep #[true, true, true, true, true, true, true, true, true, true, true, true, true, true, true, true, true, true, false, true, true, true, false, false, false, false] (i := 14) rfl (by kernel_rfl) (fun K hK => ?_)
                      refine Eq.mpr (if_pos (by rfl)) ?_
                      refine wp_append_row (v := .slice (some ⟨g1, 0, none⟩) 0 0) (n := 0) (cs := []) (A := A3) (m := 128) (c := c3) (news := b8s x.c.written) slB8 rfl rfl rfl (HS21.out.row_nil 5 1 _) (HC.out _ (by first | exact HS21.out | exact HS21.out.right | exact HS21.out.right.right | exact HS21.out.right.right.right)).2.2.2 (by rw [b8s_length]; exact hlen.out) (b8s_one _) (by unfold maxLen; omega) (by omega) (fun vv W22 hn22 => ?_)
                      rw [List.nil_append, Nat.zero_add] at hn22
                      obtain ⟨E1, e1, rfl, -, -⟩ := hn22.row_slice
                      refine hK _ _ (by first | exact hn22 | exact hn22.right | exact hn22.right.right | exact hn22.right.right.right) ?_
                      clear hK K
                      have HS22 : Aside (Sat E W22 (HP.row 5 1 (.slice E1 128 e1) 128 (b8s x.c.written) * (HP.pt B (.cells #[.slice A0 128 c0, .slice A1 128 c1, .slice A2 128 c2, .slice A3 128 c3, .bool true] 176) * (HP.rdk y room fuse (.slice (some ⟨g, o, none⟩) n cF) fs' L' * q)))) := ⟨hn22.perm (by ac_rfl)⟩
                      clear hn22 HS21
                      revert HS22
                      revert W22
                      revert g3
                      revert g2
                      revert e1
                      revert E1
                      revert g1
                      exact hsh1.out
                  · intro g1 E1 e1 g3 W23 HS23
                    refine wpR_keep #[true, true, true, true, true, true, true, true, true, true, true, true, true, true, true, true, true, true, false, true, true, true, false, false, false, false] (i := 15) rfl (by kernel_rfl) (fun K hK => ?_)
                    go_simp
                    obtain ⟨W24, hW24⟩ : ∃ x, x = World.alloc W23 (.cells #[] 5) := ⟨_, rfl⟩
                    have hn24 : Sat E W24 (HP.row 5 1 (.slice E1 128 e1) 128 (b8s x.c.written) * (HP.pt B (.cells #[.slice A0 128 c0, .slice A1 128 c1, .slice A2 128 c2, .slice A3 128 c3, .bool true] 176) * (HP.rdk y room fuse (.slice (some ⟨g, o, none⟩) n cF) fs' L' * q))) := by rw [hW24]; exact (HS23.out.alloc _).right
                    rw [← hW24]
                    refine hK _ _ (by first | exact hn24 | exact hn24.right | exact hn24.right.right | exact hn24.right.right.right) ?_
                    clear hK K hW24
                    generalize World.heap W23 = hp0
                    generalize Array.size hp0 = g2
                    have HS24 : Aside (Sat E W24 (HP.row 5 1 (.slice E1 128 e1) 128 (b8s x.c.written) * (HP.pt B (.cells #[.slice A0 128 c0, .slice A1 128 c1, .slice A2 128 c2, .slice A3 128 c3, .bool true] 176) * (HP.rdk y room fuse (.slice (some ⟨g, o, none⟩) n cF) fs' L' * q)))) := ⟨hn24.perm (by ac_rfl)⟩
                    clear hn24 HS23
                    revert HS24
                    revert W24
                    revert g3
                    revert g2
                    revert e1
                    revert E1
                    revert g1
                    exact hsh1.out
                · intro g1 E1 e1 g2 W25 HS25
                  refine wpR_many [18, 19] rfl (by kernel_rfl) ?_
                  refine List.forall_mem_cons.2 ⟨?_, List.forall_mem_cons.2 ⟨?_, (fun _ h => by cases h)⟩⟩
                  · refine br_keep #[true, true, true, true, true, true, true, true, true, true, true, true, true, true, true, true, true, true, true, false, true, true, false, false, false, false] rfl (by kernel_rfl) (fun K hK => ?_)
                    refine Eq.mpr (if_pos (by rfl)) ?_
                    refine wp_append_row (v := .slice (some ⟨g2, 0, none⟩) 0 0) (n := 0) (cs := []) (A := A3) (m := 128) (c := c3) (news := b8s x.c.written) slB8 rfl rfl rfl (HS25.out.row_nil 5 1 _) (HC.out _ (by first | exact HS25.out | exact HS25.out.right | exact HS25.out.right.right | exact HS25.out.right.right.right)).2.2.2 (by rw [b8s_length]; exact hlen.out) (b8s_one _) (by unfold maxLen; omega) (by omega) (fun vv W26 hn26 => ?_)
                    rw [List.nil_append, Nat.zero_add] at hn26
                    obtain ⟨E2, e2, rfl, -, -⟩ := hn26.row_slice
                    refine hK _ _ (by first | exact hn26 | exact hn26.right | exact hn26.right.right | exact hn26.right.right.right) ?_
                    clear hK K
                    have HS26 : Aside (Sat E W26 (HP.row 5 1 (.slice E1 128 e1) 128 (b8s x.c.written) * (HP.row 5 1 (.slice E2 128 e2) 128 (b8s x.c.written) * (HP.pt B (.cells #[.slice A0 128 c0, .slice A1 128 c1, .slice A2 128 c2, .slice A3 128 c3, .bool true] 176) * (HP.rdk y room fuse (.slice (some ⟨g, o, none⟩) n cF) fs' L' * q))))) := ⟨hn26.perm (by ac_rfl)⟩
                    clear hn26 HS25
                    refine wpR_keep #[true, true, true, true, true, true, true, true, true, true, true, true, true, true, true, true, true, true, true, true, true, true, false, false, false, false] (i := 19) rfl (by kernel_rfl) (fun K hK => ?_)
                    go_simp
                    obtain ⟨W27, hW27⟩ : ∃ x, x = World.alloc W26 (.cells #[] 5) := ⟨_, rfl⟩
                    have hn27 : Sat E W27 (HP.row 5 1 (.slice E1 128 e1) 128 (b8s x.c.written) * (HP.row 5 1 (.slice E2 128 e2) 128 (b8s x.c.written) * (HP.pt B (.cells #[.slice A0 128 c0, .slice A1 128 c1, .slice A2 128 c2, .slice A3 128 c3, .bool true] 176) * (HP.rdk y room fuse (.slice (some ⟨g, o, none⟩) n cF) fs' L' * q)))) := by rw [hW27]; exact (HS26.out.alloc _).right
                    rw [← hW27]
                    refine hK _ _ (by first | exact hn27 | exact hn27.right | exact hn27.right.right | exact hn27.right.right.right) ?_
                    clear hK K hW27
                    generalize World.heap W26 = hp0
                    generalize Array.size hp0 = g3
                    have HS27 : Aside (Sat E W27 (HP.row 5 1 (.slice E1 128 e1) 128 (b8s x.c.written) * (HP.row 5 1 (.slice E2 128 e2) 128 (b8s x.c.written) * (HP.pt B (.cells #[.slice A0 128 c0, .slice A1 128 c1, .slice A2 128 c2, .slice A3 128 c3, .bool true] 176) * (HP.rdk y room fuse (.slice (some ⟨g, o, none⟩) n cF) fs' L' * q))))) := ⟨hn27.perm (by ac_rfl)⟩
                    clear hn27 HS26
                    revert HS27
                    revert W27
                    revert g3
                    revert e2
                    revert E2
                    revert g2
                    revert e1
                    revert E1
                    revert g1
                    exact hsh0.out
                  · refine br_keep #[true, true, true, true, true, true, true, true, true, true, true, true, true, true, true, true, true, true, false, true, true, true, false, false, false, false] rfl (by kernel_rfl) (fun K hK => ?_)
                    go_simp
                    obtain ⟨W28, hW28⟩ : ∃ x, x = World.alloc W25 (.cells #[] 5) := ⟨_, rfl⟩
                    have hn28 : Sat E W28 (HP.row 5 1 (.slice E1 128 e1) 128 (b8s x.c.written) * (HP.pt B (.cells #[.slice A0 128 c0, .slice A1 128 c1, .slice A2 128 c2, .slice A3 128 c3, .bool true] 176) * (HP.rdk y room fuse (.slice (some ⟨g, o, none⟩) n cF) fs' L' * q))) := by rw [hW28]; exact (HS25.out.alloc _).right
                    rw [← hW28]
                    refine hK _ _ (by first | exact hn28 | exact hn28.right | exact hn28.right.right | exact hn28.right.right.right) ?_
                    clear hK K hW28
                    generalize World.heap W25 = hp0
                    generalize Array.size hp0 = g3
                    have HS28 : Aside (Sat E W28 (HP.row 5 1 (.slice E1 128 e1) 128 (b8s x.c.written) * (HP.pt B (.cells #[.slice A0 128 c0, .slice A1 128 c1, .slice A2 128 c2, .slice A3 128 c3, .bool true] 176) * (HP.rdk y room fuse (.slice (some ⟨g, o, none⟩) n cF) fs' L' * q)))) := ⟨hn28.perm (by ac_rfl)⟩
                    clear hn28 HS25
                    revert HS28
                    revert W28
                    revert g3
                    revert g2
                    revert e1
                    revert E1
                    revert g1
                    exact hsh1.out
              · intro g1 E1 e1 g2 g3 W29 HS29
                refine wpR_keep #[true, true, true, true, true, true, true, true, true, true, true, true, true, true, true, true, true, true, true, true, true, true, false, false, false, false] (i := 18) rfl (by kernel_rfl) (fun K hK => ?_)
                refine Eq.mpr (if_pos (by rfl)) ?_
                refine wp_append_row (v := .slice (some ⟨g2, 0, none⟩) 0 0) (n := 0) (cs := []) (A := A3) (m := 128) (c := c3) (news := b8s x.c.written) slB8 rfl rfl rfl (HS29.out.row_nil 5 1 _) (HC.out _ (by first | exact HS29.out | exact HS29.out.right | exact HS29.out.right.right | exact HS29.out.right.right.right)).2.2.2 (by rw [b8s_length]; exact hlen.out) (b8s_one _) (by unfold maxLen; omega) (by omega) (fun vv W30 hn30 => ?_)
                rw [List.nil_append, Nat.zero_add] at hn30
                obtain ⟨E2, e2, rfl, -, -⟩ := hn30.row_slice
                refine hK _ _ (by first | exact hn30 | exact hn30.right | exact hn30.right.right | exact hn30.right.right.right) ?_
                clear hK K
                have HS30 : Aside (Sat E W30 (HP.row 5 1 (.slice E1 128 e1) 128 (b8s x.c.written) * (HP.row 5 1 (.slice E2 128 e2) 128 (b8s x.c.written) * (HP.pt B (.cells #[.slice A0 128 c0, .slice A1 128 c1, .slice A2 128 c2, .slice A3 128 c3, .bool true] 176) * (HP.rdk y room fuse (.slice (some ⟨g, o, none⟩) n cF) fs' L' * q))))) := ⟨hn30.perm (by ac_rfl)⟩
                clear hn30 HS29
                revert HS30
                revert W30
                revert g3
                revert e2
                revert E2
                revert g2
                revert e1
                revert E1
                revert g1
                exact hsh0.out
            · intro g1 E1 e1 g2 E2 e2 g3 W31 HS31
              refine wpR_keep #[true, true, true, true, true, true, true, true, true, true, true, true, true, true, true, true, true, true, true, true, true, true, true, false, false, false] (i := 22) rfl (by kernel_rfl) (fun K hK => ?_)
              refine Eq.mpr (if_pos (by rfl)) ?_
              refine wp_append_row (v := .slice (some ⟨g3, 0, none⟩) 0 0) (n := 0) (cs := []) (A := A3) (m := 128) (c := c3) (news := b8s x.c.written) slB8 rfl rfl rfl (HS31.out.row_nil 5 1 _) (HC.out _ (by first | exact HS31.out | exact HS31.out.right | exact HS31.out.right.right | exact HS31.out.right.right.right)).2.2.2 (by rw [b8s_length]; exact hlen.out) (b8s_one _) (by unfold maxLen; omega) (by omega) (fun vv W32 hn32 => ?_)
              rw [List.nil_append, Nat.zero_add] at hn32
              obtain ⟨E3, e3, rfl, -, -⟩ := hn32.row_slice
              refine hK _ _ (by first | exact hn32 | exact hn32.right | exact hn32.right.right | exact hn32.right.right.right) ?_
              clear hK K
              have HS32 : Aside (Sat E W32 (HP.row 5 1 (.slice E1 128 e1) 128 (b8s x.c.written) * (HP.row 5 1 (.slice E2 128 e2) 128 (b8s x.c.written) * (HP.row 5 1 (.slice E3 128 e3) 128 (b8s x.c.written) * (HP.pt B (.cells #[.slice A0 128 c0, .slice A1 128 c1, .slice A2 128 c2, .slice A3 128 c3, .bool true] 176) * (HP.rdk y room fuse (.slice (some ⟨g, o, none⟩) n cF) fs' L' * q)))))) := ⟨hn32.perm (by ac_rfl)⟩
              clear hn32 HS31
              refine wpR_rd 23 #[true, true, true, true, true, true, true, true, true, true, true, true, true, true, true, true, true, true, true, true, true, true, true, true, false, false] rfl onlyN_noPanic (by kernel_rfl) (fun K hK => ?_); (go_simp; try go_bits); refine hK _ ?_; clear hK K
              refine wpR_rd 24 #[true, true, true, true, true, true, true, true, true, true, true, true, true, true, true, true, true, true, true, true, true, true, true, true, true, false] rfl onlyN_noPanic (by kernel_rfl) (fun K hK => ?_); (go_simp; try go_bits); refine hK _ ?_; clear hK K
              refine wpR_eff #[true, true, true, true, true, true, true, true, true, true, true, true, true, true, true, true, true, true, true, true, true, true, true, true, true, true] (i := 25) rfl (by kernel_rfl) (fun K hK => ?_)
              have hn33a : Sat E W32 (HP.rdk y room fuse (.slice (some ⟨g, o, none⟩) n cF) fs' L' * ((HP.row 5 1 (.slice E3 128 e3) 128 (b8s x.c.written) * (HP.row 5 1 (.slice E2 128 e2) 128 (b8s x.c.written) * HP.row 5 1 (.slice E1 128 e1) 128 (b8s x.c.written))) * (HP.pt B (.cells #[.slice A0 128 c0, .slice A1 128 c1, .slice A2 128 c2, .slice A3 128 c3, .bool true] 176) * q))) := HS32.out.perm (by ac_rfl)
              obtain ⟨W33, hn33r, hn33b⟩ := hn33a.rc_storeAgg HF.out.1 HF.out.2.1 hltA.out (⟨⟨x.c.written, x.c.written, x.c.written, x.c.written, false⟩, .slice A3 128 c3, .slice E1 128 e1, .slice E2 128 e2, .slice E3 128 e3⟩ : RC) rfl
              refine Eq.mpr (if_pos (by rfl)) ?_
              refine wp_store_run rfl rfl rfl rfl hn33r ?_
              have hn33 : Sat E W33 (HP.pt B (.cells #[.slice A0 128 c0, .slice A1 128 c1, .slice A2 128 c2, .slice A3 128 c3, .bool true] 176) * (HP.rdk y room fuse (.slice (some ⟨g, o, none⟩) n cF) (setRC fs' k i (⟨⟨x.c.written, x.c.written, x.c.written, x.c.written, false⟩, .slice A3 128 c3, .slice E1 128 e1, .slice E2 128 e2, .slice E3 128 e3⟩ : RC)) ((.slice E1 128 e1, x.c.written) :: (.slice E2 128 e2, x.c.written) :: (.slice E3 128 e3, x.c.written) :: L') * q)) := sync_push hn33b
              refine hK _ _ ?_
              clear hK K hn33a hn33r hn33b
              have HS33 : Aside (Sat E W33 (HP.pt B (.cells #[.slice A0 128 c0, .slice A1 128 c1, .slice A2 128 c2, .slice A3 128 c3, .bool true] 176) * (HP.rdk y room fuse (.slice (some ⟨g, o, none⟩) n cF) (setRC fs' k i (⟨⟨x.c.written, x.c.written, x.c.written, x.c.written, false⟩, .slice A3 128 c3, .slice E1 128 e1, .slice E2 128 e2, .slice E3 128 e3⟩ : RC)) ((.slice E1 128 e1, x.c.written) :: (.slice E2 128 e2, x.c.written) :: (.slice E3 128 e3, x.c.written) :: L') * q))) := ⟨hn33.perm (by ac_rfl)⟩
              clear hn33 HS32
              refine wpR_done (by kernel_rfl) ?_ _
              simp only [OnlyN]
              have HR2 : Aside (SyR A name k l (some ⟨gc, oc, none⟩) vn VC (i + 1) (setRC fs' k i (⟨⟨x.c.written, x.c.written, x.c.written, x.c.written, false⟩, .slice A3 128 c3, .slice E1 128 e1, .slice E2 128 e2, .slice E3 128 e3⟩ : RC)) ((.slice E1 128 e1, x.c.written) :: (.slice E2 128 e2, x.c.written) :: (.slice E3 128 e3, x.c.written) :: L') { f' with cs := f'.cs.set i (⟨⟨x.c.written, x.c.written, x.c.written, x.c.written, false⟩, .slice A3 128 c3, .slice E1 128 e1, .slice E2 128 e2, .slice E3 128 e3⟩ : RC) }) := ⟨sync_step HR.out HF.out.2.2 HIN.out.2.2 hltA.out HWT.out HIN.out.2.1 HIN.out.1 HE3.out HKA.out⟩
              have HS9 := Aside.mk HS33.out.right
              clear HS33
              go_wp2
              go_roundw
              case rel => exact ⟨i + 1, _, _, _, by omega, by go_num, HR2, ⟨by rw [setRC_len]; exact HN2.out⟩, HS9⟩
              case measure => simp [intOf]; omega
        · obtain rfl : i = vn := by omega
          go_wp2
          go_ret
          rw [HA.out]
          refine ⟨rfl, Sat.rdisk_close (v := .slice (some ⟨g, o, none⟩) n cF) (fs := fs') (L := L') ?_ ?_⟩
          · have h := HR.out.view
            have e : syL l i = l.map Cel.syncd := by unfold syL; rw [List.take_of_length_le (by rw [HLL.out]; exact Nat.le_refl _), List.drop_eq_nil_of_le (by rw [HLL.out]; exact Nat.le_refl _), List.append_nil]
            rw [e] at h
            unfold Dk.set
            rw [show A.burnt.files = A.files from rfl, putF_at HV.out.fine.sorted HKA.out]
            exact h
          · have h := HS2.out
            rw [HFR.out.1, HFR.out.2] at h
            exact h
  · rw [h1] at HPl
    have HA : Aside (AR = (30, A)) := ⟨by rw [hAR]; unfold Dk.sync; rw [hv.lk_none h2]⟩
    have HV := Aside.mk hv
    clear hv h1 h2 hAR
    go_enter Tryz.func69, Tryz.ntmps69
    go_wp2_with fail
    refine HPl.out.mono ?_
    rintro e w1 ⟨rfl, h1⟩
    have HS := Aside.mk h1
    clear h1
    go_wp2
    go_ret
    rw [HA.out]
    exact ⟨rfl, Sat.rdisk_close HV.out HS.out⟩
theorem putF_mem {α : Type} {s : ByteArray} {v : α} : ∀ {l : List (ByteArray × α)} {x : ByteArray × α}, x ∈ putF l s v → x = (s, v) ∨ x ∈ l
  | [], x, h => .inl (by simpa [putF] using h)
  | (t, u) :: l, x, h => by
    unfold putF at h
    split at h
    · rcases List.mem_cons.1 h with h | h
      · exact .inl h
      · exact .inr (List.mem_cons_of_mem _ h)
    · split at h
      · rcases List.mem_cons.1 h with h | h
        · exact .inl h
        · exact .inr h
      · rcases List.mem_cons.1 h with h | h
        · exact .inr (by rw [h]; exact List.mem_cons_self ..)
        · exact (putF_mem h).imp id (List.mem_cons_of_mem _)
def Dk.Whole (A : Dk) : Prop := ∀ x ∈ A.files, ∀ c ∈ x.2, c.durable = c.synced
theorem Dk.Whole.at {A : Dk} (h : A.Whole) (s : ByteArray) : ∀ c ∈ A.at s, c.durable = c.synced := fun c hc => by
  unfold Dk.at at hc
  cases hl : lk A.files s with
  | none => rw [hl] at hc; cases hc
  | some l => rw [hl] at hc; exact h _ (lk_mem hl) c hc
theorem Dk.Whole.set {A : Dk} (h : A.Whole) {s : ByteArray} {l : List Cel} (hl : ∀ c ∈ l, c.durable = c.synced) : (A.set s l).Whole := fun x hx c hc => by
  rcases putF_mem hx with rfl | hx
  · exact hl c hc
  · exact h x hx c hc
theorem Dk.Whole.burnt {A : Dk} (h : A.Whole) : A.burnt.Whole := h
theorem Dk.Whole.write {A : Dk} (h : A.Whole) (s : ByteArray) (i : Int) (b : List Int) : (A.write s i b).2.Whole := by
  unfold Dk.write
  split
  · exact h
  · split
    · exact h.burnt
    · split
      · exact h.burnt
      · split
        · refine h.burnt.set fun c hc => ?_
          rcases List.mem_append.1 hc with hc | hc
          · exact h.at s c hc
          · rw [List.mem_singleton.1 hc]; rfl
        · refine h.burnt.set fun c hc => ?_
          obtain ⟨j, hj⟩ := List.getElem?_of_mem hc
          rw [List.getElem?_modify] at hj
          cases hg : (A.at s)[j]? with
          | none => rw [hg] at hj; cases hj
          | some c0 =>
            rw [hg] at hj
            have := h.at s c0 (List.mem_of_getElem? hg)
            simp only [Option.map_eq_map, Option.map_some, Option.some.injEq] at hj
            split at hj <;> (subst hj; exact this)
theorem Dk.Whole.sync {A : Dk} (h : A.Whole) (s : ByteArray) : (A.sync s).2.Whole := by
  unfold Dk.sync
  cases hl : lk A.files s with
  | none => exact h
  | some l =>
    dsimp only
    split
    · exact h.burnt
    · refine h.burnt.set fun c hc => ?_
      obtain ⟨c0, hc0, rfl⟩ := List.mem_map.1 hc
      unfold Cel.syncd
      split
      · rfl
      · exact h _ (lk_mem hl) c0 hc0
theorem Dk.Whole.remove {A : Dk} (h : A.Whole) (s : ByteArray) : (A.remove s).2.Whole := by
  unfold Dk.remove
  cases hl : lk A.files s with
  | none => exact h
  | some l =>
    dsimp only
    split
    · exact h.burnt
    · exact fun x hx c hc => h x (List.mem_filter.1 hx).1 c hc
theorem spotsN_nil {s : ByteArray} {l : List Cel} (h : ∀ c ∈ l, c.bad = false) : ∀ k, spotsN s l k = []
  | 0 => rfl
  | k + 1 => by
    rw [spotsN, spotsN_nil h k]
    cases hk : l[k]? with
    | none => rfl
    | some c => simp [h c (List.mem_of_getElem? hk)]
theorem damaged_nil {A : Dk} (h : ∀ x ∈ A.files, ∀ c ∈ x.2, c.bad = false) : A.damaged = [] := by
  unfold Dk.damaged
  rw [List.flatMap_eq_nil_iff]
  exact fun x hx => spotsN_nil (h x hx) _
theorem Dk.Whole.damaged {A : Dk} (h : A.Whole) : A.damaged = [] := damaged_nil fun x hx c hc => by
  simp [Cel.bad, h x hx c hc]
theorem keepOf_whole {K : List Kep} (hK : ∀ k ∈ K, k.bytes = 128) (s : ByteArray) (i : Int) : keepOf K s i = 0 ∨ keepOf K s i = 128 := by
  unfold keepOf
  cases hf : K.find? (fun k => decide (k.name = s) && decide (k.index = i)) with
  | none => exact .inl rfl
  | some k => exact .inr (by dsimp only; rw [hK k (List.mem_of_find?_eq_some hf)]; rfl)
theorem Dk.Whole.crash {A : Dk} (h : A.Whole) (hf : A.Fine) {K : List Kep} (hK : ∀ k ∈ K, k.bytes = 128) : (A.crash K).damaged = [] := damaged_nil fun x hx c hc => by
  obtain ⟨y, hy, rfl⟩ := List.mem_map.1 hx
  unfold crashL at hc
  obtain ⟨j, hj⟩ := List.getElem?_of_mem hc
  rw [List.getElem?_mapIdx] at hj
  cases hg : y.2[j]? with
  | none => rw [hg] at hj; cases hj
  | some c0 =>
    rw [hg] at hj
    simp only [Option.map_some, Option.some.injEq] at hj
    subst hj
    have hm := List.mem_of_getElem? hg
    have e := h y hy c0 hm
    obtain ⟨-, h2, h3, h4⟩ := hf.cels y hy c0 hm
    unfold Cel.crashd
    split
    · rcases keepOf_whole hK y.1 j with hk | hk
      · rw [hk]; simp [Cel.bad, e]
      · rw [hk]
        have e1 : c0.written.take (128 : Int).toNat ++ c0.durable.drop (128 : Int).toNat = c0.written := by
          rw [show (128 : Int).toNat = 128 from rfl, List.take_of_length_le (by omega), List.drop_eq_nil_of_le (by omega), List.append_nil]
        rw [e1]; simp [Cel.bad]
    · simp [Cel.bad, e]
def Cel.Byt (c : Cel) : Prop := Bytes c.read ∧ Bytes c.durable ∧ Bytes c.synced ∧ Bytes c.written
def Dk.Byt (A : Dk) : Prop := ∀ x ∈ A.files, ∀ c ∈ x.2, c.Byt
theorem z128_byt : Bytes z128 := fun x hx => by have := List.eq_of_mem_replicate hx; omega
theorem Dk.Byt.new (room : Int) : (Dk.new room).Byt := fun x hx => by cases hx
theorem Dk.Byt.at {A : Dk} (h : A.Byt) (s : ByteArray) : ∀ c ∈ A.at s, c.Byt := fun c hc => by
  unfold Dk.at at hc
  cases hl : lk A.files s with
  | none => rw [hl] at hc; cases hc
  | some l => rw [hl] at hc; exact h _ (lk_mem hl) c hc
theorem Dk.Byt.set {A : Dk} (h : A.Byt) {s : ByteArray} {l : List Cel} (hl : ∀ c ∈ l, c.Byt) : (A.set s l).Byt := fun x hx c hc => by
  rcases putF_mem hx with rfl | hx
  · exact hl c hc
  · exact h x hx c hc
theorem Dk.Byt.burnt {A : Dk} (h : A.Byt) : A.burnt.Byt := h
theorem Dk.Byt.fuse {A : Dk} (h : A.Byt) (u : Int) : ({ A with fuse := u } : Dk).Byt := h
theorem Cel.Byt.wrote {c : Cel} (h : c.Byt) {b : List Int} (hb : Bytes b) : (c.wrote b).Byt := ⟨hb, h.2.1, h.2.2.1, hb⟩
theorem Dk.Byt.write {A : Dk} (h : A.Byt) (s : ByteArray) (i : Int) {b : List Int} (hb : Bytes b) : (A.write s i b).2.Byt := by
  unfold Dk.write
  split
  · exact h
  · split
    · exact h.burnt
    · split
      · exact h.burnt
      · split
        · refine h.burnt.set fun c hc => ?_
          rcases List.mem_append.1 hc with hc | hc
          · exact h.at s c hc
          · rw [List.mem_singleton.1 hc]
            exact Cel.Byt.wrote ⟨z128_byt, z128_byt, z128_byt, z128_byt⟩ hb
        · refine h.burnt.set fun c hc => ?_
          obtain ⟨j, hj⟩ := List.getElem?_of_mem hc
          rw [List.getElem?_modify] at hj
          cases hg : (A.at s)[j]? with
          | none => rw [hg] at hj; cases hj
          | some c0 =>
            rw [hg] at hj
            have := h.at s c0 (List.mem_of_getElem? hg)
            simp only [Option.map_eq_map, Option.map_some, Option.some.injEq] at hj
            split at hj
            · subst hj; exact this.wrote hb
            · subst hj; exact this
theorem Dk.Byt.sync {A : Dk} (h : A.Byt) (s : ByteArray) : (A.sync s).2.Byt := by
  unfold Dk.sync
  cases hl : lk A.files s with
  | none => exact h
  | some l =>
    dsimp only
    split
    · exact h.burnt
    · refine h.burnt.set fun c hc => ?_
      obtain ⟨c0, hc0, rfl⟩ := List.mem_map.1 hc
      have := h _ (lk_mem hl) c0 hc0
      unfold Cel.syncd
      split
      · exact ⟨this.2.2.2, this.2.2.2, this.2.2.2, this.2.2.2⟩
      · exact this
theorem Dk.Byt.remove {A : Dk} (h : A.Byt) (s : ByteArray) : (A.remove s).2.Byt := by
  unfold Dk.remove
  cases hl : lk A.files s with
  | none => exact h
  | some l =>
    dsimp only
    split
    · exact h.burnt
    · exact fun x hx c hc => h x (List.mem_filter.1 hx).1 c hc
theorem xorAt_byt {l : List Int} (h : Bytes l) (k : Nat) {m : Int} (h0 : 0 ≤ m) (h1 : m ≤ 255) : Bytes (xorAt l k m) := fun x hx => by
  unfold xorAt at hx
  rcases List.mem_or_eq_of_mem_set hx with hx | rfl
  · exact h x hx
  · have hg : 0 ≤ l.getD k 0 ∧ l.getD k 0 ≤ 255 := by
      unfold List.getD
      cases hk : l[k]? with
      | none => simp
      | some x => exact h x (List.mem_of_getElem? hk)
    unfold xorB
    rw [u8_xor _ m hg.1 (by omega) h0 (by omega)]
    have := Nat.xor_lt_two_pow (n := 8) (x := (l.getD k 0).toNat) (y := m.toNat) (by omega) (by omega)
    omega
theorem Dk.Byt.rot {A : Dk} (h : A.Byt) (s : ByteArray) (i a : Int) {m : Int} (h0 : 0 ≤ m) (h1 : m ≤ 255) : (A.rot s i a m).2.Byt := by
  unfold Dk.rot
  cases hc : A.cel s i with
  | none => exact h
  | some c =>
    dsimp only
    split
    · exact h
    · refine h.set fun c' hc' => ?_
      have hcm : c ∈ A.at s := by
        unfold Dk.cel at hc
        split at hc
        · exact List.mem_of_getElem? hc
        · cases hc
      rcases List.mem_or_eq_of_mem_set hc' with hc' | rfl
      · exact h.at s c' hc'
      · have := h.at s c hcm
        unfold Cel.rotd
        split
        · exact ⟨this.1, xorAt_byt this.2.1 _ h0 h1, this.2.2.1, this.2.2.2⟩
        · exact ⟨xorAt_byt this.1 _ h0 h1, xorAt_byt this.2.1 _ h0 h1, this.2.2.1, this.2.2.2⟩
theorem Dk.Byt.crash {A : Dk} (h : A.Byt) (K : List Kep) : (A.crash K).Byt := fun x hx c hc => by
  obtain ⟨y, hy, rfl⟩ := List.mem_map.1 hx
  unfold crashL at hc
  obtain ⟨j, hj⟩ := List.getElem?_of_mem hc
  rw [List.getElem?_mapIdx] at hj
  cases hg : y.2[j]? with
  | none => rw [hg] at hj; cases hj
  | some c0 =>
    rw [hg] at hj
    simp only [Option.map_some, Option.some.injEq] at hj
    subst hj
    have := h y hy c0 (List.mem_of_getElem? hg)
    unfold Cel.crashd
    split
    · have hm : Bytes (c0.written.take (keepOf K y.1 j).toNat ++ c0.durable.drop (keepOf K y.1 j).toNat) := fun x hx => by
        rcases List.mem_append.1 hx with hx | hx
        · exact this.2.2.2 x (List.mem_of_mem_take hx)
        · exact this.2.1 x (List.mem_of_mem_drop hx)
      exact ⟨hm, hm, this.2.2.1, this.2.2.2⟩
    · exact this
theorem RView.ins {A : Dk} {fs : List RF} {L L' : List (Value × List Int)} (hv : RView A fs L) {name : ByteArray} {k : Nat} (hb : ∀ j < k, ∀ g, fs[j]? = some g → ltN g.name name = true) (hk : k ≤ fs.length) (ha : ∀ g, fs[k]? = some g → g.name ≠ name ∧ ltN g.name name = false)
    (val : Value) (cs : List RC) (hn : namedB name = true) (hne : cs ≠ []) (hc : ∀ x ∈ cs, x.In L' ∧ x.c.Fine) (hL : ∀ z ∈ L, z ∈ L') (hz : sizeF (putF A.files name (cs.map (·.c))) ≤ A.room) :
    RView (A.set name (cs.map (·.c))) (fs.take k ++ (⟨name, val, cs⟩ : RF) :: fs.drop k) L' := by
  have hput : putF A.files name (cs.map (·.c)) = A.files.take k ++ (name, cs.map (·.c)) :: A.files.drop k := by
    refine putF_new (fun j hj x hx => ?_) (by rw [← hv.len]; exact hk) (fun x hx => ?_)
    · rw [← hv.same, List.getElem?_map] at hx
      cases hg : fs[j]? with
      | none => rw [hg] at hx; cases hx
      | some g => rw [hg] at hx; cases hx; exact hb j hj g hg
    · rw [← hv.same, List.getElem?_map] at hx
      cases hg : fs[k]? with
      | none => rw [hg] at hx; cases hx
      | some g => rw [hg] at hx; cases hx; exact ha g hg
  refine ⟨?_, ?_, ?_⟩
  · unfold Dk.set
    rw [hput, ← hv.same, List.map_append, List.map_cons, List.map_take, List.map_drop]
  · intro f hf x hx
    have mono : ∀ {z : RC}, z.In L → z.In L' := fun h => ⟨hL _ h.1, hL _ h.2.1, hL _ h.2.2.1, hL _ h.2.2.2⟩
    rcases List.mem_append.1 hf with hf | hf
    · exact mono (hv.imgs f (List.mem_of_mem_take hf) x hx)
    · rcases List.mem_cons.1 hf with rfl | hf
      · exact (hc x hx).1
      · exact mono (hv.imgs f (List.mem_of_mem_drop hf) x hx)
  · refine Dk.Fine.set hv.fine hn (by simpa using hne) (fun c hcm => ?_) hz
    obtain ⟨x, hx, rfl⟩ := List.mem_map.1 hcm
    exact (hc x hx).2
def crP (K : List Kep) (s : ByteArray) (l : List Cel) (i : Nat) : List Cel := crashL K s (l.take i) ++ l.drop i
theorem crashL_len (K : List Kep) (s : ByteArray) (l : List Cel) : (crashL K s l).length = l.length := by unfold crashL; rw [List.length_mapIdx]
theorem crP_zero (K : List Kep) (s : ByteArray) (l : List Cel) : crP K s l 0 = l := by simp [crP, crashL]
theorem crP_end {K : List Kep} {s : ByteArray} {l : List Cel} : crP K s l l.length = crashL K s l := by simp [crP]
theorem crP_step {K : List Kep} {s : ByteArray} {l : List Cel} {i : Nat} {c : Cel} (h : l[i]? = some c) : (crP K s l i)[i]? = some c ∧ (crP K s l i).set i (c.crashd (keepOf K s i)) = crP K s l (i + 1) := by
  obtain ⟨hi, rfl⟩ := List.getElem?_eq_some_iff.1 h
  have hlen : (crashL K s (l.take i)).length = i := by rw [crashL_len, List.length_take]; omega
  unfold crP
  constructor
  · rw [List.getElem?_append_right (by omega), hlen, Nat.sub_self, List.getElem?_drop, Nat.add_zero, h]
  · rw [List.set_append_right _ _ (by omega), hlen, Nat.sub_self, List.drop_eq_getElem_cons hi, List.set_cons_zero, List.take_succ_eq_append_getElem hi]
    have e : crashL K s (l.take i ++ [l[i]]) = crashL K s (l.take i) ++ [l[i].crashd (keepOf K s i)] := by
      unfold crashL
      rw [List.mapIdx_append]
      simp [List.length_take, Nat.min_eq_left (Nat.le_of_lt hi)]
    rw [e, List.append_assoc]
    rfl
theorem Sat.rdk_ins {E : Env} {w : World} {q : HP} {y N k : Nat} {room fuse : Int} {v V : Value} {fs : List RF} {L : List (Value × List Int)} (name : ByteArray) (hN : N = (fs.take k ++ (⟨name, .slice none 0 0, []⟩ : RF) :: fs.drop k).length)
    (h : Sat E w (HP.row 174 2 V N ((fs.take k).flatMap RF.vals ++ [.string name, .slice none 0 0] ++ (fs.drop k).flatMap RF.vals) * (HP.rdk y room fuse v fs L * q))) :
    Sat E (w.setCell ⟨y, 1, none⟩ V) (HP.rdk y room fuse V (fs.take k ++ (⟨name, .slice none 0 0, []⟩ : RF) :: fs.drop k) L * q) := by
  refine Sat.rdk_files (v := v) hN ?_
  have ec : (fs.take k ++ (⟨name, .slice none 0 0, []⟩ : RF) :: fs.drop k).flatMap RF.vals = (fs.take k).flatMap RF.vals ++ [.string name, .slice none 0 0] ++ (fs.drop k).flatMap RF.vals := by
    rw [List.flatMap_append, List.flatMap_cons, List.append_assoc]
    rfl
  have e : HP.all ((fs.take k ++ (⟨name, .slice none 0 0, []⟩ : RF) :: fs.drop k).map HP.rcs) = HP.row 176 5 (.slice none 0 0) 0 [] * HP.all (fs.map HP.rcs) := by
    have e1 : HP.all (fs.map HP.rcs) = HP.all ((fs.take k).map HP.rcs) * HP.all ((fs.drop k).map HP.rcs) := by
      rw [← HP.all_append, ← List.map_append, List.take_append_drop]
    rw [List.map_append, List.map_cons, HP.all_append, HP.all_cons, e1]
    have e2 : HP.rcs (⟨name, .slice none 0 0, []⟩ : RF) = HP.row 176 5 (.slice none 0 0) 0 [] := rfl
    rw [e2]
    ac_rfl
  rw [ec, e]
  have h1 := h.row_nil 176 5 none
  unfold HP.rdk at h1
  exact (h1.perm (by ac_rfl : _ = HP.row 174 2 v fs.length (fs.flatMap RF.vals) * (HP.row 174 2 V N ((fs.take k).flatMap RF.vals ++ [.string name, .slice none 0 0] ++ (fs.drop k).flatMap RF.vals) * (HP.pt y (.cells #[.int .i64 room, v, .int .i64 fuse] 158) * ((HP.row 176 5 (.slice none 0 0) 0 [] * HP.all (fs.map HP.rcs)) * (HP.imgs L * q)))))).right
end Go.Proofs.YtnpinegpajbkeaaGreatDoor
