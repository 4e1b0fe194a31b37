/- Texts of one claim, one behind the other: RefK3, CmpA, DamC, DamS, WhP. -/
import Derived.Test.YtnpinegpajbkeaaGreatDoorRi10
import Derived.Laws.Cover1
import Derived.Sort.Grow
import Derived.Sort.Statements
set_option linter.unusedSimpArgs false
set_option linter.unusedVariables false
namespace Go.Proofs.YtnpinegpajbkeaaGreatDoor
open Go.RowKit HP
def syL (l : List Cel) (i : Nat) : List Cel := (l.take i).map Cel.syncd ++ l.drop i
theorem syL_step {l : List Cel} {i : Nat} {c : Cel} (h : l[i]? = some c) : (syL l i)[i]? = some c ∧ (syL l i).set i c.syncd = syL l (i + 1) := by
  obtain ⟨hi, rfl⟩ := List.getElem?_eq_some_iff.1 h
  have hlen : ((l.take i).map Cel.syncd).length = i := by simp; omega
  unfold syL
  constructor
  · rw [List.getElem?_append_right (by omega), hlen, Nat.sub_self, List.getElem?_drop, Nat.add_zero, h]
  · rw [List.set_append_right _ _ (by omega), hlen, Nat.sub_self, List.drop_eq_getElem_cons hi, List.set_cons_zero, List.take_succ_eq_append_getElem hi, List.map_append, List.append_assoc]
    rfl
theorem sync_push {E : Env} {w : World} {q R : HP} {y : Nat} {room fuse : Int} {v v1 v2 v3 : Value} {b : List Int} {fs : List RF} {L : List (Value × List Int)} (h : Sat E w (HP.rdk y room fuse v fs L * ((HP.row 5 1 v3 128 (b8s b) * (HP.row 5 1 v2 128 (b8s b) * HP.row 5 1 v1 128 (b8s b))) * (R * q)))) :
    Sat E w (R * (HP.rdk y room fuse v fs ((v1, b) :: (v2, b) :: (v3, b) :: L) * q)) := by
  have h1 : Sat E w (HP.rdk y room fuse v fs L * (HP.row 5 1 v3 128 (b8s b) * (HP.row 5 1 v2 128 (b8s b) * (HP.row 5 1 v1 128 (b8s b) * (R * q))))) := h.perm (by ac_rfl)
  have h2 := Sat.rdk_imgs_in (z := (v3, b)) h1
  have h3 := Sat.rdk_imgs_in (z := (v2, b)) h2
  have h4 := Sat.rdk_imgs_in (z := (v1, b)) h3
  exact h4.perm (by ac_rfl)
structure SyR (A : Dk) (name : ByteArray) (k : Nat) (l : List Cel) (VA : Option Addr) (vn VC i : Nat) (fs' : List RF) (L' : List (Value × List Int)) (f' : RF) : Prop where
  at_ : fs'[k]? = some f'
  nm : f'.name = name
  val : f'.val = .slice VA vn VC
  len : f'.cs.length = vn
  cels : f'.cs.map (·.c) = syL l i
  view : RView { A.burnt with files := A.files.set k (name, syL l i) } fs' L'
theorem sync_step {A : Dk} {name : ByteArray} {k : Nat} {l : List Cel} {VA : Option Addr} {vn VC i c3 e1 e2 e3 : Nat} {fs' : List RF} {L' : List (Value × List Int)} {f' : RF} {x : RC} {A3 E1 E2 E3 : Option Addr} (HR : SyR A name k l VA vn VC i fs' L' f') (hx : f'.cs[i]? = some x) (hl : l[i]? = some x.c) (hi : i < f'.cs.length) (hw : x.c.waits = true) (hf : x.c.Fine) (hin : x.In L') (h3 : x.vw = .slice A3 128 c3) (hkA : A.files[k]? = some (name, l)) :
    SyR A name k l VA vn VC (i + 1) (setRC fs' k i (⟨⟨x.c.written, x.c.written, x.c.written, x.c.written, false⟩, .slice A3 128 c3, .slice E1 128 e1, .slice E2 128 e2, .slice E3 128 e3⟩ : RC)) ((.slice E1 128 e1, x.c.written) :: (.slice E2 128 e2, x.c.written) :: (.slice E3 128 e3, x.c.written) :: L') { f' with cs := f'.cs.set i (⟨⟨x.c.written, x.c.written, x.c.written, x.c.written, false⟩, .slice A3 128 c3, .slice E1 128 e1, .slice E2 128 e2, .slice E3 128 e3⟩ : RC) } := by
  obtain ⟨X, hX⟩ : ∃ X : RC, X = ⟨⟨x.c.written, x.c.written, x.c.written, x.c.written, false⟩, .slice A3 128 c3, .slice E1 128 e1, .slice E2 128 e2, .slice E3 128 e3⟩ := ⟨_, rfl⟩
  have hXc : X.c = x.c.syncd := by rw [hX]; unfold Cel.syncd; rw [hw]; rfl
  rw [← hX]
  have hcels : (f'.cs.set i X).map (·.c) = syL l (i + 1) := by
    rw [List.map_set, HR.cels, hXc]
    exact (syL_step hl).2
  refine ⟨(setRC_at HR.at_ hi).1, HR.nm, HR.val, by rw [← HR.len]; exact List.length_set, hcels, ?_⟩
  have hv := HR.view.setRC HR.at_ hx (x' := X) (L' := (.slice E1 128 e1, x.c.written) :: (.slice E2 128 e2, x.c.written) :: (.slice E3 128 e3, x.c.written) :: L') (fun z hz => List.mem_cons_of_mem _ (List.mem_cons_of_mem _ (List.mem_cons_of_mem _ hz))) (by
    rw [hX]
    refine ⟨?_, List.mem_cons_self .., List.mem_cons_of_mem _ (List.mem_cons_self ..), List.mem_cons_of_mem _ (List.mem_cons_of_mem _ (List.mem_cons_self ..))⟩
    have := hin.2.2.2
    rw [h3] at this
    exact List.mem_cons_of_mem _ (List.mem_cons_of_mem _ (List.mem_cons_of_mem _ this))) (by rw [hX]; exact ⟨hf.2.2.2, hf.2.2.2, hf.2.2.2, hf.2.2.2⟩)
  have hlt : k < A.files.length := (List.getElem?_eq_some_iff.1 hkA).1
  have e : (({ A.burnt with files := A.files.set k (name, syL l i) } : Dk).set f'.name ((f'.cs.map (·.c)).set i X.c)) = { A.burnt with files := A.files.set k (name, syL l (i + 1)) } := by
    unfold Dk.set
    dsimp only
    rw [HR.nm, putF_at (k := k) (u := syL l i) HR.view.fine.sorted (by simp [hlt]), List.set_set, HR.cels, hXc, (syL_step hl).2]
  rw [e] at hv
  exact hv
set_option maxHeartbeats 8000000 in
set_option maxRecDepth 100000 in
theorem ref_sync (E : Env) (q : HP) (y : Nat) (A : Dk) (name : ByteArray) (w : World) (hw : Sat E w (HP.rdisk y A * q)) :
    Calls Tryz.prog 69 #[.pointer (some ⟨y, 0, none⟩), .string name] w fun e w' => e = .returned (.int .i64 (A.sync name).1) ∧ Sat E w' (HP.rdisk y (A.sync name).2 * q) := by
  obtain ⟨v, fs, L, hv, hk⟩ := hw.rdisk_open
  clear hw
  obtain ⟨FA, cF, rfl, hcF, hcM⟩ := hk.rdk_parts.s2.row_slice
  obtain ⟨n, hn⟩ : ∃ n, n = fs.length := ⟨_, rfl⟩
  have hfl := hv.flen
  rw [← hn] at hcF hk hfl
  have HN := Aside.mk hn
  have HW := Aside.mk hk
  clear hn hk
  obtain ⟨AR, hAR⟩ : ∃ AR, AR = A.sync name := ⟨_, rfl⟩
  rw [← hAR]
  have HPl := Aside.mk (ref_place E q y A.room A.fuse (.slice FA n cF) fs L name w (by rw [← HN.out]; exact hfl) HW.out)
  rcases plI_cases fs name with ⟨k, f, h1, h2, h3, h4⟩ | ⟨h1, h2⟩
  · rw [h1] at HPl
    have hkA : A.files[k]? = some (name, f.cs.map (·.c)) := by rw [← hv.same, List.getElem?_map, h2, ← h3]; rfl
    have hlk : lk A.files name = some (f.cs.map (·.c)) := lk_first hv.fine.sorted hkA
    have HV := Aside.mk hv
    have HF := Aside.mk (And.intro h2 h3)
    have HKA := Aside.mk hkA
    have hk0 : (0 : Int) ≤ (k : Int) := by omega
    have hkn : k < n := by rw [HN.out]; exact (List.getElem?_eq_some_iff.1 h2).1
    have hk1 : (k : Int) < (n : Int) := by omega
    cases hg : A.goes with
    | false =>
      have HA : Aside (AR = (31, A.burnt)) := ⟨by rw [hAR]; unfold Dk.sync; rw [hlk]; simp [hg]⟩
      have HG := Aside.mk hg
      clear hv h1 h2 h3 h4 hkA hlk hAR hg
      go_enter Tryz.func69, Tryz.ntmps69
      go_wp2_with fail
      refine HPl.out.mono ?_
      rintro e w1 ⟨rfl, h1⟩
      have HS := Aside.mk h1
      clear h1
      go_wp2_with fail
      refine (ref_stops E q y A _ fs L _ HV.out.fine.fuse HS.out).mono ?_
      rw [HG.out]
      rintro e w2 ⟨rfl, h2⟩
      have HS2 := Aside.mk h2
      clear h2 HS
      go_wp2
      go_ret
      rw [HA.out]
      exact ⟨rfl, Sat.rdisk_close (A := A.burnt) HV.out.burnt HS2.out⟩
    | true =>
      have HA : Aside (AR = (0, A.burnt.set name ((f.cs.map (·.c)).map Cel.syncd))) := ⟨by rw [hAR]; unfold Dk.sync; rw [hlk]; simp [hg]⟩
      have HG := Aside.mk hg
      clear hv h1 h2 h3 h4 hkA hlk hAR hg
      go_enter Tryz.func69, Tryz.ntmps69
      go_wp2_with fail
      refine HPl.out.mono ?_
      rintro e w1 ⟨rfl, h1⟩
      have HS := Aside.mk h1
      clear h1
      go_wp2_with fail
      refine (ref_stops E q y A _ fs L _ HV.out.fine.fuse HS.out).mono ?_
      rw [HG.out]
      rintro e w2 ⟨rfl, h2⟩
      have HS2 := Aside.mk h2
      clear h2 HS HW HPl
      obtain ⟨fuse, hfu⟩ : ∃ fuse, fuse = A.burnt.fuse := ⟨_, rfl⟩
      obtain ⟨room, hro⟩ : ∃ room, room = A.room := ⟨_, rfl⟩
      rw [← hfu, ← hro] at HS2
      have HFR := Aside.mk (And.intro hfu hro)
      clear hfu hro
      obtain ⟨g, o, VA, VC, rfl, hval, hvc, c0, c1⟩ := HS2.out.rf_at HN.out HF.out.1
      obtain ⟨vn, hvn⟩ : ∃ vn, vn = f.cs.length := ⟨_, rfl⟩
      rw [← hvn] at hval c1 hvc
      have hvs : vn ≤ 100000 := by
        have := at_small HV.out.fine name
        have e : A.at name = f.cs.map (·.c) := by unfold Dk.at; rw [lk_first HV.out.fine.sorted HKA.out]; rfl
        rw [e, List.length_map] at this
        omega
      obtain ⟨l, hl⟩ : ∃ l, l = f.cs.map (·.c) := ⟨_, rfl⟩
      rw [← hl] at HA HKA
      have HR0 : Aside (SyR A name k l VA vn VC 0 fs L f) := ⟨⟨HF.out.1, HF.out.2, hval, hvn.symm, by rw [hl]; simp [syL], by
        have h := HV.out.burnt
        have e : A.files.set k (name, syL l 0) = A.files := set_self (by rw [HKA.out]; simp [syL])
        rw [e]; exact h⟩⟩
      have hll : l.length = vn := by rw [hl, List.length_map, hvn]
      have HLL := Aside.mk hll
      have y1 := HS2.out.rdk_parts.cell 1
      simp only [List.getElem?_toArray, List.getElem?_cons_zero, List.getElem?_cons_succ] at y1
      clear hl hval hvn hll c0
      go_wp2
      go_loopw [24] (fun v24 wr => ∃ (i : Nat) (fs' : List RF) (L' : List (Value × List Int)) (f' : RF), i ≤ vn ∧ v24 = .int .i64 i ∧ Aside (SyR A name k l VA vn VC i fs' L' f') ∧ Aside (n = fs'.length) ∧ Aside (Sat E wr (HP.rdk y room fuse (.slice (some ⟨g, o, none⟩) n cF) fs' L' * q))) (fun i _ => vn - (intOf i).toNat)
      case atStart => exact ⟨0, fs, L, f, Nat.zero_le _, rfl, HR0, HN, HS2⟩
      case round =>
        clear HS2 HR0 y1 c1
        obtain ⟨i, fs', L', f', hi, rfl, HR, HN2, HS2⟩ := hrel
        by_cases hlt : i < vn
        · have hlt2 : (i : Int) < (vn : Int) := by omega
          have hi0 : (0 : Int) ≤ (i : Int) := by omega
          obtain ⟨x, hx⟩ : ∃ x, f'.cs[i]? = some x := ⟨_, List.getElem?_eq_getElem (by rw [HR.out.len]; exact hlt)⟩
          have hxl : l[i]? = some x.c := by
            have h := congrArg (fun l => l[i]?) HR.out.cels
            simp only [List.getElem?_map, hx, Option.map_some] at h
            obtain ⟨c, hc⟩ : ∃ c, l[i]? = some c := ⟨_, List.getElem?_eq_getElem (by rw [HLL.out]; exact hlt)⟩
            rw [(syL_step hc).1] at h
            cases h; exact hc
          have hval := HR.out.val
          have HF := Aside.mk (And.intro HR.out.at_ (And.intro hval hx))
          have hin := HR.out.view.imgs f' (List.mem_of_getElem? HR.out.at_) x (List.mem_of_getElem? hx)
          have hfin : x.c.Fine := by
            have hm : (f'.name, f'.cs.map (·.c)) ∈ A.files.set k (name, syL l i) := by
              have h : (f'.name, f'.cs.map (·.c)) ∈ fs'.map fun f => (f.name, f.cs.map (·.c)) := List.mem_map.2 ⟨f', List.mem_of_getElem? HR.out.at_, rfl⟩
              rw [HR.out.view.same] at h; exact h
            exact HR.out.view.fine.cels _ hm x.c (List.mem_map.2 ⟨x, List.mem_of_getElem? hx, rfl⟩)
          have HIN := Aside.mk (And.intro hin (And.intro hfin hxl))
          obtain ⟨gc, oc, rfl, x0, x1, x2, x3, x4⟩ := HS2.out.rc_at HR.out.at_ hval hx
          obtain ⟨A0, c0, e0, -, -, -⟩ := HS2.out.rdk_imgs.img hin.1
          obtain ⟨A1, c1, e1, -, -, -⟩ := HS2.out.rdk_imgs.img hin.2.1
          obtain ⟨A2, c2, e2, -, -, -⟩ := HS2.out.rdk_imgs.img hin.2.2.1
          obtain ⟨A3, c3, e3, hc3, hm3, -⟩ := HS2.out.rdk_imgs.img hin.2.2.2
          rw [e0] at x0
          rw [e1] at x1
          rw [e2] at x2
          rw [e3] at x3
          have hlt5 : i < f'.cs.length := by rw [HR.out.len]; exact hlt
          have hltA := Aside.mk hlt5
          have hlen : Aside (x.c.written.length = 128) := ⟨hfin.2.2.2⟩
          have HB := Aside.mk (HS2.out.alloc (.cells #[.slice A0 128 c0, .slice A1 128 c1, .slice A2 128 c2, .slice A3 128 c3, .bool x.c.waits] 176))
          have HE3 := Aside.mk e3
          clear hval hx hxl hin hfin hlt5 e0 e1 e2 e3
          cases hwt : x.c.waits with
          | false =>
            rw [hwt] at x4 HB
            have hsy : x.c.syncd = x.c := by unfold Cel.syncd; simp [hwt]
            have HR2 : Aside (SyR A name k l (some ⟨gc, oc, none⟩) vn VC (i + 1) fs' L' f') := ⟨by
              have e : syL l (i + 1) = syL l i := by rw [← (syL_step HIN.out.2.2).2, hsy]; exact set_self (syL_step HIN.out.2.2).1
              exact ⟨HR.out.at_, HR.out.nm, HR.out.val, HR.out.len, by rw [e]; exact HR.out.cels, by rw [e]; exact HR.out.view⟩⟩
            have HB2 := Aside.mk HB.out.right
            clear HB hsy hwt
            go_wp2
            go_roundw
            case rel => exact ⟨i + 1, fs', L', f', by omega, by go_num, HR2, HN2, HB2⟩
            case measure => simp [intOf]; omega
          | true =>
            rw [hwt] at x4 HB
            have HWT := Aside.mk hwt
            clear hwt
            obtain ⟨B, hB⟩ : ∃ B, B = wr.heap.size := ⟨_, rfl⟩
            rw [← hB] at HB
            have HBB := Aside.mk hB
            clear hB
            have HC : Aside (∀ W, Sat E W (HP.pt B (.cells #[.slice A0 128 c0, .slice A1 128 c1, .slice A2 128 c2, .slice A3 128 c3, .bool true] 176) * (HP.rdk y room fuse (.slice (some ⟨g, o, none⟩) n cF) fs' L' * q)) → W.cell? ⟨y, 1, none⟩ = some (.slice (some ⟨g, o, none⟩) n cF) ∧ W.cell? ⟨g, o + k * 2 + 1, none⟩ = some (.slice (some ⟨gc, oc, none⟩) vn VC) ∧ W.cell? ⟨B, 3, none⟩ = some (.slice A3 128 c3) ∧ Cells W A3 (b8s x.c.written)) := ⟨fun W h => by
              have h1 := h.right.rf_cell HN2.out HF.out.1
              rw [HF.out.2.1] at h1
              exact ⟨h1.1, h1.2.2, h.cell 3, h.right.rdk_imgs.img_cells (by rw [← HE3.out]; exact HIN.out.1.2.2.2)⟩⟩
            go_wp2
            rw [← HBB.out]
            clear x0 x1 x2 x3 x4
            have HS := HB
            clear HB
            generalize World.alloc wr _ = wb at *
            refine region_R [11, 14, 15, 18, 19, 22, 25] [11, 14, 15, 18, 19, 22] (fun W => Sat E W (HP.pt B (.cells #[.slice A0 128 c0, .slice A1 128 c1, .slice A2 128 c2, .slice A3 128 c3, .bool true] 176) * (HP.rdk y room fuse (.slice (some ⟨g, o, none⟩) n cF) fs' L' * q))) #[false, false, false, false, false, false, false, false, false, false, false, false, false, false, false, false, false, false, false, false, false, false, false, false, false, false] (by kernel_rfl) rfl rfl ?_
            have HT : Aside ((fun W => Sat E W (HP.pt B (.cells #[.slice A0 128 c0, .slice A1 128 c1, .slice A2 128 c2, .slice A3 128 c3, .bool true] 176) * (HP.rdk y room fuse (.slice (some ⟨g, o, none⟩) n cF) fs' L' * q))) _) := ⟨(show Sat E _ (HP.pt B (.cells #[.slice A0 128 c0, .slice A1 128 c1, .slice A2 128 c2, .slice A3 128 c3, .bool true] 176) * (HP.rdk y room fuse (.slice (some ⟨g, o, none⟩) n cF) fs' L' * q)) by first | exact HS.out | exact HS.out.right | exact HS.out.right.right | exact HS.out.right.right.right).drew⟩
            refine wpR_pu 0 #[true, false, false, false, false, false, false, false, false, false, false, false, false, false, false, false, false, false, false, false, false, false, false, false, false, false] rfl onlyN_noPanic (by kernel_rfl) (fun K hK => ?_); (go_simp; try go_bits); refine hK _ ?_; clear hK K
            refine wpR_pu 1 #[true, true, false, false, false, false, false, false, false, false, false, false, false, false, false, false, false, false, false, false, false, false, false, false, false, false] rfl onlyN_noPanic (by kernel_rfl) (fun K hK => ?_); (go_simp; try go_bits); refine hK _ ?_; clear hK K
            refine wpR_pu 2 #[true, true, true, false, false, false, false, false, false, false, false, false, false, false, false, false, false, false, false, false, false, false, false, false, false, false] rfl onlyN_noPanic (by kernel_rfl) (fun K hK => ?_); (go_simp; try go_bits); refine hK _ ?_; clear hK K
            refine wpR_held (i := 3) (v := .slice (some ⟨g, o, none⟩) n cF) #[true, true, true, true, false, false, false, false, false, false, false, false, false, false, false, false, false, false, false, false, false, false, false, false, false, false] rfl onlyN_noPanic (by kernel_rfl) HT.out (.inl ⟨rfl, fun w' hT => ?_⟩) ?_
            · obtain ⟨t1, t2, t3, -⟩ := HC.out _ hT; go_simp
            simp only [Act.put, List.setIfInBounds_toArray, List.set_cons_zero, List.set_cons_succ]
            refine wpR_pu 4 #[true, true, true, true, true, false, false, false, false, false, false, false, false, false, false, false, false, false, false, false, false, false, false, false, false, false] rfl onlyN_noPanic (by kernel_rfl) (fun K hK => ?_); (go_simp; try go_bits); refine hK _ ?_; clear hK K
            refine wpR_pu 5 #[true, true, true, true, true, true, false, false, false, false, false, false, false, false, false, false, false, false, false, false, false, false, false, false, false, false] rfl onlyN_noPanic (by kernel_rfl) (fun K hK => ?_); (go_simp; try go_bits); refine hK _ ?_; clear hK K
            refine wpR_pu 6 #[true, true, true, true, true, true, true, false, false, false, false, false, false, false, false, false, false, false, false, false, false, false, false, false, false, false] rfl onlyN_noPanic (by kernel_rfl) (fun K hK => ?_); (go_simp; try go_bits); refine hK _ ?_; clear hK K
            refine wpR_held (i := 7) (v := .slice (some ⟨gc, oc, none⟩) vn VC) #[true, true, true, true, true, true, true, true, false, false, false, false, false, false, false, false, false, false, false, false, false, false, false, false, false, false] rfl onlyN_noPanic (by kernel_rfl) HT.out (.inl ⟨rfl, fun w' hT => ?_⟩) ?_
            · obtain ⟨t1, t2, t3, -⟩ := HC.out _ hT; go_simp
            simp only [Act.put, List.setIfInBounds_toArray, List.set_cons_zero, List.set_cons_succ]
            refine wpR_pu 8 #[true, true, true, true, true, true, true, true, true, false, false, false, false, false, false, false, false, false, false, false, false, false, false, false, false, false] rfl onlyN_noPanic (by kernel_rfl) (fun K hK => ?_); (go_simp; try go_bits); refine hK _ ?_; clear hK K
            refine wpR_pu 9 #[true, true, true, true, true, true, true, true, true, true, false, false, false, false, false, false, false, false, false, false, false, false, false, false, false, false] rfl onlyN_noPanic (by kernel_rfl) (fun K hK => ?_); (go_simp; try go_bits); refine hK _ ?_; clear hK K
            refine wpR_held (i := 10) (v := .slice A3 128 c3) #[true, true, true, true, true, true, true, true, true, true, true, false, false, false, false, false, false, false, false, false, false, false, false, false, false, false] rfl onlyN_noPanic (by kernel_rfl) HT.out (.inl ⟨rfl, fun w' hT => ?_⟩) ?_
            · obtain ⟨t1, t2, t3, -⟩ := HC.out _ hT; go_simp
            simp only [Act.put, List.setIfInBounds_toArray, List.set_cons_zero, List.set_cons_succ]
            refine wpR_pu 12 #[true, true, true, true, true, true, true, true, true, true, true, false, true, false, false, false, false, false, false, false, false, false, false, false, false, false] rfl onlyN_noPanic (by kernel_rfl) (fun K hK => ?_); (go_simp; try go_bits); refine hK _ ?_; clear hK K
            refine wpR_held (i := 13) (v := .slice A3 128 c3) #[true, true, true, true, true, true, true, true, true, true, true, false, true, true, false, false, false, false, false, false, false, false, false, false, false, false] rfl onlyN_noPanic (by kernel_rfl) HT.out (.inl ⟨rfl, fun w' hT => ?_⟩) ?_
            · obtain ⟨t1, t2, t3, -⟩ := HC.out _ hT; go_simp
            simp only [Act.put, List.setIfInBounds_toArray, List.set_cons_zero, List.set_cons_succ]
            refine wpR_pu 16 #[true, true, true, true, true, true, true, true, true, true, true, false, true, true, false, false, true, false, false, false, false, false, false, false, false, false] rfl onlyN_noPanic (by kernel_rfl) (fun K hK => ?_); (go_simp; try go_bits); refine hK _ ?_; clear hK K
            refine wpR_held (i := 17) (v := .slice A3 128 c3) #[true, true, true, true, true, true, true, true, true, true, true, false, true, true, false, false, true, true, false, false, false, false, false, false, false, false] rfl onlyN_noPanic (by kernel_rfl) HT.out (.inl ⟨rfl, fun w' hT => ?_⟩) ?_
            · obtain ⟨t1, t2, t3, -⟩ := HC.out _ hT; go_simp
            simp only [Act.put, List.setIfInBounds_toArray, List.set_cons_zero, List.set_cons_succ]
            refine wpR_pu 20 #[true, true, true, true, true, true, true, true, true, true, true, false, true, true, false, false, true, true, false, false, true, false, false, false, false, false] rfl onlyN_noPanic (by kernel_rfl) (fun K hK => ?_); (go_simp; try go_bits); refine hK _ ?_; clear hK K
            refine wpR_held (i := 21) (v := .slice A3 128 c3) #[true, true, true, true, true, true, true, true, true, true, true, false, true, true, false, false, true, true, false, false, true, true, false, false, false, false] rfl onlyN_noPanic (by kernel_rfl) HT.out (.inl ⟨rfl, fun w' hT => ?_⟩) ?_
            · obtain ⟨t1, t2, t3, -⟩ := HC.out _ hT; go_simp
            simp only [Act.put, List.setIfInBounds_toArray, List.set_cons_zero, List.set_cons_succ]
            clear HT
            have HS0 := Aside.mk HS.out.drew
            clear HS
            revert HS0
            generalize World.drew wb = W0
            intro HS0
            apply share
            · intro hsh00
              have hsh0 := Aside.mk hsh00
              clear hsh00
              apply share
              · intro hsh10
                have hsh1 := Aside.mk hsh10
                clear hsh10
                apply share
                · intro hsh20
                  have hsh2 := Aside.mk hsh20
                  clear hsh20
                  apply share
                  · intro hsh30
                    have hsh3 := Aside.mk hsh30
                    clear hsh30
                    apply share
                    · intro hsh40
                      have hsh4 := Aside.mk hsh40
                      clear hsh40
                      apply share
                      · intro hsh50
                        have hsh5 := Aside.mk hsh50
                        clear hsh50
                        apply share
                        · intro hsh60
                          have hsh6 := Aside.mk hsh60
                          clear hsh60
                          apply share
                          · intro hsh70
                            have hsh7 := Aside.mk hsh70
                            clear hsh70
                            refine wpR_many [11, 15, 19] rfl (by kernel_rfl) ?_
                            refine List.forall_mem_cons.2 ⟨?_, List.forall_mem_cons.2 ⟨?_, List.forall_mem_cons.2 ⟨?_, (fun _ h => by cases h)⟩⟩⟩
                            · refine br_keep #[true, true, true, true, true, true, true, true, true, true, true, true, true, true, false, false, true, true, false, false, true, true, false, false, false, false] rfl (by kernel_rfl) (fun K hK => ?_)
                              go_simp
                              obtain ⟨W1, hW1⟩ : ∃ x, x = World.alloc W0 (.cells #[] 5) := ⟨_, rfl⟩
                              have hn1 : Sat E W1 (HP.pt B (.cells #[.slice A0 128 c0, .slice A1 128 c1, .slice A2 128 c2, .slice A3 128 c3, .bool true] 176) * (HP.rdk y room fuse (.slice (some ⟨g, o, none⟩) n cF) fs' L' * q)) := by rw [hW1]; exact (HS0.out.alloc _).right
                              rw [← hW1]
                              refine hK _ _ (by first | exact hn1 | exact hn1.right | exact hn1.right.right | exact hn1.right.right.right) ?_
                              clear hK K hW1
                              generalize World.heap W0 = hp0
                              generalize Array.size hp0 = g1
                              have HS1 : Aside (Sat E W1 (HP.pt B (.cells #[.slice A0 128 c0, .slice A1 128 c1, .slice A2 128 c2, .slice A3 128 c3, .bool true] 176) * (HP.rdk y room fuse (.slice (some ⟨g, o, none⟩) n cF) fs' L' * q))) := ⟨hn1.perm (by ac_rfl)⟩
                              clear hn1
                              refine wpR_many [14, 15, 19] rfl (by kernel_rfl) ?_
                              refine List.forall_mem_cons.2 ⟨?_, List.forall_mem_cons.2 ⟨?_, List.forall_mem_cons.2 ⟨?_, (fun _ h => by cases h)⟩⟩⟩
                              · refine br_keep #[true, true, true, true, true, true, true, true, true, true, true, true, true, true, true, false, true, true, false, false, true, true, false, false, false, false] rfl (by kernel_rfl) (fun K hK => ?_)
                                refine Eq.mpr (if_pos (by rfl)) ?_
                                refine wp_append_row (v := .slice (some ⟨g1, 0, none⟩) 0 0) (n := 0) (cs := []) (A := A3) (m := 128) (c := c3) (news := b8s x.c.written) slB8 rfl rfl rfl (HS1.out.row_nil 5 1 _) (HC.out _ (by first | exact HS1.out | exact HS1.out.right | exact HS1.out.right.right | exact HS1.out.right.right.right)).2.2.2 (by rw [b8s_length]; exact hlen.out) (b8s_one _) (by unfold maxLen; omega) (by omega) (fun vv W2 hn2 => ?_)
                                rw [List.nil_append, Nat.zero_add] at hn2
                                obtain ⟨E1, e1, rfl, -, -⟩ := hn2.row_slice
                                refine hK _ _ (by first | exact hn2 | exact hn2.right | exact hn2.right.right | exact hn2.right.right.right) ?_
                                clear hK K
                                have HS2 : Aside (Sat E W2 (HP.row 5 1 (.slice E1 128 e1) 128 (b8s x.c.written) * (HP.pt B (.cells #[.slice A0 128 c0, .slice A1 128 c1, .slice A2 128 c2, .slice A3 128 c3, .bool true] 176) * (HP.rdk y room fuse (.slice (some ⟨g, o, none⟩) n cF) fs' L' * q)))) := ⟨hn2.perm (by ac_rfl)⟩
                                clear hn2 HS1
                                refine wpR_many [15, 19] rfl (by kernel_rfl) ?_
                                refine List.forall_mem_cons.2 ⟨?_, List.forall_mem_cons.2 ⟨?_, (fun _ h => by cases h)⟩⟩
                                · refine br_keep #[true, true, true, true, true, true, true, true, true, true, true, true, true, true, true, true, true, true, false, false, true, true, false, false, false, false] rfl (by kernel_rfl) (fun K hK => ?_)
                                  go_simp
                                  obtain ⟨W3, hW3⟩ : ∃ x, x = World.alloc W2 (.cells #[] 5) := ⟨_, rfl⟩
                                  have hn3 : Sat E W3 (HP.row 5 1 (.slice E1 128 e1) 128 (b8s x.c.written) * (HP.pt B (.cells #[.slice A0 128 c0, .slice A1 128 c1, .slice A2 128 c2, .slice A3 128 c3, .bool true] 176) * (HP.rdk y room fuse (.slice (some ⟨g, o, none⟩) n cF) fs' L' * q))) := by rw [hW3]; exact (HS2.out.alloc _).right
                                  rw [← hW3]
                                  refine hK _ _ (by first | exact hn3 | exact hn3.right | exact hn3.right.right | exact hn3.right.right.right) ?_
                                  clear hK K hW3
                                  generalize World.heap W2 = hp0
                                  generalize Array.size hp0 = g2
                                  have HS3 : Aside (Sat E W3 (HP.row 5 1 (.slice E1 128 e1) 128 (b8s x.c.written) * (HP.pt B (.cells #[.slice A0 128 c0, .slice A1 128 c1, .slice A2 128 c2, .slice A3 128 c3, .bool true] 176) * (HP.rdk y room fuse (.slice (some ⟨g, o, none⟩) n cF) fs' L' * q)))) := ⟨hn3.perm (by ac_rfl)⟩
                                  clear hn3 HS2
                                  revert HS3
                                  revert W3
                                  revert g2
                                  revert e1
                                  revert E1
                                  revert g1
                                  exact hsh2.out
                                · refine br_keep #[true, true, true, true, true, true, true, true, true, true, true, true, true, true, true, false, true, true, false, true, true, true, false, false, false, false] rfl (by kernel_rfl) (fun K hK => ?_)
                                  go_simp
                                  obtain ⟨W4, hW4⟩ : ∃ x, x = World.alloc W2 (.cells #[] 5) := ⟨_, rfl⟩
                                  have hn4 : Sat E W4 (HP.row 5 1 (.slice E1 128 e1) 128 (b8s x.c.written) * (HP.pt B (.cells #[.slice A0 128 c0, .slice A1 128 c1, .slice A2 128 c2, .slice A3 128 c3, .bool true] 176) * (HP.rdk y room fuse (.slice (some ⟨g, o, none⟩) n cF) fs' L' * q))) := by rw [hW4]; exact (HS2.out.alloc _).right
                                  rw [← hW4]
                                  refine hK _ _ (by first | exact hn4 | exact hn4.right | exact hn4.right.right | exact hn4.right.right.right) ?_
                                  clear hK K hW4
                                  generalize World.heap W2 = hp0
                                  generalize Array.size hp0 = g3
                                  have HS4 : Aside (Sat E W4 (HP.row 5 1 (.slice E1 128 e1) 128 (b8s x.c.written) * (HP.pt B (.cells #[.slice A0 128 c0, .slice A1 128 c1, .slice A2 128 c2, .slice A3 128 c3, .bool true] 176) * (HP.rdk y room fuse (.slice (some ⟨g, o, none⟩) n cF) fs' L' * q)))) := ⟨hn4.perm (by ac_rfl)⟩
                                  clear hn4 HS2
                                  revert HS4
                                  revert W4
                                  revert g3
                                  revert e1
                                  revert E1
                                  revert g1
                                  exact hsh3.out
                              · refine br_keep #[true, true, true, true, true, true, true, true, true, true, true, true, true, true, false, true, true, true, false, false, true, true, false, false, false, false] rfl (by kernel_rfl) (fun K hK => ?_)
                                go_simp
                                obtain ⟨W5, hW5⟩ : ∃ x, x = World.alloc W1 (.cells #[] 5) := ⟨_, rfl⟩
                                have hn5 : Sat E W5 (HP.pt B (.cells #[.slice A0 128 c0, .slice A1 128 c1, .slice A2 128 c2, .slice A3 128 c3, .bool true] 176) * (HP.rdk y room fuse (.slice (some ⟨g, o, none⟩) n cF) fs' L' * q)) := by rw [hW5]; exact (HS1.out.alloc _).right
                                rw [← hW5]
                                refine hK _ _ (by first | exact hn5 | exact hn5.right | exact hn5.right.right | exact hn5.right.right.right) ?_
                                clear hK K hW5
                                generalize World.heap W1 = hp0
                                generalize Array.size hp0 = g2
                                have HS5 : Aside (Sat E W5 (HP.pt B (.cells #[.slice A0 128 c0, .slice A1 128 c1, .slice A2 128 c2, .slice A3 128 c3, .bool true] 176) * (HP.rdk y room fuse (.slice (some ⟨g, o, none⟩) n cF) fs' L' * q))) := ⟨hn5.perm (by ac_rfl)⟩
                                clear hn5 HS1
                                revert HS5
                                revert W5
                                revert g2
                                revert g1
                                exact hsh5.out
                              · refine br_keep #[true, true, true, true, true, true, true, true, true, true, true, true, true, true, false, false, true, true, false, true, true, true, false, false, false, false] rfl (by kernel_rfl) (fun K hK => ?_)
                                go_simp
                                obtain ⟨W6, hW6⟩ : ∃ x, x = World.alloc W1 (.cells #[] 5) := ⟨_, rfl⟩
                                have hn6 : Sat E W6 (HP.pt B (.cells #[.slice A0 128 c0, .slice A1 128 c1, .slice A2 128 c2, .slice A3 128 c3, .bool true] 176) * (HP.rdk y room fuse (.slice (some ⟨g, o, none⟩) n cF) fs' L' * q)) := by rw [hW6]; exact (HS1.out.alloc _).right
                                rw [← hW6]
                                refine hK _ _ (by first | exact hn6 | exact hn6.right | exact hn6.right.right | exact hn6.right.right.right) ?_
                                clear hK K hW6
                                generalize World.heap W1 = hp0
                                generalize Array.size hp0 = g3
                                have HS6 : Aside (Sat E W6 (HP.pt B (.cells #[.slice A0 128 c0, .slice A1 128 c1, .slice A2 128 c2, .slice A3 128 c3, .bool true] 176) * (HP.rdk y room fuse (.slice (some ⟨g, o, none⟩) n cF) fs' L' * q))) := ⟨hn6.perm (by ac_rfl)⟩
                                clear hn6 HS1
                                revert HS6
                                revert W6
                                revert g3
                                revert g1
                                exact hsh6.out
                            · refine br_keep #[true, true, true, true, true, true, true, true, true, true, true, false, true, true, false, true, true, true, false, false, true, true, false, false, false, false] rfl (by kernel_rfl) (fun K hK => ?_)
                              go_simp
                              obtain ⟨W7, hW7⟩ : ∃ x, x = World.alloc W0 (.cells #[] 5) := ⟨_, rfl⟩
                              have hn7 : Sat E W7 (HP.pt B (.cells #[.slice A0 128 c0, .slice A1 128 c1, .slice A2 128 c2, .slice A3 128 c3, .bool true] 176) * (HP.rdk y room fuse (.slice (some ⟨g, o, none⟩) n cF) fs' L' * q)) := by rw [hW7]; exact (HS0.out.alloc _).right
                              rw [← hW7]
                              refine hK _ _ (by first | exact hn7 | exact hn7.right | exact hn7.right.right | exact hn7.right.right.right) ?_
                              clear hK K hW7
                              generalize World.heap W0 = hp0
                              generalize Array.size hp0 = g2
                              have HS7 : Aside (Sat E W7 (HP.pt B (.cells #[.slice A0 128 c0, .slice A1 128 c1, .slice A2 128 c2, .slice A3 128 c3, .bool true] 176) * (HP.rdk y room fuse (.slice (some ⟨g, o, none⟩) n cF) fs' L' * q))) := ⟨hn7.perm (by ac_rfl)⟩
                              clear hn7
                              refine wpR_many [11, 19] rfl (by kernel_rfl) ?_
                              refine List.forall_mem_cons.2 ⟨?_, List.forall_mem_cons.2 ⟨?_, (fun _ h => by cases h)⟩⟩
                              · refine br_keep #[true, true, true, true, true, true, true, true, true, true, true, true, true, true, false, true, true, true, false, false, true, true, false, false, false, false] rfl (by kernel_rfl) (fun K hK => ?_)
                                go_simp
                                obtain ⟨W8, hW8⟩ : ∃ x, x = World.alloc W7 (.cells #[] 5) := ⟨_, rfl⟩
                                have hn8 : Sat E W8 (HP.pt B (.cells #[.slice A0 128 c0, .slice A1 128 c1, .slice A2 128 c2, .slice A3 128 c3, .bool true] 176) * (HP.rdk y room fuse (.slice (some ⟨g, o, none⟩) n cF) fs' L' * q)) := by rw [hW8]; exact (HS7.out.alloc _).right
                                rw [← hW8]
                                refine hK _ _ (by first | exact hn8 | exact hn8.right | exact hn8.right.right | exact hn8.right.right.right) ?_
                                clear hK K hW8
                                generalize World.heap W7 = hp0
                                generalize Array.size hp0 = g1
                                have HS8 : Aside (Sat E W8 (HP.pt B (.cells #[.slice A0 128 c0, .slice A1 128 c1, .slice A2 128 c2, .slice A3 128 c3, .bool true] 176) * (HP.rdk y room fuse (.slice (some ⟨g, o, none⟩) n cF) fs' L' * q))) := ⟨hn8.perm (by ac_rfl)⟩
                                clear hn8 HS7
                                revert HS8
                                revert W8
                                revert g2
                                revert g1
                                exact hsh5.out
                              · refine br_keep #[true, true, true, true, true, true, true, true, true, true, true, false, true, true, false, true, true, true, false, true, true, true, false, false, false, false] rfl (by kernel_rfl) (fun K hK => ?_)
                                go_simp
                                obtain ⟨W9, hW9⟩ : ∃ x, x = World.alloc W7 (.cells #[] 5) := ⟨_, rfl⟩
                                have hn9 : Sat E W9 (HP.pt B (.cells #[.slice A0 128 c0, .slice A1 128 c1, .slice A2 128 c2, .slice A3 128 c3, .bool true] 176) * (HP.rdk y room fuse (.slice (some ⟨g, o, none⟩) n cF) fs' L' * q)) := by rw [hW9]; exact (HS7.out.alloc _).right
                                rw [← hW9]
                                refine hK _ _ (by first | exact hn9 | exact hn9.right | exact hn9.right.right | exact hn9.right.right.right) ?_
                                clear hK K hW9
                                generalize World.heap W7 = hp0
                                generalize Array.size hp0 = g3
                                have HS9 : Aside (Sat E W9 (HP.pt B (.cells #[.slice A0 128 c0, .slice A1 128 c1, .slice A2 128 c2, .slice A3 128 c3, .bool true] 176) * (HP.rdk y room fuse (.slice (some ⟨g, o, none⟩) n cF) fs' L' * q))) := ⟨hn9.perm (by ac_rfl)⟩
                                clear hn9 HS7
                                revert HS9
                                revert W9
                                revert g3
                                revert g2
                                exact hsh7.out
                            · refine br_keep #[true, true, true, true, true, true, true, true, true, true, true, false, true, true, false, false, true, true, false, true, true, true, false, false, false, false] rfl (by kernel_rfl) (fun K hK => ?_)
                              go_simp
                              obtain ⟨W10, hW10⟩ : ∃ x, x = World.alloc W0 (.cells #[] 5) := ⟨_, rfl⟩
                              have hn10 : Sat E W10 (HP.pt B (.cells #[.slice A0 128 c0, .slice A1 128 c1, .slice A2 128 c2, .slice A3 128 c3, .bool true] 176) * (HP.rdk y room fuse (.slice (some ⟨g, o, none⟩) n cF) fs' L' * q)) := by rw [hW10]; exact (HS0.out.alloc _).right
                              rw [← hW10]
                              refine hK _ _ (by first | exact hn10 | exact hn10.right | exact hn10.right.right | exact hn10.right.right.right) ?_
                              clear hK K hW10
                              generalize World.heap W0 = hp0
                              generalize Array.size hp0 = g3
                              have HS10 : Aside (Sat E W10 (HP.pt B (.cells #[.slice A0 128 c0, .slice A1 128 c1, .slice A2 128 c2, .slice A3 128 c3, .bool true] 176) * (HP.rdk y room fuse (.slice (some ⟨g, o, none⟩) n cF) fs' L' * q))) := ⟨hn10.perm (by ac_rfl)⟩
                              clear hn10
                              refine wpR_many [11, 15] rfl (by kernel_rfl) ?_
                              refine List.forall_mem_cons.2 ⟨?_, List.forall_mem_cons.2 ⟨?_, (fun _ h => by cases h)⟩⟩
                              · refine br_keep #[true, true, true, true, true, true, true, true, true, true, true, true, true, true, false, false, true, true, false, true, true, true, false, false, false, false] rfl (by kernel_rfl) (fun K hK => ?_)
                                go_simp
                                obtain ⟨W11, hW11⟩ : ∃ x, x = World.alloc W10 (.cells #[] 5) := ⟨_, rfl⟩
                                have hn11 : Sat E W11 (HP.pt B (.cells #[.slice A0 128 c0, .slice A1 128 c1, .slice A2 128 c2, .slice A3 128 c3, .bool true] 176) * (HP.rdk y room fuse (.slice (some ⟨g, o, none⟩) n cF) fs' L' * q)) := by rw [hW11]; exact (HS10.out.alloc _).right
                                rw [← hW11]
                                refine hK _ _ (by first | exact hn11 | exact hn11.right | exact hn11.right.right | exact hn11.right.right.right) ?_
                                clear hK K hW11
                                generalize World.heap W10 = hp0
                                generalize Array.size hp0 = g1
                                have HS11 : Aside (Sat E W11 (HP.pt B (.cells #[.slice A0 128 c0, .slice A1 128 c1, .slice A2 128 c2, .slice A3 128 c3, .bool true] 176) * (HP.rdk y room fuse (.slice (some ⟨g, o, none⟩) n cF) fs' L' * q))) := ⟨hn11.perm (by ac_rfl)⟩
                                clear hn11 HS10
                                revert HS11
                                revert W11
                                revert g3
                                revert g1
                                exact hsh6.out
                              · refine br_keep #[true, true, true, true, true, true, true, true, true, true, true, false, true, true, false, true, true, true, false, true, true, true, false, false, false, false] rfl (by kernel_rfl) (fun K hK => ?_)
                                go_simp
                                obtain ⟨W12, hW12⟩ : ∃ x, x = World.alloc W10 (.cells #[] 5) := ⟨_, rfl⟩
                                have hn12 : Sat E W12 (HP.pt B (.cells #[.slice A0 128 c0, .slice A1 128 c1, .slice A2 128 c2, .slice A3 128 c3, .bool true] 176) * (HP.rdk y room fuse (.slice (some ⟨g, o, none⟩) n cF) fs' L' * q)) := by rw [hW12]; exact (HS10.out.alloc _).right
                                rw [← hW12]
                                refine hK _ _ (by first | exact hn12 | exact hn12.right | exact hn12.right.right | exact hn12.right.right.right) ?_
                                clear hK K hW12
                                generalize World.heap W10 = hp0
                                generalize Array.size hp0 = g2
                                have HS12 : Aside (Sat E W12 (HP.pt B (.cells #[.slice A0 128 c0, .slice A1 128 c1, .slice A2 128 c2, .slice A3 128 c3, .bool true] 176) * (HP.rdk y room fuse (.slice (some ⟨g, o, none⟩) n cF) fs' L' * q))) := ⟨hn12.perm (by ac_rfl)⟩
                                clear hn12 HS10
                                revert HS12
                                revert W12
                                revert g3
                                revert g2
                                exact hsh7.out
                          · intro g2 g3 W13 HS13
                            refine wpR_keep #[true, true, true, true, true, true, true, true, true, true, true, true, true, true, false, true, true, true, false, true, true, true, false, false, false, false] (i := 11) rfl (by kernel_rfl) (fun K hK => ?_)
                            go_simp
                            obtain ⟨W14, hW14⟩ : ∃ x, x = World.alloc W13 (.cells #[] 5) := ⟨_, rfl⟩
                            have hn14 : Sat E W14 (HP.pt B (.cells #[.slice A0 128 c0, .slice A1 128 c1, .slice A2 128 c2, .slice A3 128 c3, .bool true] 176) * (HP.rdk y room fuse (.slice (some ⟨g, o, none⟩) n cF) fs' L' * q)) := by rw [hW14]; exact (HS13.out.alloc _).right
                            rw [← hW14]
                            refine hK _ _ (by first | exact hn14 | exact hn14.right | exact hn14.right.right | exact hn14.right.right.right) ?_
                            clear hK K hW14
                            generalize World.heap W13 = hp0
                            generalize Array.size hp0 = g1
                            have HS14 : Aside (Sat E W14 (HP.pt B (.cells #[.slice A0 128 c0, .slice A1 128 c1, .slice A2 128 c2, .slice A3 128 c3, .bool true] 176) * (HP.rdk y room fuse (.slice (some ⟨g, o, none⟩) n cF) fs' L' * q))) := ⟨hn14.perm (by ac_rfl)⟩
                            clear hn14 HS13
                            revert HS14
                            revert W14
                            revert g3
                            revert g2
                            revert g1
                            exact hsh4.out
                        · intro g1 g3 W15 HS15
                          refine wpR_many [14, 15] rfl (by kernel_rfl) ?_
                          refine List.forall_mem_cons.2 ⟨?_, List.forall_mem_cons.2 ⟨?_, (fun _ h => by cases h)⟩⟩
                          · refine br_keep #[true, true, true, true, true, true, true, true, true, true, true, true, true, true, true, false, true, true, false, true, true, true, false, false, false, false] rfl (by kernel_rfl) (fun K hK => ?_)
                            refine Eq.mpr (if_pos (by rfl)) ?_
                            refine wp_append_row (v := .slice (some ⟨g1, 0, none⟩) 0 0) (n := 0) (cs := []) (A := A3) (m := 128) (c := c3) (news := b8s x.c.written) slB8 rfl rfl rfl (HS15.out.row_nil 5 1 _) (HC.out _ (by first | exact HS15.out | exact HS15.out.right | exact HS15.out.right.right | exact HS15.out.right.right.right)).2.2.2 (by rw [b8s_length]; exact hlen.out) (b8s_one _) (by unfold maxLen; omega) (by omega) (fun vv W16 hn16 => ?_)
                            rw [List.nil_append, Nat.zero_add] at hn16
                            obtain ⟨E1, e1, rfl, -, -⟩ := hn16.row_slice
                            refine hK _ _ (by first | exact hn16 | exact hn16.right | exact hn16.right.right | exact hn16.right.right.right) ?_
                            clear hK K
                            have HS16 : Aside (Sat E W16 (HP.row 5 1 (.slice E1 128 e1) 128 (b8s x.c.written) * (HP.pt B (.cells #[.slice A0 128 c0, .slice A1 128 c1, .slice A2 128 c2, .slice A3 128 c3, .bool true] 176) * (HP.rdk y room fuse (.slice (some ⟨g, o, none⟩) n cF) fs' L' * q)))) := ⟨hn16.perm (by ac_rfl)⟩
                            clear hn16 HS15
                            revert HS16
                            revert W16
                            revert g3
                            revert e1
                            revert E1
                            revert g1
                            exact hsh3.out
                          · refine br_keep #[true, true, true, true, true, true, true, true, true, true, true, true, true, true, false, true, true, true, false, true, true, true, false, false, false, false] rfl (by kernel_rfl) (fun K hK => ?_)
                            go_simp
                            obtain ⟨W17, hW17⟩ : ∃ x, x = World.alloc W15 (.cells #[] 5) := ⟨_, rfl⟩
                            have hn17 : Sat E W17 (HP.pt B (.cells #[.slice A0 128 c0, .slice A1 128 c1, .slice A2 128 c2, .slice A3 128 c3, .bool true] 176) * (HP.rdk y room fuse (.slice (some ⟨g, o, none⟩) n cF) fs' L' * q)) := by rw [hW17]; exact (HS15.out.alloc _).right
                            rw [← hW17]
                            refine hK _ _ (by first | exact hn17 | exact hn17.right | exact hn17.right.right | exact hn17.right.right.right) ?_
                            clear hK K hW17
                            generalize World.heap W15 = hp0
                            generalize Array.size hp0 = g2
                            have HS17 : Aside (Sat E W17 (HP.pt B (.cells #[.slice A0 128 c0, .slice A1 128 c1, .slice A2 128 c2, .slice A3 128 c3, .bool true] 176) * (HP.rdk y room fuse (.slice (some ⟨g, o, none⟩) n cF) fs' L' * q))) := ⟨hn17.perm (by ac_rfl)⟩
                            clear hn17 HS15
                            revert HS17
                            revert W17
                            revert g3
                            revert g2
                            revert g1
                            exact hsh4.out
                      · intro g1 g2 W18 HS18
                        refine wpR_many [14, 19] rfl (by kernel_rfl) ?_
                        refine List.forall_mem_cons.2 ⟨?_, List.forall_mem_cons.2 ⟨?_, (fun _ h => by cases h)⟩⟩
                        · refine br_keep #[true, true, true, true, true, true, true, true, true, true, true, true, true, true, true, true, true, true, false, false, true, true, false, false, false, false] rfl (by kernel_rfl) (fun K hK => ?_)
                          refine Eq.mpr (if_pos (by rfl)) ?_
                          refine wp_append_row (v := .slice (some ⟨g1, 0, none⟩) 0 0) (n := 0) (cs := []) (A := A3) (m := 128) (c := c3) (news := b8s x.c.written) slB8 rfl rfl rfl (HS18.out.row_nil 5 1 _) (HC.out _ (by first | exact HS18.out | exact HS18.out.right | exact HS18.out.right.right | exact HS18.out.right.right.right)).2.2.2 (by rw [b8s_length]; exact hlen.out) (b8s_one _) (by unfold maxLen; omega) (by omega) (fun vv W19 hn19 => ?_)
                          rw [List.nil_append, Nat.zero_add] at hn19
                          obtain ⟨E1, e1, rfl, -, -⟩ := hn19.row_slice
                          refine hK _ _ (by first | exact hn19 | exact hn19.right | exact hn19.right.right | exact hn19.right.right.right) ?_
                          clear hK K
                          have HS19 : Aside (Sat E W19 (HP.row 5 1 (.slice E1 128 e1) 128 (b8s x.c.written) * (HP.pt B (.cells #[.slice A0 128 c0, .slice A1 128 c1, .slice A2 128 c2, .slice A3 128 c3, .bool true] 176) * (HP.rdk y room fuse (.slice (some ⟨g, o, none⟩) n cF) fs' L' * q)))) := ⟨hn19.perm (by ac_rfl)⟩
                          clear hn19 HS18
                          revert HS19
                          revert W19
                          revert g2
                          revert e1
                          revert E1
                          revert g1
                          exact hsh2.out
                        · refine br_keep #[true, true, true, true, true, true, true, true, true, true, true, true, true, true, false, true, true, true, false, true, true, true, false, false, false, false] rfl (by kernel_rfl) (fun K hK => ?_)
                          go_simp
                          obtain ⟨W20, hW20⟩ : ∃ x, x = World.alloc W18 (.cells #[] 5) := ⟨_, rfl⟩
                          have hn20 : Sat E W20 (HP.pt B (.cells #[.slice A0 128 c0, .slice A1 128 c1, .slice A2 128 c2, .slice A3 128 c3, .bool true] 176) * (HP.rdk y room fuse (.slice (some ⟨g, o, none⟩) n cF) fs' L' * q)) := by rw [hW20]; exact (HS18.out.alloc _).right
                          rw [← hW20]
                          refine hK _ _ (by first | exact hn20 | exact hn20.right | exact hn20.right.right | exact hn20.right.right.right) ?_
                          clear hK K hW20
                          generalize World.heap W18 = hp0
                          generalize Array.size hp0 = g3
                          have HS20 : Aside (Sat E W20 (HP.pt B (.cells #[.slice A0 128 c0, .slice A1 128 c1, .slice A2 128 c2, .slice A3 128 c3, .bool true] 176) * (HP.rdk y room fuse (.slice (some ⟨g, o, none⟩) n cF) fs' L' * q))) := ⟨hn20.perm (by ac_rfl)⟩
                          clear hn20 HS18
                          revert HS20
                          revert W20
                          revert g3
                          revert g2
                          revert g1
                          exact hsh4.out
                    · intro g1 g2 g3 W21 HS21
                      refine wpR_keep #[true, true, true, true, true, true, true, true, true, true, true, true, true, true, true, true, true, true, false, true, true, true, false, false, false, false] (i := 14) rfl (by kernel_rfl) (fun K hK => ?_)
                      refine Eq.mpr (if_pos (by rfl)) ?_
                      refine wp_append_row (v := .slice (some ⟨g1, 0, none⟩) 0 0) (n := 0) (cs := []) (A := A3) (m := 128) (c := c3) (news := b8s x.c.written) slB8 rfl rfl rfl (HS21.out.row_nil 5 1 _) (HC.out _ (by first | exact HS21.out | exact HS21.out.right | exact HS21.out.right.right | exact HS21.out.right.right.right)).2.2.2 (by rw [b8s_length]; exact hlen.out) (b8s_one _) (by unfold maxLen; omega) (by omega) (fun vv W22 hn22 => ?_)
                      rw [List.nil_append, Nat.zero_add] at hn22
                      obtain ⟨E1, e1, rfl, -, -⟩ := hn22.row_slice
                      refine hK _ _ (by first | exact hn22 | exact hn22.right | exact hn22.right.right | exact hn22.right.right.right) ?_
                      clear hK K
                      have HS22 : Aside (Sat E W22 (HP.row 5 1 (.slice E1 128 e1) 128 (b8s x.c.written) * (HP.pt B (.cells #[.slice A0 128 c0, .slice A1 128 c1, .slice A2 128 c2, .slice A3 128 c3, .bool true] 176) * (HP.rdk y room fuse (.slice (some ⟨g, o, none⟩) n cF) fs' L' * q)))) := ⟨hn22.perm (by ac_rfl)⟩
                      clear hn22 HS21
                      revert HS22
                      revert W22
                      revert g3
                      revert g2
                      revert e1
                      revert E1
                      revert g1
                      exact hsh1.out
                  · intro g1 E1 e1 g3 W23 HS23
                    refine wpR_keep #[true, true, true, true, true, true, true, true, true, true, true, true, true, true, true, true, true, true, false, true, true, true, false, false, false, false] (i := 15) rfl (by kernel_rfl) (fun K hK => ?_)
                    go_simp
                    obtain ⟨W24, hW24⟩ : ∃ x, x = World.alloc W23 (.cells #[] 5) := ⟨_, rfl⟩
                    have hn24 : Sat E W24 (HP.row 5 1 (.slice E1 128 e1) 128 (b8s x.c.written) * (HP.pt B (.cells #[.slice A0 128 c0, .slice A1 128 c1, .slice A2 128 c2, .slice A3 128 c3, .bool true] 176) * (HP.rdk y room fuse (.slice (some ⟨g, o, none⟩) n cF) fs' L' * q))) := by rw [hW24]; exact (HS23.out.alloc _).right
                    rw [← hW24]
                    refine hK _ _ (by first | exact hn24 | exact hn24.right | exact hn24.right.right | exact hn24.right.right.right) ?_
                    clear hK K hW24
                    generalize World.heap W23 = hp0
                    generalize Array.size hp0 = g2
                    have HS24 : Aside (Sat E W24 (HP.row 5 1 (.slice E1 128 e1) 128 (b8s x.c.written) * (HP.pt B (.cells #[.slice A0 128 c0, .slice A1 128 c1, .slice A2 128 c2, .slice A3 128 c3, .bool true] 176) * (HP.rdk y room fuse (.slice (some ⟨g, o, none⟩) n cF) fs' L' * q)))) := ⟨hn24.perm (by ac_rfl)⟩
                    clear hn24 HS23
                    revert HS24
                    revert W24
                    revert g3
                    revert g2
                    revert e1
                    revert E1
                    revert g1
                    exact hsh1.out
                · intro g1 E1 e1 g2 W25 HS25
                  refine wpR_many [18, 19] rfl (by kernel_rfl) ?_
                  refine List.forall_mem_cons.2 ⟨?_, List.forall_mem_cons.2 ⟨?_, (fun _ h => by cases h)⟩⟩
                  · refine br_keep #[true, true, true, true, true, true, true, true, true, true, true, true, true, true, true, true, true, true, true, false, true, true, false, false, false, false] rfl (by kernel_rfl) (fun K hK => ?_)
                    refine Eq.mpr (if_pos (by rfl)) ?_
                    refine wp_append_row (v := .slice (some ⟨g2, 0, none⟩) 0 0) (n := 0) (cs := []) (A := A3) (m := 128) (c := c3) (news := b8s x.c.written) slB8 rfl rfl rfl (HS25.out.row_nil 5 1 _) (HC.out _ (by first | exact HS25.out | exact HS25.out.right | exact HS25.out.right.right | exact HS25.out.right.right.right)).2.2.2 (by rw [b8s_length]; exact hlen.out) (b8s_one _) (by unfold maxLen; omega) (by omega) (fun vv W26 hn26 => ?_)
                    rw [List.nil_append, Nat.zero_add] at hn26
                    obtain ⟨E2, e2, rfl, -, -⟩ := hn26.row_slice
                    refine hK _ _ (by first | exact hn26 | exact hn26.right | exact hn26.right.right | exact hn26.right.right.right) ?_
                    clear hK K
                    have HS26 : Aside (Sat E W26 (HP.row 5 1 (.slice E1 128 e1) 128 (b8s x.c.written) * (HP.row 5 1 (.slice E2 128 e2) 128 (b8s x.c.written) * (HP.pt B (.cells #[.slice A0 128 c0, .slice A1 128 c1, .slice A2 128 c2, .slice A3 128 c3, .bool true] 176) * (HP.rdk y room fuse (.slice (some ⟨g, o, none⟩) n cF) fs' L' * q))))) := ⟨hn26.perm (by ac_rfl)⟩
                    clear hn26 HS25
                    refine wpR_keep #[true, true, true, true, true, true, true, true, true, true, true, true, true, true, true, true, true, true, true, true, true, true, false, false, false, false] (i := 19) rfl (by kernel_rfl) (fun K hK => ?_)
                    go_simp
                    obtain ⟨W27, hW27⟩ : ∃ x, x = World.alloc W26 (.cells #[] 5) := ⟨_, rfl⟩
                    have hn27 : Sat E W27 (HP.row 5 1 (.slice E1 128 e1) 128 (b8s x.c.written) * (HP.row 5 1 (.slice E2 128 e2) 128 (b8s x.c.written) * (HP.pt B (.cells #[.slice A0 128 c0, .slice A1 128 c1, .slice A2 128 c2, .slice A3 128 c3, .bool true] 176) * (HP.rdk y room fuse (.slice (some ⟨g, o, none⟩) n cF) fs' L' * q)))) := by rw [hW27]; exact (HS26.out.alloc _).right
                    rw [← hW27]
                    refine hK _ _ (by first | exact hn27 | exact hn27.right | exact hn27.right.right | exact hn27.right.right.right) ?_
                    clear hK K hW27
                    generalize World.heap W26 = hp0
                    generalize Array.size hp0 = g3
                    have HS27 : Aside (Sat E W27 (HP.row 5 1 (.slice E1 128 e1) 128 (b8s x.c.written) * (HP.row 5 1 (.slice E2 128 e2) 128 (b8s x.c.written) * (HP.pt B (.cells #[.slice A0 128 c0, .slice A1 128 c1, .slice A2 128 c2, .slice A3 128 c3, .bool true] 176) * (HP.rdk y room fuse (.slice (some ⟨g, o, none⟩) n cF) fs' L' * q))))) := ⟨hn27.perm (by ac_rfl)⟩
                    clear hn27 HS26
                    revert HS27
                    revert W27
                    revert g3
                    revert e2
                    revert E2
                    revert g2
                    revert e1
                    revert E1
                    revert g1
                    exact hsh0.out
                  · refine br_keep #[true, true, true, true, true, true, true, true, true, true, true, true, true, true, true, true, true, true, false, true, true, true, false, false, false, false] rfl (by kernel_rfl) (fun K hK => ?_)
                    go_simp
                    obtain ⟨W28, hW28⟩ : ∃ x, x = World.alloc W25 (.cells #[] 5) := ⟨_, rfl⟩
                    have hn28 : Sat E W28 (HP.row 5 1 (.slice E1 128 e1) 128 (b8s x.c.written) * (HP.pt B (.cells #[.slice A0 128 c0, .slice A1 128 c1, .slice A2 128 c2, .slice A3 128 c3, .bool true] 176) * (HP.rdk y room fuse (.slice (some ⟨g, o, none⟩) n cF) fs' L' * q))) := by rw [hW28]; exact (HS25.out.alloc _).right
                    rw [← hW28]
                    refine hK _ _ (by first | exact hn28 | exact hn28.right | exact hn28.right.right | exact hn28.right.right.right) ?_
                    clear hK K hW28
                    generalize World.heap W25 = hp0
                    generalize Array.size hp0 = g3
                    have HS28 : Aside (Sat E W28 (HP.row 5 1 (.slice E1 128 e1) 128 (b8s x.c.written) * (HP.pt B (.cells #[.slice A0 128 c0, .slice A1 128 c1, .slice A2 128 c2, .slice A3 128 c3, .bool true] 176) * (HP.rdk y room fuse (.slice (some ⟨g, o, none⟩) n cF) fs' L' * q)))) := ⟨hn28.perm (by ac_rfl)⟩
                    clear hn28 HS25
                    revert HS28
                    revert W28
                    revert g3
                    revert g2
                    revert e1
                    revert E1
                    revert g1
                    exact hsh1.out
              · intro g1 E1 e1 g2 g3 W29 HS29
                refine wpR_keep #[true, true, true, true, true, true, true, true, true, true, true, true, true, true, true, true, true, true, true, true, true, true, false, false, false, false] (i := 18) rfl (by kernel_rfl) (fun K hK => ?_)
                refine Eq.mpr (if_pos (by rfl)) ?_
                refine wp_append_row (v := .slice (some ⟨g2, 0, none⟩) 0 0) (n := 0) (cs := []) (A := A3) (m := 128) (c := c3) (news := b8s x.c.written) slB8 rfl rfl rfl (HS29.out.row_nil 5 1 _) (HC.out _ (by first | exact HS29.out | exact HS29.out.right | exact HS29.out.right.right | exact HS29.out.right.right.right)).2.2.2 (by rw [b8s_length]; exact hlen.out) (b8s_one _) (by unfold maxLen; omega) (by omega) (fun vv W30 hn30 => ?_)
                rw [List.nil_append, Nat.zero_add] at hn30
                obtain ⟨E2, e2, rfl, -, -⟩ := hn30.row_slice
                refine hK _ _ (by first | exact hn30 | exact hn30.right | exact hn30.right.right | exact hn30.right.right.right) ?_
                clear hK K
                have HS30 : Aside (Sat E W30 (HP.row 5 1 (.slice E1 128 e1) 128 (b8s x.c.written) * (HP.row 5 1 (.slice E2 128 e2) 128 (b8s x.c.written) * (HP.pt B (.cells #[.slice A0 128 c0, .slice A1 128 c1, .slice A2 128 c2, .slice A3 128 c3, .bool true] 176) * (HP.rdk y room fuse (.slice (some ⟨g, o, none⟩) n cF) fs' L' * q))))) := ⟨hn30.perm (by ac_rfl)⟩
                clear hn30 HS29
                revert HS30
                revert W30
                revert g3
                revert e2
                revert E2
                revert g2
                revert e1
                revert E1
                revert g1
                exact hsh0.out
            · intro g1 E1 e1 g2 E2 e2 g3 W31 HS31
              refine wpR_keep #[true, true, true, true, true, true, true, true, true, true, true, true, true, true, true, true, true, true, true, true, true, true, true, false, false, false] (i := 22) rfl (by kernel_rfl) (fun K hK => ?_)
              refine Eq.mpr (if_pos (by rfl)) ?_
              refine wp_append_row (v := .slice (some ⟨g3, 0, none⟩) 0 0) (n := 0) (cs := []) (A := A3) (m := 128) (c := c3) (news := b8s x.c.written) slB8 rfl rfl rfl (HS31.out.row_nil 5 1 _) (HC.out _ (by first | exact HS31.out | exact HS31.out.right | exact HS31.out.right.right | exact HS31.out.right.right.right)).2.2.2 (by rw [b8s_length]; exact hlen.out) (b8s_one _) (by unfold maxLen; omega) (by omega) (fun vv W32 hn32 => ?_)
              rw [List.nil_append, Nat.zero_add] at hn32
              obtain ⟨E3, e3, rfl, -, -⟩ := hn32.row_slice
              refine hK _ _ (by first | exact hn32 | exact hn32.right | exact hn32.right.right | exact hn32.right.right.right) ?_
              clear hK K
              have HS32 : Aside (Sat E W32 (HP.row 5 1 (.slice E1 128 e1) 128 (b8s x.c.written) * (HP.row 5 1 (.slice E2 128 e2) 128 (b8s x.c.written) * (HP.row 5 1 (.slice E3 128 e3) 128 (b8s x.c.written) * (HP.pt B (.cells #[.slice A0 128 c0, .slice A1 128 c1, .slice A2 128 c2, .slice A3 128 c3, .bool true] 176) * (HP.rdk y room fuse (.slice (some ⟨g, o, none⟩) n cF) fs' L' * q)))))) := ⟨hn32.perm (by ac_rfl)⟩
              clear hn32 HS31
              refine wpR_rd 23 #[true, true, true, true, true, true, true, true, true, true, true, true, true, true, true, true, true, true, true, true, true, true, true, true, false, false] rfl onlyN_noPanic (by kernel_rfl) (fun K hK => ?_); (go_simp; try go_bits); refine hK _ ?_; clear hK K
              refine wpR_rd 24 #[true, true, true, true, true, true, true, true, true, true, true, true, true, true, true, true, true, true, true, true, true, true, true, true, true, false] rfl onlyN_noPanic (by kernel_rfl) (fun K hK => ?_); (go_simp; try go_bits); refine hK _ ?_; clear hK K
              refine wpR_eff #[true, true, true, true, true, true, true, true, true, true, true, true, true, true, true, true, true, true, true, true, true, true, true, true, true, true] (i := 25) rfl (by kernel_rfl) (fun K hK => ?_)
              have hn33a : Sat E W32 (HP.rdk y room fuse (.slice (some ⟨g, o, none⟩) n cF) fs' L' * ((HP.row 5 1 (.slice E3 128 e3) 128 (b8s x.c.written) * (HP.row 5 1 (.slice E2 128 e2) 128 (b8s x.c.written) * HP.row 5 1 (.slice E1 128 e1) 128 (b8s x.c.written))) * (HP.pt B (.cells #[.slice A0 128 c0, .slice A1 128 c1, .slice A2 128 c2, .slice A3 128 c3, .bool true] 176) * q))) := HS32.out.perm (by ac_rfl)
              obtain ⟨W33, hn33r, hn33b⟩ := hn33a.rc_storeAgg HF.out.1 HF.out.2.1 hltA.out (⟨⟨x.c.written, x.c.written, x.c.written, x.c.written, false⟩, .slice A3 128 c3, .slice E1 128 e1, .slice E2 128 e2, .slice E3 128 e3⟩ : RC) rfl
              refine Eq.mpr (if_pos (by rfl)) ?_
              refine wp_store_run rfl rfl rfl rfl hn33r ?_
              have hn33 : Sat E W33 (HP.pt B (.cells #[.slice A0 128 c0, .slice A1 128 c1, .slice A2 128 c2, .slice A3 128 c3, .bool true] 176) * (HP.rdk y room fuse (.slice (some ⟨g, o, none⟩) n cF) (setRC fs' k i (⟨⟨x.c.written, x.c.written, x.c.written, x.c.written, false⟩, .slice A3 128 c3, .slice E1 128 e1, .slice E2 128 e2, .slice E3 128 e3⟩ : RC)) ((.slice E1 128 e1, x.c.written) :: (.slice E2 128 e2, x.c.written) :: (.slice E3 128 e3, x.c.written) :: L') * q)) := sync_push hn33b
              refine hK _ _ ?_
              clear hK K hn33a hn33r hn33b
              have HS33 : Aside (Sat E W33 (HP.pt B (.cells #[.slice A0 128 c0, .slice A1 128 c1, .slice A2 128 c2, .slice A3 128 c3, .bool true] 176) * (HP.rdk y room fuse (.slice (some ⟨g, o, none⟩) n cF) (setRC fs' k i (⟨⟨x.c.written, x.c.written, x.c.written, x.c.written, false⟩, .slice A3 128 c3, .slice E1 128 e1, .slice E2 128 e2, .slice E3 128 e3⟩ : RC)) ((.slice E1 128 e1, x.c.written) :: (.slice E2 128 e2, x.c.written) :: (.slice E3 128 e3, x.c.written) :: L') * q))) := ⟨hn33.perm (by ac_rfl)⟩
              clear hn33 HS32
              refine wpR_done (by kernel_rfl) ?_ _
              simp only [OnlyN]
              have HR2 : Aside (SyR A name k l (some ⟨gc, oc, none⟩) vn VC (i + 1) (setRC fs' k i (⟨⟨x.c.written, x.c.written, x.c.written, x.c.written, false⟩, .slice A3 128 c3, .slice E1 128 e1, .slice E2 128 e2, .slice E3 128 e3⟩ : RC)) ((.slice E1 128 e1, x.c.written) :: (.slice E2 128 e2, x.c.written) :: (.slice E3 128 e3, x.c.written) :: L') { f' with cs := f'.cs.set i (⟨⟨x.c.written, x.c.written, x.c.written, x.c.written, false⟩, .slice A3 128 c3, .slice E1 128 e1, .slice E2 128 e2, .slice E3 128 e3⟩ : RC) }) := ⟨sync_step HR.out HF.out.2.2 HIN.out.2.2 hltA.out HWT.out HIN.out.2.1 HIN.out.1 HE3.out HKA.out⟩
              have HS9 := Aside.mk HS33.out.right
              clear HS33
              go_wp2
              go_roundw
              case rel => exact ⟨i + 1, _, _, _, by omega, by go_num, HR2, ⟨by rw [setRC_len]; exact HN2.out⟩, HS9⟩
              case measure => simp [intOf]; omega
        · obtain rfl : i = vn := by omega
          go_wp2
          go_ret
          rw [HA.out]
          refine ⟨rfl, Sat.rdisk_close (v := .slice (some ⟨g, o, none⟩) n cF) (fs := fs') (L := L') ?_ ?_⟩
          · have h := HR.out.view
            have e : syL l i = l.map Cel.syncd := by unfold syL; rw [List.take_of_length_le (by rw [HLL.out]; exact Nat.le_refl _), List.drop_eq_nil_of_le (by rw [HLL.out]; exact Nat.le_refl _), List.append_nil]
            rw [e] at h
            unfold Dk.set
            rw [show A.burnt.files = A.files from rfl, putF_at HV.out.fine.sorted HKA.out]
            exact h
          · have h := HS2.out
            rw [HFR.out.1, HFR.out.2] at h
            exact h
  · rw [h1] at HPl
    have HA : Aside (AR = (30, A)) := ⟨by rw [hAR]; unfold Dk.sync; rw [hv.lk_none h2]⟩
    have HV := Aside.mk hv
    clear hv h1 h2 hAR
    go_enter Tryz.func69, Tryz.ntmps69
    go_wp2_with fail
    refine HPl.out.mono ?_
    rintro e w1 ⟨rfl, h1⟩
    have HS := Aside.mk h1
    clear h1
    go_wp2
    go_ret
    rw [HA.out]
    exact ⟨rfl, Sat.rdisk_close HV.out HS.out⟩
def cmpS (a b : ByteArray) : Int := if ltN a b = true then -1 else if ltN b a = true then 1 else 0
def cmpI (a b : Int) : Int := if a < b then -1 else if b < a then 1 else 0
def orL (l : List Int) : Int := (l.find? (fun x => decide (x ≠ 0))).getD 0
set_option maxHeartbeats 1000000 in
theorem isNaN_str (a : ByteArray) (w : World) : Calls Tryz.prog 155 #[.string a] w fun e w' => e = .returned (.bool false) ∧ w' = w := by
  go_enter Tryz.func155, Tryz.ntmps155
  go_wp2
  go_ret
  exact ⟨rfl, rfl⟩
set_option maxHeartbeats 1000000 in
theorem isNaN_int (a : Int) (w : World) : Calls Tryz.prog 156 #[.int .i64 a] w fun e w' => e = .returned (.bool false) ∧ w' = w := by
  go_enter Tryz.func156, Tryz.ntmps156
  go_wp2
  go_ret
  exact ⟨rfl, rfl⟩
theorem gtr_less (a b : ByteArray) : (!(Op.bytesLess a.toList b.toList || a.toList == b.toList)) = Op.bytesLess b.toList a.toList := by
  by_cases h : a.toList = b.toList
  · rw [h, bytesLess_irrefl]; simp
  · cases h1 : Op.bytesLess a.toList b.toList with
    | true =>
      cases h2 : Op.bytesLess b.toList a.toList with
      | false => rfl
      | true =>
        have := bytesLess_trans h1 h2
        rw [bytesLess_irrefl] at this
        cases this
    | false => rw [bytesLess_total h1 h]; simp [h]
set_option maxHeartbeats 1000000 in
theorem compare_str (a b : ByteArray) (w : World) : Calls Tryz.prog 126 #[.string a, .string b] w fun e w' => e = .returned (.int .i64 (cmpS a b)) ∧ w' = w := by
  have hg := gtr_less a b
  go_enter Tryz.func126, Tryz.ntmps126
  go_wp2_with fail
  refine (isNaN_str a _).mono ?_
  rintro e w1 ⟨rfl, rfl⟩
  go_wp2_with fail
  refine (isNaN_str b _).mono ?_
  rintro e w1 ⟨rfl, rfl⟩
  go_wp2
  all_goals (go_ret; refine ⟨?_, rfl⟩; unfold cmpS ltN; rw [← hg]; simp_all)
set_option maxHeartbeats 1000000 in
theorem compare_int (a b : Int) (w : World) : Calls Tryz.prog 127 #[.int .i64 a, .int .i64 b] w fun e w' => e = .returned (.int .i64 (cmpI a b)) ∧ w' = w := by
  go_enter Tryz.func127, Tryz.ntmps127
  go_wp2_with fail
  refine (isNaN_int a _).mono ?_
  rintro e w1 ⟨rfl, rfl⟩
  go_wp2_with fail
  refine (isNaN_int b _).mono ?_
  rintro e w1 ⟨rfl, rfl⟩
  go_wp2
  all_goals (go_ret; refine ⟨?_, rfl⟩; unfold cmpI; first | (rw [if_pos (by omega)]; rfl) | (rw [if_neg (by omega), if_pos (by omega)]; rfl) | (rw [if_neg (by omega), if_neg (by omega)]; rfl))
set_option maxHeartbeats 1000000 in
theorem cmp_or2 (x y : Int) (A : Addr) (c : Nat) (w : World) (h : Cells w (some A) [.int .i64 x, .int .i64 y]) : Calls Tryz.prog 125 #[.slice (some A) 2 c] w fun e w' => e = .returned (.int .i64 (if x = 0 then y else x)) ∧ w' = w := by
  obtain ⟨g, o, rfl⟩ := slice_addr h rfl (k := 0) (by simp)
  have g0 : w.cell? ⟨g, o, none⟩ = some (.int .i64 x) := by
    obtain ⟨a, ha, hc⟩ := h.at_ 0 (by simp)
    cases ha
    exact hc
  have g1 : w.cell? ⟨g, o + 1, none⟩ = some (.int .i64 y) := by
    obtain ⟨a, ha, hc⟩ := h.at_ 1 (by simp)
    cases ha
    exact hc
  clear h
  go_enter Tryz.func125, Tryz.ntmps125
  go_wp2
  go_loopw [8] (fun v8 wr => ∃ k : Nat, k ≤ 2 ∧ v8 = .int .i64 k ∧ wr = w ∧ (0 < k → x = 0) ∧ (1 < k → y = 0)) (fun i _ => 2 - (intOf i).toNat)
  case atStart => exact ⟨0, by omega, rfl, rfl, by omega, by omega⟩
  case round =>
    obtain ⟨k, hk, rfl, rfl, hkx, hky⟩ := hrel
    have hc : k = 0 ∨ k = 1 ∨ k = 2 := by omega
    rcases hc with h0 | h0 | h0 <;> subst h0
    · clear hkx hky
      by_cases hx : x = 0
      · subst hx
        go_wp2
        go_roundw
        case rel => exact ⟨1, by omega, by simp, by simp, by simp, by simp⟩
        case measure => simp [intOf]
      · have hxb : (x == 0) = false := by rw [beq_eq_false_iff_ne]; exact hx
        go_wp2
        all_goals (go_ret; exact ⟨rfl, rfl⟩)
    · have hx := hkx (by omega)
      subst hx
      clear hkx hky
      by_cases hy : y = 0
      · subst hy
        go_wp2
        go_roundw
        case rel => exact ⟨2, by omega, by simp, by simp, by simp, by simp⟩
        case measure => simp [intOf]
      · have hyb : (y == 0) = false := by rw [beq_eq_false_iff_ne]; exact hy
        go_wp2
        all_goals (go_ret; exact ⟨rfl, rfl⟩)
    · have hx := hkx (by omega)
      have hy := hky (by omega)
      subst hx
      subst hy
      go_wp2
      go_ret
      exact ⟨rfl, rfl⟩
end Go.Proofs.YtnpinegpajbkeaaGreatDoor
namespace Go.Proofs.YtnpinegpajbkeaaGreatDoor
open Go.RowKit Go.Sort HP
def encSpot (x : ByteArray × Int) : List Value := [.string x.1, .int .i64 x.2]
def cmpSpot (x y : ByteArray × Int) : Int := if cmpS x.1 y.1 = 0 then cmpI x.2 y.2 else cmpS x.1 y.1
set_option maxHeartbeats 2000000 in
set_option maxRecDepth 100000 in
theorem damaged_cmp (s t : ByteArray) (i j : Int) (W : World) : Calls Tryz.prog 124 #[.agg #[.string s, .int .i64 i], .agg #[.string t, .int .i64 j]] W fun e w' => e = .returned (.int .i64 (if cmpS s t = 0 then cmpI i j else cmpS s t)) ∧ ∃ q os', w' = grow (W.drewN q) os' := by
  have a0 := fun k => Sat.cell (Sat.s2 ((((Sat.nothing (w := W)).alloc (.cells #[.string s, .int .i64 i] 68)).alloc (.cells #[.string t, .int .i64 j] 68)).drew)) k
  have a1 := fun k => Sat.cell ((((Sat.nothing (w := W)).alloc (.cells #[.string s, .int .i64 i] 68)).alloc (.cells #[.string t, .int .i64 j] 68)).drew) k
  rw [show (W.alloc (.cells #[.string s, .int .i64 i] 68)).heap.size = W.heap.size + 1 by simp] at a1
  have g0 := a0 0
  have g1 := a0 1
  have g2 := a1 0
  have g3 := a1 1
  simp only [List.getElem?_toArray, List.getElem?_cons_zero, List.getElem?_cons_succ] at g0 g1 g2 g3
  clear a0 a1
  have hcs := compare_str s t
  have hci := compare_int i j
  generalize cmpS s t = x at *
  generalize cmpI i j = y at *
  obtain ⟨z, hz⟩ : ∃ z, z = if x = 0 then y else x := ⟨_, rfl⟩
  rw [← hz]
  have HZ := Aside.mk hz
  clear hz
  go_enter Tryz.func124, Tryz.ntmps124
  go_wp2
  refine region_R [4, 9, 10, 11] [4, 9] (fun w => w = (((W.alloc (.cells #[.string s, .int .i64 i] 68)).alloc (.cells #[.string t, .int .i64 j] 68)).drew)) #[false, false, false, false, false, false, false, false, false, false, false, false, false] (by kernel_rfl) rfl rfl ?_
  refine wpR_rd 0 #[true, false, false, false, false, false, false, false, false, false, false, false, false] rfl onlyN_noPanic (by kernel_rfl) (fun K hK => ?_); (go_simp; try go_bits); refine hK _ ?_; clear hK K
  refine wpR_rd 1 #[true, true, false, false, false, false, false, false, false, false, false, false, false] rfl onlyN_noPanic (by kernel_rfl) (fun K hK => ?_); (go_simp; try go_bits); refine hK _ ?_; clear hK K
  refine wpR_rd 2 #[true, true, true, false, false, false, false, false, false, false, false, false, false] rfl onlyN_noPanic (by kernel_rfl) (fun K hK => ?_); (go_simp; try go_bits); refine hK _ ?_; clear hK K
  refine wpR_rd 3 #[true, true, true, true, false, false, false, false, false, false, false, false, false] rfl onlyN_noPanic (by kernel_rfl) (fun K hK => ?_); (go_simp; try go_bits); refine hK _ ?_; clear hK K
  refine wpR_pu 5 #[true, true, true, true, false, true, false, false, false, false, false, false, false] rfl onlyN_noPanic (by kernel_rfl) (fun K hK => ?_); (go_simp; try go_bits); refine hK _ ?_; clear hK K
  refine wpR_held (i := 6) (v := .int .i64 i) #[true, true, true, true, false, true, true, false, false, false, false, false, false] rfl onlyN_noPanic (by kernel_rfl) rfl (.inl ⟨rfl, fun w' hT => ?_⟩) ?_
  · subst hT; go_simp
  simp only [Act.put, List.setIfInBounds_toArray, List.set_cons_zero, List.set_cons_succ]
  refine wpR_pu 7 #[true, true, true, true, false, true, true, true, false, false, false, false, false] rfl onlyN_noPanic (by kernel_rfl) (fun K hK => ?_); (go_simp; try go_bits); refine hK _ ?_; clear hK K
  refine wpR_held (i := 8) (v := .int .i64 j) #[true, true, true, true, false, true, true, true, true, false, false, false, false] rfl onlyN_noPanic (by kernel_rfl) rfl (.inl ⟨rfl, fun w' hT => ?_⟩) ?_
  · subst hT; go_simp
  simp only [Act.put, List.setIfInBounds_toArray, List.set_cons_zero, List.set_cons_succ]
  refine wpR_keep #[true, true, true, true, true, true, true, true, true, false, false, false, false] (i := 4) rfl (by kernel_rfl) (fun K hK => ?_)
  go_simp; refine (hcs _).mono ?_; rintro e w5 ⟨rfl, hw5⟩; subst w5; refine hK _ _ rfl ?_; clear hK K
  refine wpR_keep #[true, true, true, true, true, true, true, true, true, true, false, false, false] (i := 9) rfl (by kernel_rfl) (fun K hK => ?_)
  go_simp; refine (hci _).mono ?_; rintro e w5 ⟨rfl, hw5⟩; subst w5; refine hK _ _ rfl ?_; clear hK K
  obtain ⟨W2, hW2⟩ : ∃ W2, W2 = (((W.alloc (.cells #[.string s, .int .i64 i] 68)).alloc (.cells #[.string t, .int .i64 j] 68)).drew) := ⟨_, rfl⟩
  rw [← hW2]
  have HW2 := Aside.mk hW2
  clear g0 g1 g2 g3 hW2
  refine wpR_eff #[true, true, true, true, true, true, true, true, true, true, true, false, false] (i := 10) rfl (by kernel_rfl) (fun K hK => ?_)
  go_simp; refine hK _ _ ?_; clear hK K
  have hc := Cells.fresh W2 [.int .i64 (x), .int .i64 (y)] 3 (0, 0)
  refine wpR_eff #[true, true, true, true, true, true, true, true, true, true, true, true, false] (i := 11) rfl (by kernel_rfl) (fun K hK => ?_)
  go_simp; refine (cmp_or2 (x) (y) _ _ _ hc).mono ?_; rintro e w5 ⟨rfl, hw5⟩; subst w5; rw [← HZ.out]; refine hK _ _ ?_; clear hK K
  refine wpR_rd 12 #[true, true, true, true, true, true, true, true, true, true, true, true, true] rfl onlyN_noPanic (by kernel_rfl) (fun K hK => ?_); (go_simp; try go_bits); refine hK _ ?_; clear hK K
  refine wpR_done (by kernel_rfl) ?_ _
  simp only [OnlyN]
  clear hc
  go_wp2
  go_ret
  refine ⟨rfl, 1, #[.cells #[.string s, .int .i64 i] 68, .cells #[.string t, .int .i64 j] 68, .cells #[.int .i64 x, .int .i64 y] 3], ?_⟩
  rw [HW2.out]
  simp only [alloc_eq_grow, drew_grow, grow_grow]
  rfl
def ltC {α : Type} (cf : α → α → Int) (x y : α) : Bool := decide (cf x y < 0)
theorem cmpS_zero {a b : ByteArray} : cmpS a b = 0 ↔ a = b := by
  unfold cmpS
  constructor
  · intro h
    split at h
    · omega
    · rename_i h1
      split at h
      · omega
      · rename_i h2
        by_cases e : a = b
        · exact e
        · exact absurd (ltN_total (by simpa using h1) e) h2
  · rintro rfl
    rw [ltN_irrefl]
    rfl
theorem ltSpot_iff (x y : ByteArray × Int) : ltC cmpSpot x y = true ↔ ltN x.1 y.1 = true ∨ x.1 = y.1 ∧ x.2 < y.2 := by
  unfold ltC cmpSpot
  rw [decide_eq_true_eq]
  by_cases e : x.1 = y.1
  · rw [if_pos (cmpS_zero.2 e), e, ltN_irrefl]
    unfold cmpI
    constructor
    · intro h
      refine .inr ⟨rfl, ?_⟩
      split at h
      · assumption
      · split at h <;> omega
    · rintro (h | ⟨-, h⟩)
      · cases h
      · rw [if_pos h]; omega
  · rw [if_neg (fun h => e (cmpS_zero.1 h))]
    unfold cmpS
    constructor
    · intro h
      left
      split at h
      · assumption
      · split at h <;> omega
    · rintro (h | ⟨h, -⟩)
      · rw [if_pos h]; omega
      · exact absurd h e
theorem ltSpot_irrefl (x : ByteArray × Int) : ltC cmpSpot x x = false := by
  rw [Bool.eq_false_iff]
  intro h
  rcases (ltSpot_iff x x).1 h with h | h
  · rw [ltN_irrefl] at h; cases h
  · omega
theorem ltSpot_trans {x y z : ByteArray × Int} (h1 : ltC cmpSpot x y = true) (h2 : ltC cmpSpot y z = true) : ltC cmpSpot x z = true := by
  rw [ltSpot_iff] at *
  rcases h1 with h1 | ⟨e1, h1⟩ <;> rcases h2 with h2 | ⟨e2, h2⟩
  · exact .inl (ltN_trans h1 h2)
  · exact .inl (by rw [← e2]; exact h1)
  · exact .inl (by rw [e1]; exact h2)
  · exact .inr ⟨e1.trans e2, by omega⟩
theorem ltSpot_total {x y : ByteArray × Int} (h1 : ltC cmpSpot x y = false) (h2 : ltC cmpSpot y x = false) : x = y := by
  have n1 : ¬ (ltN x.1 y.1 = true ∨ x.1 = y.1 ∧ x.2 < y.2) := fun h => by have := (ltSpot_iff x y).2 h; rw [h1] at this; cases this
  have n2 : ¬ (ltN y.1 x.1 = true ∨ y.1 = x.1 ∧ y.2 < x.2) := fun h => by have := (ltSpot_iff y x).2 h; rw [h2] at this; cases this
  have e : x.1 = y.1 := by
    by_cases e : x.1 = y.1
    · exact e
    · cases h : ltN x.1 y.1 with
      | true => exact (n1 (.inl h)).elim
      | false => exact (n2 (.inl (ltN_total h e))).elim
  have e2 : x.2 = y.2 := by
    rcases Int.lt_trichotomy x.2 y.2 with h | h | h
    · exact (n1 (.inr ⟨e, h⟩)).elim
    · exact h
    · exact (n2 (.inr ⟨e.symm, h⟩)).elim
  exact Prod.ext e e2
theorem ltSpot_ntrans {x y z : ByteArray × Int} (h1 : ltC cmpSpot x y = false) (h2 : ltC cmpSpot y z = false) : ltC cmpSpot x z = false := by
  cases h : ltC cmpSpot x z with
  | false => rfl
  | true =>
    cases h3 : ltC cmpSpot y x with
    | true =>
      have := ltSpot_trans h3 h
      rw [h2] at this; cases this
    | false =>
      obtain rfl := ltSpot_total h1 h3
      rw [h2] at h; cases h
theorem swo_spot : SWO (ltC cmpSpot) := ⟨ltSpot_irrefl, fun _ _ _ h1 h2 => ltSpot_trans h1 h2, fun _ _ _ h1 h2 => ltSpot_ntrans h1 h2⟩
def Cel.bad (c : Cel) : Bool := decide (c.durable ≠ c.synced) && decide (c.durable ≠ c.written)
def spotsN (s : ByteArray) (l : List Cel) : Nat → List (ByteArray × Int)
  | 0 => []
  | k + 1 => spotsN s l k ++ if (l[k]?).any Cel.bad = true then [(s, (k : Int))] else []
def spotsF (x : ByteArray × List Cel) : List (ByteArray × Int) := spotsN x.1 x.2 x.2.length
def Dk.damaged (A : Dk) : List (ByteArray × Int) := A.files.flatMap spotsF
theorem spotsN_mem {s : ByteArray} {l : List Cel} : ∀ {k : Nat} {x : ByteArray × Int}, x ∈ spotsN s l k → x.1 = s ∧ ∃ i : Nat, i < k ∧ x.2 = i ∧ (l[i]?).any Cel.bad = true
  | 0, x, h => by cases h
  | k + 1, x, h => by
    rcases List.mem_append.1 h with h | h
    · obtain ⟨h1, i, h2, h3⟩ := spotsN_mem h
      exact ⟨h1, i, by omega, h3⟩
    · split at h
      · rename_i hb
        obtain rfl := List.mem_singleton.1 h
        exact ⟨rfl, k, by omega, rfl, hb⟩
      · cases h
theorem spotsN_length (s : ByteArray) (l : List Cel) : ∀ k, (spotsN s l k).length ≤ k
  | 0 => Nat.le_refl _
  | k + 1 => by
    have := spotsN_length s l k
    rw [spotsN, List.length_append]
    split
    · simp; omega
    · simp; omega
theorem spotsN_sorted (s : ByteArray) (l : List Cel) : ∀ k, (spotsN s l k).Pairwise fun x y => ltC cmpSpot x y = true
  | 0 => List.Pairwise.nil
  | k + 1 => by
    rw [spotsN, List.pairwise_append]
    refine ⟨spotsN_sorted s l k, by split <;> simp, fun x hx y hy => ?_⟩
    split at hy
    · obtain rfl := List.mem_singleton.1 hy
      obtain ⟨h1, i, h2, h3, -⟩ := spotsN_mem hx
      exact (ltSpot_iff _ _).2 (.inr ⟨h1, by show x.2 < (k : Int); omega⟩)
    · cases hy
theorem damaged_sorted {A : Dk} (hs : Sorted A.files) : A.damaged.Pairwise fun x y => ltC cmpSpot x y = true := by
  unfold Dk.damaged
  rw [List.pairwise_flatMap]
  refine ⟨fun x _ => spotsN_sorted _ _ _, hs.imp fun {x y} h a ha b hb => ?_⟩
  obtain ⟨h1, -⟩ := spotsN_mem ha
  obtain ⟨h2, -⟩ := spotsN_mem hb
  exact (ltSpot_iff _ _).2 (.inl (by rw [h1, h2]; exact h))
theorem sorted_damaged {A : Dk} (hs : Sorted A.files) {l : List (ByteArray × Int)} (h : l.Perm A.damaged) : (l.mergeSort fun x y => !(ltC cmpSpot) y x) = A.damaged := by
  refine List.Perm.eq_of_pairwise (le := fun x y => (!(ltC cmpSpot) y x) = true) (fun a b _ _ h1 h2 => ?_) ?_ ?_ ((List.mergeSort_perm _ _).trans h)
  · simp only [Bool.not_eq_true'] at h1 h2
    exact ltSpot_total h2 h1
  · refine List.pairwise_mergeSort (fun a b c h1 h2 => ?_) (fun a b => ?_) l
    · simp only [Bool.not_eq_true'] at h1 h2 ⊢
      exact ltSpot_ntrans h2 h1
    · cases h1 : ltC cmpSpot b a with
      | false => rfl
      | true =>
        cases h2 : ltC cmpSpot a b with
        | false => rfl
        | true =>
          have := ltSpot_trans h1 h2
          rw [ltSpot_irrefl] at this; cases this
  · refine (damaged_sorted hs).imp fun {x y} h => ?_
    cases h2 : ltC cmpSpot y x with
    | false => rfl
    | true =>
      have := ltSpot_trans h h2
      rw [ltSpot_irrefl] at this; cases this
end Go.Proofs.YtnpinegpajbkeaaGreatDoor
namespace Go.Proofs.YtnpinegpajbkeaaGreatDoor
open Go.RowKit HP
theorem putF_mem {α : Type} {s : ByteArray} {v : α} : ∀ {l : List (ByteArray × α)} {x : ByteArray × α}, x ∈ putF l s v → x = (s, v) ∨ x ∈ l
  | [], x, h => .inl (by simpa [putF] using h)
  | (t, u) :: l, x, h => by
    unfold putF at h
    split at h
    · rcases List.mem_cons.1 h with h | h
      · exact .inl h
      · exact .inr (List.mem_cons_of_mem _ h)
    · split at h
      · rcases List.mem_cons.1 h with h | h
        · exact .inl h
        · exact .inr h
      · rcases List.mem_cons.1 h with h | h
        · exact .inr (by rw [h]; exact List.mem_cons_self ..)
        · exact (putF_mem h).imp id (List.mem_cons_of_mem _)
def Dk.Whole (A : Dk) : Prop := ∀ x ∈ A.files, ∀ c ∈ x.2, c.durable = c.synced
theorem Dk.Whole.at {A : Dk} (h : A.Whole) (s : ByteArray) : ∀ c ∈ A.at s, c.durable = c.synced := fun c hc => by
  unfold Dk.at at hc
  cases hl : lk A.files s with
  | none => rw [hl] at hc; cases hc
  | some l => rw [hl] at hc; exact h _ (lk_mem hl) c hc
theorem Dk.Whole.set {A : Dk} (h : A.Whole) {s : ByteArray} {l : List Cel} (hl : ∀ c ∈ l, c.durable = c.synced) : (A.set s l).Whole := fun x hx c hc => by
  rcases putF_mem hx with rfl | hx
  · exact hl c hc
  · exact h x hx c hc
theorem Dk.Whole.burnt {A : Dk} (h : A.Whole) : A.burnt.Whole := h
theorem Dk.Whole.write {A : Dk} (h : A.Whole) (s : ByteArray) (i : Int) (b : List Int) : (A.write s i b).2.Whole := by
  unfold Dk.write
  split
  · exact h
  · split
    · exact h.burnt
    · split
      · exact h.burnt
      · split
        · refine h.burnt.set fun c hc => ?_
          rcases List.mem_append.1 hc with hc | hc
          · exact h.at s c hc
          · rw [List.mem_singleton.1 hc]; rfl
        · refine h.burnt.set fun c hc => ?_
          obtain ⟨j, hj⟩ := List.getElem?_of_mem hc
          rw [List.getElem?_modify] at hj
          cases hg : (A.at s)[j]? with
          | none => rw [hg] at hj; cases hj
          | some c0 =>
            rw [hg] at hj
            have := h.at s c0 (List.mem_of_getElem? hg)
            simp only [Option.map_eq_map, Option.map_some, Option.some.injEq] at hj
            split at hj <;> (subst hj; exact this)
theorem Dk.Whole.sync {A : Dk} (h : A.Whole) (s : ByteArray) : (A.sync s).2.Whole := by
  unfold Dk.sync
  cases hl : lk A.files s with
  | none => exact h
  | some l =>
    dsimp only
    split
    · exact h.burnt
    · refine h.burnt.set fun c hc => ?_
      obtain ⟨c0, hc0, rfl⟩ := List.mem_map.1 hc
      unfold Cel.syncd
      split
      · rfl
      · exact h _ (lk_mem hl) c0 hc0
theorem Dk.Whole.remove {A : Dk} (h : A.Whole) (s : ByteArray) : (A.remove s).2.Whole := by
  unfold Dk.remove
  cases hl : lk A.files s with
  | none => exact h
  | some l =>
    dsimp only
    split
    · exact h.burnt
    · exact fun x hx c hc => h x (List.mem_filter.1 hx).1 c hc
theorem spotsN_nil {s : ByteArray} {l : List Cel} (h : ∀ c ∈ l, c.bad = false) : ∀ k, spotsN s l k = []
  | 0 => rfl
  | k + 1 => by
    rw [spotsN, spotsN_nil h k]
    cases hk : l[k]? with
    | none => rfl
    | some c => simp [h c (List.mem_of_getElem? hk)]
theorem damaged_nil {A : Dk} (h : ∀ x ∈ A.files, ∀ c ∈ x.2, c.bad = false) : A.damaged = [] := by
  unfold Dk.damaged
  rw [List.flatMap_eq_nil_iff]
  exact fun x hx => spotsN_nil (h x hx) _
theorem Dk.Whole.damaged {A : Dk} (h : A.Whole) : A.damaged = [] := damaged_nil fun x hx c hc => by
  simp [Cel.bad, h x hx c hc]
theorem keepOf_whole {K : List Kep} (hK : ∀ k ∈ K, k.bytes = 128) (s : ByteArray) (i : Int) : keepOf K s i = 0 ∨ keepOf K s i = 128 := by
  unfold keepOf
  cases hf : K.find? (fun k => decide (k.name = s) && decide (k.index = i)) with
  | none => exact .inl rfl
  | some k => exact .inr (by dsimp only; rw [hK k (List.mem_of_find?_eq_some hf)]; rfl)
theorem Dk.Whole.crash {A : Dk} (h : A.Whole) (hf : A.Fine) {K : List Kep} (hK : ∀ k ∈ K, k.bytes = 128) : (A.crash K).damaged = [] := damaged_nil fun x hx c hc => by
  obtain ⟨y, hy, rfl⟩ := List.mem_map.1 hx
  unfold crashL at hc
  obtain ⟨j, hj⟩ := List.getElem?_of_mem hc
  rw [List.getElem?_mapIdx] at hj
  cases hg : y.2[j]? with
  | none => rw [hg] at hj; cases hj
  | some c0 =>
    rw [hg] at hj
    simp only [Option.map_some, Option.some.injEq] at hj
    subst hj
    have hm := List.mem_of_getElem? hg
    have e := h y hy c0 hm
    obtain ⟨-, h2, h3, h4⟩ := hf.cels y hy c0 hm
    unfold Cel.crashd
    split
    · rcases keepOf_whole hK y.1 j with hk | hk
      · rw [hk]; simp [Cel.bad, e]
      · rw [hk]
        have e1 : c0.written.take (128 : Int).toNat ++ c0.durable.drop (128 : Int).toNat = c0.written := by
          rw [show (128 : Int).toNat = 128 from rfl, List.take_of_length_le (by omega), List.drop_eq_nil_of_le (by omega), List.append_nil]
        rw [e1]; simp [Cel.bad]
    · simp [Cel.bad, e]
end Go.Proofs.YtnpinegpajbkeaaGreatDoor
