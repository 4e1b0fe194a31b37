/- Texts of one claim, one behind the other: RefS3, RefT3, LayKe, LaySd, LaySr, List, RefE3, SortS, LaySp. -/
import Derived.Test.YtnpinegpajbkeaaGreatDoorRi13
import Derived.Deep.CutBlock
import Derived.Test.YtnpinegpajbkeaaGreatDoorProg
import Derived.Shelf.SlIter.Nil
import Derived.Shelf.SortM.Plain
import Derived.Shelf.SortM.SortNone
import Derived.Shelf.SlSortCmp.NoneTotal
set_option linter.unusedSimpArgs false
set_option linter.unusedVariables false
namespace Go.Proofs.YtnpinegpajbkeaaGreatDoor
open Go.RowKit HP
def crF (K : List Kep) (F : List (ByteArray × List Cel)) (k : Nat) : List (ByteArray × List Cel) := (F.take k).map (fun x => (x.1, crashL K x.1 x.2)) ++ F.drop k
theorem crF_zero (K : List Kep) (F : List (ByteArray × List Cel)) : crF K F 0 = F := by simp [crF]
theorem crF_end (K : List Kep) (F : List (ByteArray × List Cel)) : crF K F F.length = F.map (fun x => (x.1, crashL K x.1 x.2)) := by simp [crF]
theorem crF_step {K : List Kep} {F : List (ByteArray × List Cel)} {k : Nat} {x : ByteArray × List Cel} (h : F[k]? = some x) : (crF K F k)[k]? = some x ∧ (crF K F k).set k (x.1, crashL K x.1 x.2) = crF K F (k + 1) := by
  obtain ⟨hi, rfl⟩ := List.getElem?_eq_some_iff.1 h
  have hlen : ((F.take k).map (fun x => (x.1, crashL K x.1 x.2))).length = k := by simp; omega
  unfold crF
  constructor
  · rw [List.getElem?_append_right (by omega), hlen, Nat.sub_self, List.getElem?_drop, Nat.add_zero, h]
  · rw [List.set_append_right _ _ (by omega), hlen, Nat.sub_self, List.drop_eq_getElem_cons hi, List.set_cons_zero, List.take_succ_eq_append_getElem hi, List.map_append, List.append_assoc]
    rfl
theorem keepOf_first {K : List Kep} {s : ByteArray} {i : Int} {j : Nat} {k : Kep} (hj : K[j]? = some k) (hn : k.name = s) (hi : k.index = i) (hb : ∀ t < j, ∀ x, K[t]? = some x → ¬ (x.name = s ∧ x.index = i)) : keepOf K s i = clampK k.bytes := by
  unfold keepOf
  have : K.find? (fun k => decide (k.name = s) && decide (k.index = i)) = some k := by
    rw [List.find?_eq_some_iff_getElem]
    obtain ⟨hj2, rfl⟩ := List.getElem?_eq_some_iff.1 hj
    refine ⟨by simp [hn, hi], j, hj2, rfl, fun t ht => ?_⟩
    have h := hb t ht _ (List.getElem?_eq_getElem (by omega))
    simp
    by_cases h1 : K[t].name = s
    · exact .inr fun h2 => h ⟨h1, h2⟩
    · exact .inl h1
  rw [this]
theorem keepOf_none {K : List Kep} {s : ByteArray} {i : Int} (hb : ∀ t < K.length, ∀ x, K[t]? = some x → ¬ (x.name = s ∧ x.index = i)) : keepOf K s i = 0 := by
  unfold keepOf
  have : K.find? (fun k => decide (k.name = s) && decide (k.index = i)) = none := by
    rw [List.find?_eq_none]
    intro x hx
    obtain ⟨t, ht⟩ := List.getElem?_of_mem hx
    have := hb t (List.getElem?_eq_some_iff.1 ht).1 x ht
    simpa using this
  rw [this]
structure CrR (A : Dk) (F : List (ByteArray × List Cel)) (K : List Kep) (k : Nat) (nm : ByteArray) (l : List Cel) (VA : Option Addr) (vn VC i : Nat) (fs : List RF) (L : List (Value × List Int)) (f : RF) : Prop where
  at_ : fs[k]? = some f
  nm_ : f.name = nm
  val : f.val = .slice VA vn VC
  len : f.cs.length = vn
  cels : f.cs.map (·.c) = crP K nm l i
  view : RView { A with files := F.set k (nm, crP K nm l i) } fs L
  there : F[k]? = some (nm, l)
section
variable {A : Dk} {F : List (ByteArray × List Cel)} {K : List Kep} {k : Nat} {nm : ByteArray} {l : List Cel} {VA : Option Addr} {vn VC i : Nat} {fs : List RF} {L : List (Value × List Int)} {f : RF} {x : RC}
theorem CrR.cel (HR : CrR A F K k nm l VA vn VC i fs L f) (hx : f.cs[i]? = some x) : l[i]? = some x.c := by
  have h := congrArg (fun l => l[i]?) HR.cels
  simp only [List.getElem?_map, hx, Option.map_some] at h
  have hi : i < l.length := by
    have h1 := congrArg List.length HR.cels
    have h2 := (List.getElem?_eq_some_iff.1 hx).1
    rw [List.length_map] at h1
    by_cases hi : i < l.length
    · exact hi
    · exfalso
      unfold crP at h1
      rw [List.length_append, crashL_len, List.length_take, List.length_drop] at h1
      omega
  obtain ⟨c, hc⟩ : ∃ c, l[i]? = some c := ⟨_, List.getElem?_eq_getElem hi⟩
  rw [(crP_step hc).1] at h
  cases h; exact hc
theorem CrR.skip (HR : CrR A F K k nm l VA vn VC i fs L f) (hx : f.cs[i]? = some x) (hw : x.c.waits = false) : CrR A F K k nm l VA vn VC (i + 1) fs L f := by
  have hc := HR.cel hx
  have e : crP K nm l (i + 1) = crP K nm l i := by
    have h := (crP_step (K := K) (s := nm) hc).2
    have e1 : x.c.crashd (keepOf K nm i) = x.c := by unfold Cel.crashd; rw [hw]; rfl
    rw [e1, set_self (crP_step hc).1] at h
    exact h.symm
  exact ⟨HR.at_, HR.nm_, HR.val, HR.len, by rw [e]; exact HR.cels, by rw [e]; exact HR.view, HR.there⟩
theorem CrR.step (HR : CrR A F K k nm l VA vn VC i fs L f) (hx : f.cs[i]? = some x) (hw : x.c.waits = true) {m : Nat} (hm : (m : Int) = keepOf K nm i) {V1 V2 : Value} :
    CrR A F K k nm l VA vn VC (i + 1) (setRC fs k i (⟨⟨x.c.written.take m ++ x.c.durable.drop m, x.c.written.take m ++ x.c.durable.drop m, x.c.synced, x.c.written, false⟩, V2, V1, x.vs, x.vw⟩ : RC)) ((V2, x.c.written.take m ++ x.c.durable.drop m) :: (V1, x.c.written.take m ++ x.c.durable.drop m) :: L)
      { f with cs := f.cs.set i (⟨⟨x.c.written.take m ++ x.c.durable.drop m, x.c.written.take m ++ x.c.durable.drop m, x.c.synced, x.c.written, false⟩, V2, V1, x.vs, x.vw⟩ : RC) } := by
  obtain ⟨X, hX⟩ : ∃ X : RC, X = ⟨⟨x.c.written.take m ++ x.c.durable.drop m, x.c.written.take m ++ x.c.durable.drop m, x.c.synced, x.c.written, false⟩, V2, V1, x.vs, x.vw⟩ := ⟨_, rfl⟩
  have hl := HR.cel hx
  have hXc : X.c = x.c.crashd (keepOf K nm i) := by rw [hX]; unfold Cel.crashd; rw [hw, ← hm]; rfl
  have hfin := HR.view.cs_fine (List.mem_of_getElem? HR.at_) x (List.mem_of_getElem? hx)
  have hin := HR.view.imgs f (List.mem_of_getElem? HR.at_) x (List.mem_of_getElem? hx)
  have hkr := keepOf_range K nm i
  have hfX : X.c.Fine := by rw [hXc]; exact Cel.crashd_fine hfin hkr
  rw [← hX]
  have hcels : (f.cs.set i X).map (·.c) = crP K nm l (i + 1) := by
    rw [List.map_set, HR.cels, hXc]
    exact (crP_step hl).2
  refine ⟨(setRC_at HR.at_ (List.getElem?_eq_some_iff.1 hx).1).1, HR.nm_, HR.val, by rw [← HR.len]; exact List.length_set, hcels, ?_, HR.there⟩
  have hv := HR.view.setRC HR.at_ hx (x' := X) (L' := (V2, x.c.written.take m ++ x.c.durable.drop m) :: (V1, x.c.written.take m ++ x.c.durable.drop m) :: L) (fun z hz => List.mem_cons_of_mem _ (List.mem_cons_of_mem _ hz)) (by
    rw [hX]
    exact ⟨List.mem_cons_self .., List.mem_cons_of_mem _ (List.mem_cons_self ..), List.mem_cons_of_mem _ (List.mem_cons_of_mem _ hin.2.2.1), List.mem_cons_of_mem _ (List.mem_cons_of_mem _ hin.2.2.2)⟩) hfX
  have hlt : k < F.length := (List.getElem?_eq_some_iff.1 HR.there).1
  have e : (({ A with files := F.set k (nm, crP K nm l i) } : Dk).set f.name ((f.cs.map (·.c)).set i X.c)) = { A with files := F.set k (nm, crP K nm l (i + 1)) } := by
    unfold Dk.set
    dsimp only
    rw [HR.nm_, putF_at (k := k) (u := crP K nm l i) HR.view.fine.sorted (by simp [hlt]), List.set_set, HR.cels, hXc, (crP_step hl).2]
  rw [e] at hv
  exact hv
end
end Go.Proofs.YtnpinegpajbkeaaGreatDoor
namespace Go.Proofs.YtnpinegpajbkeaaGreatDoor
open Go.RowKit HP
theorem b8s_app (a b : List Int) : b8s (a ++ b) = b8s a ++ b8s b := by unfold b8s; rw [List.map_append]
theorem kep_get {K : List Kep} {j : Nat} {k : Kep} (h : K[j]? = some k) : (kepCells K)[j * 3]? = some (.string k.name) ∧ (kepCells K)[j * 3 + 1]? = some (.int .i64 k.index) ∧ (kepCells K)[j * 3 + 2]? = some (.int .i64 k.bytes) := by
  have hg := fun t (ht : t < 3) => flat_get Kep.vals 3 K (fun _ => rfl) j t k h ht
  have h0 := hg 0 (by omega)
  have h1 := hg 1 (by omega)
  have h2 := hg 2 (by omega)
  exact ⟨by simpa [Kep.vals, kepCells] using h0, by simpa [Kep.vals, kepCells] using h1, by simpa [Kep.vals, kepCells] using h2⟩
set_option maxHeartbeats 16000000 in
set_option maxRecDepth 100000 in
theorem ref_crash (E : Env) (q : HP) (y : Nat) (A : Dk) (Ak : Option Addr) (K : List Kep) (ck : Nat) (w : World) (hK : K.length ≤ maxLen) (hwf : ∀ k ∈ K, k.name.size ≤ maxLen ∧ wf64 k.index ∧ wf64 k.bytes) (hq : ∀ E w, Sat E w q → Cells w Ak (kepCells K)) (hw : Sat E w (HP.rdisk y A * q)) :
    Calls Tryz.prog 82 #[.pointer (some ⟨y, 0, none⟩), .slice Ak K.length ck] w fun e w' => e = .returned (.int .i64 0) ∧ Sat E w' (HP.rdisk y (A.crash K) * q) := by
  obtain ⟨v, fs, L, hv, hk⟩ := hw.rdisk_open
  clear hw
  obtain ⟨FA, cF, rfl, hcF, hcM⟩ := hk.rdk_parts.s2.row_slice
  obtain ⟨n, hn⟩ : ∃ n, n = fs.length := ⟨_, rfl⟩
  have hfl := hv.flen
  have HNA : Aside (n = A.files.length) := ⟨by rw [hn, hv.len]⟩
  rw [← hn] at hcF hk hfl
  have HN := Aside.mk hn
  obtain ⟨kn, hkn⟩ : ∃ kn, kn = K.length := ⟨_, rfl⟩
  unfold maxLen at hK
  rw [← hkn] at hK ⊢
  have HKN := Aside.mk hkn
  have HWF := Aside.mk hwf
  have HQ := Aside.mk hq
  obtain ⟨AR, hAR⟩ : ∃ AR, AR = A.crash K := ⟨_, rfl⟩
  rw [← hAR]
  have HAR := Aside.mk hAR
  obtain ⟨fuse, hfu⟩ : ∃ fuse, fuse = A.fuse := ⟨_, rfl⟩
  obtain ⟨room, hro⟩ : ∃ room, room = A.room := ⟨_, rfl⟩
  rw [← hfu, ← hro] at hk
  have HFR := Aside.mk (And.intro hfu hro)
  have HV0 : Aside (RView { A with files := crF K A.files 0 } fs L) := ⟨by rw [crF_zero]; exact hv⟩
  have HAt : Aside (∀ (s : ByteArray), (A.at s).length ≤ 100000) := ⟨fun s => at_small hv.fine s⟩
  have HSo := Aside.mk hv.fine.sorted
  have c1 := hk.rdk_parts.cell 1
  simp only [List.getElem?_toArray, List.getElem?_cons_zero, List.getElem?_cons_succ] at c1
  have HW := Aside.mk hk
  clear hn hk hv hkn hwf hq hAR hfu hro
  go_enter Tryz.func82, Tryz.ntmps82
  go_wp2
  go_loopw [17] (fun v17 wr => ∃ (k : Nat) (fs' : List RF) (L' : List (Value × List Int)), k ≤ n ∧ v17 = .int .i64 k ∧ Aside (n = fs'.length) ∧ Aside (RView { A with files := crF K A.files k } fs' L') ∧ Aside (Sat E wr (HP.rdk y room fuse (.slice FA n cF) fs' L' * q))) (fun i _ => n - (intOf i).toNat)
  case atStart => exact ⟨0, fs, L, Nat.zero_le _, rfl, HN, HV0, HW⟩
  case round =>
    clear HW c1 HN HV0
    obtain ⟨k, fs', L', hk, rfl, HN, HV, HS⟩ := hrel
    by_cases hlt : k < n
    · have hlt2 : (k : Int) < (n : Int) := by omega
      have h0 : (0 : Int) ≤ (k : Int) := by omega
      obtain ⟨f, hf⟩ : ∃ f, fs'[k]? = some f := ⟨_, List.getElem?_eq_getElem (by rw [← HN.out]; exact hlt)⟩
      obtain ⟨g, o, VA, VC, rfl, hval, hvc, g0, g1⟩ := HS.out.rf_at HN.out hf
      obtain ⟨z, hz⟩ : ∃ z, A.files[k]? = some z := ⟨_, List.getElem?_eq_getElem (by rw [← HNA.out]; exact hlt)⟩
      obtain ⟨nm, l⟩ := z
      have hzF := (crF_step (K := K) hz).1
      have hkF : (crF K A.files k)[k]? = some (f.name, f.cs.map (·.c)) := by
        have h := congrArg (fun l => l[k]?) HV.out.same
        simp only [List.getElem?_map, hf, Option.map_some] at h
        exact h.symm
      rw [hzF] at hkF
      simp only [Option.some.injEq, Prod.mk.injEq] at hkF
      obtain ⟨hnm, hl⟩ := hkF
      obtain ⟨vn, hvn⟩ : ∃ vn, vn = f.cs.length := ⟨_, rfl⟩
      rw [← hvn] at g1 hval hvc
      rw [← hnm] at g0
      have hvs : vn ≤ 100000 := by
        have := HAt.out nm
        have e : A.at nm = l := by unfold Dk.at; rw [lk_first HSo.out hz]; rfl
        rw [e, hl, List.length_map] at this
        omega
      have HCR : Aside (CrR A (crF K A.files k) K k nm l VA vn VC 0 fs' L' f) := ⟨hf, hnm.symm, hval, hvn.symm, by rw [crP_zero, hl], by rw [crP_zero, set_self hzF]; exact HV.out, hzF⟩
      have HZ := Aside.mk hz
      have HB := Aside.mk (HS.out.alloc (.cells #[.string nm, .slice VA vn VC] 174))
      obtain ⟨BF, hBF⟩ : ∃ BF, BF = wr.heap.size := ⟨_, rfl⟩
      rw [← hBF] at HB
      have HBF := Aside.mk hBF
      clear hBF hz hzF hnm hl hvn hval hf HV
      go_wp2
      rw [← HBF.out]
      clear g0 g1
      generalize World.alloc wr _ = wb at *
      have HB2 : Aside (Sat E wb (HP.rdk y room fuse (.slice (some ⟨g, o, none⟩) n cF) fs' L' * (HP.pt BF (.cells #[.string nm, .slice VA vn VC] 174) * q))) := ⟨HB.out.perm (by ac_rfl)⟩
      clear HB HS
      go_loopw [24] (fun v24 wi => ∃ (i : Nat) (fs' : List RF) (L' : List (Value × List Int)) (f : RF), i ≤ vn ∧ v24 = .int .i64 i ∧ Aside (n = fs'.length) ∧ Aside (CrR A (crF K A.files k) K k nm l VA vn VC i fs' L' f) ∧ Aside (Sat E wi (HP.rdk y room fuse (.slice (some ⟨g, o, none⟩) n cF) fs' L' * (HP.pt BF (.cells #[.string nm, .slice VA vn VC] 174) * q)))) (fun i _ => vn - (intOf i).toNat)
      case atStart => exact ⟨0, fs', L', f, Nat.zero_le _, rfl, HN, HCR, HB2⟩
      case round =>
        clear HB2 HCR HN
        obtain ⟨i, fs', L', f, hi, rfl, HN, HCR, HS⟩ := hrel
        by_cases hil : i < vn
        · have hil2 : (i : Int) < (vn : Int) := by omega
          have hi0 : (0 : Int) ≤ (i : Int) := by omega
          obtain ⟨x, hx⟩ : ∃ x, f.cs[i]? = some x := ⟨_, List.getElem?_eq_getElem (by rw [HCR.out.len]; exact hil)⟩
          have hval := HCR.out.val
          obtain ⟨gc, oc, rfl, x0, x1, x2, x3, x4⟩ := HS.out.rc_at HCR.out.at_ hval hx
          have b0 := HS.out.s2.cell 0
          have b1 := HS.out.s2.cell 1
          simp only [List.getElem?_toArray, List.getElem?_cons_zero, List.getElem?_cons_succ] at b0 b1
          have HF := Aside.mk (And.intro HCR.out.at_ (And.intro hval hx))
          obtain ⟨wt, hwt⟩ : ∃ wt, wt = x.c.waits := ⟨_, rfl⟩
          rw [← hwt] at x4
          have HWT := Aside.mk hwt
          clear hx hval hwt
          cases wt with
          | false =>
            have HCR2 := Aside.mk (HCR.out.skip HF.out.2.2 HWT.out.symm)
            go_wp2
            go_roundw
            case rel => exact ⟨i + 1, fs', L', f, by omega, by go_num, HN, HCR2, HS⟩
            case measure => simp [intOf]; omega
          | true =>
            have hin := HCR.out.view.imgs f (List.mem_of_getElem? HCR.out.at_) x (List.mem_of_getElem? HF.out.2.2)
            have HFin := Aside.mk (HCR.out.view.cs_fine (List.mem_of_getElem? HCR.out.at_) x (List.mem_of_getElem? HF.out.2.2))
            obtain ⟨DA, DC, hxd, hdc, hdm, hdC⟩ := HS.out.rdk_imgs.img hin.2.1
            obtain ⟨WA, WC, hxw, hwc, hwm, hwC⟩ := HS.out.rdk_imgs.img hin.2.2.2
            obtain ⟨gd, od, rfl⟩ : ∃ g o, DA = some ⟨g, o, none⟩ := by
              obtain ⟨pa, hpa, -⟩ := hdC.at_ 0 (by rw [b8s_length, HFin.out.2.1]; omega)
              obtain ⟨g, o, rfl⟩ : ∃ g o, pa = ⟨g, o, none⟩ := slice_addr hdC hpa (k := 0) (by rw [b8s_length, HFin.out.2.1]; omega)
              exact ⟨g, o, hpa⟩
            obtain ⟨gw, ow, rfl⟩ : ∃ g o, WA = some ⟨g, o, none⟩ := by
              obtain ⟨pa, hpa, -⟩ := hwC.at_ 0 (by rw [b8s_length, HFin.out.2.2.2]; omega)
              obtain ⟨g, o, rfl⟩ : ∃ g o, pa = ⟨g, o, none⟩ := slice_addr hwC hpa (k := 0) (by rw [b8s_length, HFin.out.2.2.2]; omega)
              exact ⟨g, o, hpa⟩
            have HX := Aside.mk (And.intro hxd hxw)
            have HIN := Aside.mk hin
            clear hin hdC hwC hxd hxw
            go_upto_block 4 with fail
            go_cut [9] from 38 to 57 (fun s9 wx => ∃ m : Nat, s9 = .int .i64 m ∧ m ≤ 128 ∧ Aside ((m : Int) = keepOf K nm i) ∧ Aside (Sat E wx (HP.rdk y room fuse (.slice (some ⟨g, o, none⟩) n cF) fs' L' * (HP.pt BF (.cells #[.string nm, .slice (some ⟨gc, oc, none⟩) vn VC] 174) * q))))
            case first =>
              clear x0 x1 x2 x3 x4 b1
              go_wp2
              go_loopw [9, 38] (fun v9 v38 wk => ∃ j : Nat, v9 = .int .i64 0 ∧ j ≤ kn ∧ v38 = .int .i64 j ∧ Aside (∀ t < j, ∀ x, K[t]? = some x → ¬ (x.name = nm ∧ x.index = i)) ∧ Aside (Sat E wk (HP.rdk y room fuse (.slice (some ⟨g, o, none⟩) n cF) fs' L' * (HP.pt BF (.cells #[.string nm, .slice (some ⟨gc, oc, none⟩) vn VC] 174) * q)))) (fun _ j _ => kn - (intOf j).toNat)
              case atStart => exact ⟨0, rfl, Nat.zero_le _, rfl, ⟨fun t ht => by omega⟩, HS⟩
              case round =>
                clear HS b0
                obtain ⟨j, rfl, hj, rfl, HNO, HS⟩ := hrel
                by_cases hjl : j < kn
                · have hjl2 : (j : Int) < (kn : Int) := by omega
                  have hj0 : (0 : Int) ≤ (j : Int) := by omega
                  obtain ⟨kp, hkp⟩ : ∃ x, K[j]? = some x := ⟨_, List.getElem?_eq_getElem (by rw [← HKN.out]; exact hjl)⟩
                  have hKc := HQ.out _ _ HS.out.right.right
                  obtain ⟨e0, e1, e2⟩ := kep_get hkp
                  obtain ⟨gk, ok, hAk⟩ : ∃ g o, Ak = some ⟨g, o, none⟩ := by
                    obtain ⟨a, ha, -⟩ := hKc _ _ e0
                    obtain ⟨g, o, rfl⟩ : ∃ g o, a = ⟨g, o, none⟩ := slice_addr hKc ha (List.getElem?_eq_some_iff.1 e0).1
                    exact ⟨g, o, ha⟩
                  rw [hAk] at hKc
                  have k0 := hKc.some_ _ _ e0
                  have k1 := hKc.some_ _ _ e1
                  have k2 := hKc.some_ _ _ e2
                  rw [addr_add] at k0 k1 k2
                  rw [← Nat.add_assoc] at k1 k2
                  have HB := Aside.mk (HS.out.alloc (.cells #[.string kp.name, .int .i64 kp.index, .int .i64 kp.bytes] 186)).right
                  have b0 := HB.out.s2.cell 0
                  simp only [List.getElem?_toArray, List.getElem?_cons_zero, List.getElem?_cons_succ] at b0
                  obtain ⟨-, hwi, hwb⟩ := HWF.out kp (List.mem_of_getElem? hkp)
                  unfold wf64 at hwi hwb
                  obtain ⟨kname, hkname⟩ : ∃ z, z = kp.name := ⟨_, rfl⟩
                  obtain ⟨kidx, hkidx⟩ : ∃ z, z = kp.index := ⟨_, rfl⟩
                  obtain ⟨kb, hkb⟩ : ∃ z, z = kp.bytes := ⟨_, rfl⟩
                  rw [← hkname] at k0 HB b0
                  rw [← hkidx] at k1 HB b0 hwi
                  rw [← hkb] at k2 HB b0 hwb
                  have HKP := Aside.mk (And.intro hkp (And.intro hkname (And.intro hkidx hkb)))
                  clear hKc e0 e1 e2 hkp hkname hkidx hkb HS
                  subst hAk
                  by_cases hm1 : (kname.toList == nm.toList) = true
                  · have HE1 : Aside (kname = nm) := ⟨toList_inj (by simpa using hm1)⟩
                    by_cases hm2 : kidx = (i : Int)
                    · have HM : Aside (keepOf K nm i = clampK kb) := ⟨by
                        have h := keepOf_first HKP.out.1 (by rw [← HKP.out.2.1]; exact HE1.out) (by rw [← HKP.out.2.2.1]; exact hm2) HNO.out
                        rw [h, HKP.out.2.2.2]⟩
                      subst hm2
                      by_cases hb0 : kb < 0
                      · have HM2 : Aside (((0 : Nat) : Int) = keepOf K nm i) := ⟨by rw [HM.out]; unfold clampK; omega⟩
                        go_wp2
                        go_meet
                        case rel => exact ⟨0, (by first | rfl | (congr 1; omega)), by omega, HM2, HB⟩
                      · by_cases hb1 : 128 < kb
                        · have HM2 : Aside (((128 : Nat) : Int) = keepOf K nm i) := ⟨by rw [HM.out]; unfold clampK; omega⟩
                          go_wp2
                          go_meet
                          case rel => exact ⟨128, (by first | rfl | (congr 1; omega)), by omega, HM2, HB⟩
                        · obtain ⟨m, hm⟩ := Int.eq_ofNat_of_zero_le (show 0 ≤ kb by omega)
                          subst hm
                          have HM2 : Aside (((m : Nat) : Int) = keepOf K nm i) := ⟨by rw [HM.out]; unfold clampK; omega⟩
                          go_wp2
                          go_meet
                          case rel => exact ⟨m, (by first | rfl | (congr 1; omega)), by omega, HM2, HB⟩
                    · have HNO2 : Aside (∀ t < j + 1, ∀ x, K[t]? = some x → ¬ (x.name = nm ∧ x.index = i)) := ⟨fun t ht z hz => by
                        rcases Nat.lt_or_ge t j with h | h
                        · exact HNO.out t h z hz
                        · obtain rfl : t = j := by omega
                          rw [HKP.out.1] at hz; cases hz
                          rintro ⟨-, h2⟩
                          exact hm2 (by rw [HKP.out.2.2.1]; exact h2)⟩
                      go_wp2
                      go_roundw
                      case rel => exact ⟨j + 1, rfl, by omega, by go_num, HNO2, HB⟩
                      case measure => simp [intOf]; omega
                  · have HNO2 : Aside (∀ t < j + 1, ∀ x, K[t]? = some x → ¬ (x.name = nm ∧ x.index = i)) := ⟨fun t ht z hz => by
                      rcases Nat.lt_or_ge t j with h | h
                      · exact HNO.out t h z hz
                      · obtain rfl : t = j := by omega
                        rw [HKP.out.1] at hz; cases hz
                        rintro ⟨h1, -⟩
                        exact hm1 (by rw [HKP.out.2.1, h1]; simp)⟩
                    have hm1 : (kname.toList == nm.toList) = false := by simpa using hm1
                    go_wp2
                    go_roundw
                    case rel => exact ⟨j + 1, rfl, by omega, by go_num, HNO2, HB⟩
                    case measure => simp [intOf]; omega
                · obtain rfl : j = kn := by omega
                  have HM2 : Aside (((0 : Nat) : Int) = keepOf K nm i) := ⟨by rw [keepOf_none (by rw [← HKN.out]; exact HNO.out)]; rfl⟩
                  go_wp2
                  go_meet
                  case rel => exact ⟨0, rfl, by omega, HM2, HS⟩
            clear b0 b1 x0 x1 x2 x3 x4 HS
            obtain ⟨m, rfl, hm, HM, HS⟩ := hcut
            have hm0 : (0 : Int) ≤ (m : Int) := by omega
            have hmI : (m : Int) ≤ 128 := by omega
            have hmw : (m : Int) ≤ (WC : Int) := by omega
            have hdI : (128 : Int) ≤ (DC : Int) := by omega
            have HC : Aside (∀ W, Sat E W (HP.rdk y room fuse (.slice (some ⟨g, o, none⟩) n cF) fs' L' * (HP.pt BF (.cells #[.string nm, .slice (some ⟨gc, oc, none⟩) vn VC] 174) * q)) → W.cell? ⟨gc, oc + i * 5 + 3, none⟩ = some (.slice (some ⟨gw, ow, none⟩) 128 WC) ∧ W.cell? ⟨gc, oc + i * 5 + 1, none⟩ = some (.slice (some ⟨gd, od, none⟩) 128 DC) ∧ Cells W (some ⟨gw, ow, none⟩) (b8s (x.c.written.take m)) ∧ Cells W (some ⟨gd, od + m, none⟩) (b8s (x.c.durable.drop m))) := ⟨fun W h => by
              obtain ⟨t0, t1, t2, t3, t4⟩ := h.rc_cell HF.out.1 HF.out.2.1 HF.out.2.2
              rw [HX.out.1] at t1
              rw [HX.out.2] at t3
              have hw := h.rdk_imgs.img_cells (by rw [← HX.out.2]; exact HIN.out.2.2.2)
              have hd := h.rdk_imgs.img_cells (by rw [← HX.out.1]; exact HIN.out.2.1)
              refine ⟨t3, t1, ?_, ?_⟩
              · have := hw.take m; unfold b8s at this ⊢; rw [List.map_take]; exact this
              · have := hd.drop m; rw [addr_add] at this; unfold b8s at this ⊢; rw [List.map_drop]; exact this⟩
            have hil5 : i * 5 + 5 ≤ f.cs.length * 5 := by have := (List.getElem?_eq_some_iff.1 HF.out.2.2).1; omega
            go_upto_region 16 with fail
            go_cut [] from 58 to 75 (fun wx => ∃ (A15 : Option Addr) (c15 : Nat), Aside (Sat E wx (HP.row 5 1 (.slice A15 128 c15) 128 (b8s (x.c.written.take m ++ x.c.durable.drop m)) * (HP.rdk y room fuse (.slice (some ⟨g, o, none⟩) n cF) (setRC fs' k i (⟨x.c, x.vr, .slice A15 128 c15, x.vs, x.vw⟩ : RC)) L' * (HP.pt BF (.cells #[.string nm, .slice (some ⟨gc, oc, none⟩) vn VC] 174) * q)))))
            case first =>
              by_cases hm128 : m < 128
              · have hdm2 : ¬ DC = m := by omega
                have hdm3 : ¬ (DC : Int) = (m : Int) := by omega
                have hmd : m ≤ 128 := by omega
                refine region_R [1, 8, 15, 18] [1, 8] (fun W => Sat E W (HP.rdk y room fuse (.slice (some ⟨g, o, none⟩) n cF) fs' L' * (HP.pt BF (.cells #[.string nm, .slice (some ⟨gc, oc, none⟩) vn VC] 174) * q))) #[false, false, false, false, false, false, false, false, false, false, false, false, false, false, false, false, false, false, false] (by kernel_rfl) rfl rfl ?_
                have HT : Aside ((fun W => Sat E W (HP.rdk y room fuse (.slice (some ⟨g, o, none⟩) n cF) fs' L' * (HP.pt BF (.cells #[.string nm, .slice (some ⟨gc, oc, none⟩) vn VC] 174) * q))) _) := ⟨HS.out.drew⟩
                refine wpR_pu 0 #[true, false, false, false, false, false, false, false, false, false, false, false, false, false, false, false, false, false, false] rfl onlyN_noPanic (by kernel_rfl) (fun K hK => ?_); (go_simp; try go_bits); refine hK _ ?_; clear hK K
                refine wpR_pu 2 #[true, false, true, false, false, false, false, false, false, false, false, false, false, false, false, false, false, false, false] rfl onlyN_noPanic (by kernel_rfl) (fun K hK => ?_); (go_simp; try go_bits); refine hK _ ?_; clear hK K
                refine wpR_pu 3 #[true, false, true, true, false, false, false, false, false, false, false, false, false, false, false, false, false, false, false] rfl onlyN_noPanic (by kernel_rfl) (fun K hK => ?_); (go_simp; try go_bits); refine hK _ ?_; clear hK K
                refine wpR_pu 4 #[true, false, true, true, true, false, false, false, false, false, false, false, false, false, false, false, false, false, false] rfl onlyN_noPanic (by kernel_rfl) (fun K hK => ?_); (go_simp; try go_bits); refine hK _ ?_; clear hK K
                refine wpR_held (i := 5) (v := .slice (some ⟨gw, ow, none⟩) 128 WC) #[true, false, true, true, true, true, false, false, false, false, false, false, false, false, false, false, false, false, false] rfl onlyN_noPanic (by kernel_rfl) HT.out (.inl ⟨rfl, fun w' hT => ?_⟩) ?_
                · obtain ⟨t1, t2, -⟩ := HC.out _ hT; go_simp
                simp only [Act.put, List.setIfInBounds_toArray, List.set_cons_zero, List.set_cons_succ]
                refine wpR_pu 6 #[true, false, true, true, true, true, true, false, false, false, false, false, false, false, false, false, false, false, false] rfl onlyN_noPanic (by kernel_rfl) (fun K hK => ?_); (go_simp; try go_bits); refine hK _ ?_; clear hK K
                refine wpR_pu 7 #[true, false, true, true, true, true, true, true, false, false, false, false, false, false, false, false, false, false, false] rfl onlyN_noPanic (by kernel_rfl) (fun K hK => ?_); (go_simp; try go_bits); refine hK _ ?_; clear hK K
                refine wpR_pu 9 #[true, false, true, true, true, true, true, true, false, true, false, false, false, false, false, false, false, false, false] rfl onlyN_noPanic (by kernel_rfl) (fun K hK => ?_); (go_simp; try go_bits); refine hK _ ?_; clear hK K
                refine wpR_pu 10 #[true, false, true, true, true, true, true, true, false, true, true, false, false, false, false, false, false, false, false] rfl onlyN_noPanic (by kernel_rfl) (fun K hK => ?_); (go_simp; try go_bits); refine hK _ ?_; clear hK K
                refine wpR_pu 11 #[true, false, true, true, true, true, true, true, false, true, true, true, false, false, false, false, false, false, false] rfl onlyN_noPanic (by kernel_rfl) (fun K hK => ?_); (go_simp; try go_bits); refine hK _ ?_; clear hK K
                refine wpR_held (i := 12) (v := .slice (some ⟨gd, od, none⟩) 128 DC) #[true, false, true, true, true, true, true, true, false, true, true, true, true, false, false, false, false, false, false] rfl onlyN_noPanic (by kernel_rfl) HT.out (.inl ⟨rfl, fun w' hT => ?_⟩) ?_
                · obtain ⟨t1, t2, -⟩ := HC.out _ hT; go_simp
                simp only [Act.put, List.setIfInBounds_toArray, List.set_cons_zero, List.set_cons_succ]
                refine wpR_pu 13 #[true, false, true, true, true, true, true, true, false, true, true, true, true, true, false, false, false, false, false] rfl onlyN_noPanic (by kernel_rfl) (fun K hK => ?_); (go_simp; try go_bits); refine hK _ ?_; clear hK K
                refine wpR_pu 14 #[true, false, true, true, true, true, true, true, false, true, true, true, true, true, true, false, false, false, false] rfl onlyN_noPanic (by kernel_rfl) (fun K hK => ?_); (go_simp; try go_bits); refine hK _ ?_; clear hK K
                clear HT
                have HS0 := Aside.mk HS.out.drew
                clear HS
                revert HS0
                generalize World.drew wc = W0
                intro HS0
                refine wpR_keep #[true, true, true, true, true, true, true, true, false, true, true, true, true, true, true, false, false, false, false] (i := 1) rfl (by kernel_rfl) (fun K hK => ?_)
                go_simp
                obtain ⟨W1, hW1⟩ : ∃ x, x = World.alloc W0 (.cells #[] 5) := ⟨_, rfl⟩
                obtain ⟨gE, hgE⟩ : ∃ x, x = Array.size (World.heap W0) := ⟨_, rfl⟩
                have hn1 : Sat E W1 (HP.rdk y room fuse (.slice (some ⟨g, o, none⟩) n cF) fs' L' * (HP.pt BF (.cells #[.string nm, .slice (some ⟨gc, oc, none⟩) vn VC] 174) * q)) := by rw [hW1]; exact (HS0.out.alloc _).right
                rw [← hW1, ← hgE]
                refine hK _ _ (by first | exact hn1 | exact (Sat.right hn1) | exact (Sat.right (Sat.right hn1))) ?_
                clear hK K hW1 hgE
                have HS1 : Aside (Sat E W1 (HP.rdk y room fuse (.slice (some ⟨g, o, none⟩) n cF) fs' L' * (HP.pt BF (.cells #[.string nm, .slice (some ⟨gc, oc, none⟩) vn VC] 174) * q))) := ⟨hn1.perm (by ac_rfl)⟩
                clear hn1
                refine wpR_keep #[true, true, true, true, true, true, true, true, true, true, true, true, true, true, true, false, false, false, false] (i := 8) rfl (by kernel_rfl) (fun K hK => ?_)
                refine Eq.mpr (if_pos (by rfl)) ?_
                refine wp_append_row (v := .slice (some ⟨gE, 0, none⟩) 0 0) (n := 0) (cs := []) (A := some ⟨gw, ow, none⟩) (m := m) (c := WC) (news := b8s (x.c.written.take m)) slB8 rfl rfl rfl (HS1.out.row_nil 5 1 _) (HC.out _ (by first | exact HS1.out | exact (Sat.right HS1.out) | exact (Sat.right (Sat.right HS1.out)))).2.2.1 (by rw [b8s_length, List.length_take, HFin.out.2.2.2]; omega) (b8s_one _) (by unfold maxLen; omega) (by omega) (fun v8 W2 hn2 => ?_)
                rw [List.nil_append, Nat.zero_add] at hn2
                refine hK _ _ (by first | exact hn2 | exact (Sat.right hn2) | exact (Sat.right (Sat.right hn2))) ?_
                clear hK K
                have HS2 : Aside (Sat E W2 (HP.row 5 1 v8 m (b8s (x.c.written.take m)) * (HP.rdk y room fuse (.slice (some ⟨g, o, none⟩) n cF) fs' L' * (HP.pt BF (.cells #[.string nm, .slice (some ⟨gc, oc, none⟩) vn VC] 174) * q)))) := ⟨hn2.perm (by ac_rfl)⟩
                clear hn2 HS1
                refine wpR_eff #[true, true, true, true, true, true, true, true, true, true, true, true, true, true, true, true, false, false, false] (i := 15) rfl (by kernel_rfl) (fun K hK => ?_)
                refine Eq.mpr (if_pos (by rfl)) ?_
                refine wp_append_row (v := v8) (n := m) (cs := b8s (x.c.written.take m)) (A := some ⟨gd, od + m, none⟩) (m := 128 - m) (c := DC - m) (news := b8s (x.c.durable.drop m)) slB8 rfl rfl rfl HS2.out ((HC.out _ (by first | exact HS2.out | exact (Sat.right HS2.out) | exact (Sat.right (Sat.right HS2.out)))).2.2.2) (by rw [b8s_length, List.length_drop, HFin.out.2.1]; omega) (b8s_one _) (by unfold maxLen; omega) (by omega) (fun v15 W3 hn3 => ?_)
                rw [show m + (128 - m) = 128 by omega, ← b8s_app] at hn3
                obtain ⟨A15, c15, rfl, -, -⟩ := hn3.row_slice
                refine hK _ _ ?_
                clear hK K
                have HS3 : Aside (Sat E W3 (HP.row 5 1 (.slice A15 128 c15) 128 (b8s (x.c.written.take m ++ x.c.durable.drop m)) * (HP.rdk y room fuse (.slice (some ⟨g, o, none⟩) n cF) fs' L' * (HP.pt BF (.cells #[.string nm, .slice (some ⟨gc, oc, none⟩) vn VC] 174) * q)))) := ⟨hn3.perm (by ac_rfl)⟩
                clear hn3 HS2
                refine wpR_rd 16 #[true, true, true, true, true, true, true, true, true, true, true, true, true, true, true, true, true, false, false] rfl onlyN_noPanic (by kernel_rfl) (fun K hK => ?_); (go_simp; try go_bits); refine hK _ ?_; clear hK K
                refine wpR_rd 17 #[true, true, true, true, true, true, true, true, true, true, true, true, true, true, true, true, true, true, false] rfl onlyN_noPanic (by kernel_rfl) (fun K hK => ?_); (go_simp; try go_bits); refine hK _ ?_; clear hK K
                refine wpR_eff #[true, true, true, true, true, true, true, true, true, true, true, true, true, true, true, true, true, true, true] (i := 18) rfl (by kernel_rfl) (fun K hK => ?_)
                have hn4a : Sat E W3 (HP.rdk y room fuse (.slice (some ⟨g, o, none⟩) n cF) fs' L' * (HP.row 5 1 (.slice A15 128 c15) 128 (b8s (x.c.written.take m ++ x.c.durable.drop m)) * (HP.pt BF (.cells #[.string nm, .slice (some ⟨gc, oc, none⟩) vn VC] 174) * q))) := HS3.out.perm (by ac_rfl)
                have hn4b := Sat.rc_store (u := .slice A15 128 c15) HF.out.1 HF.out.2.1 HF.out.2.2 (⟨x.c, x.vr, .slice A15 128 c15, x.vs, x.vw⟩ : RC) (t := 1) (by omega) rfl hn4a
                have t9 := (hn4a.rc_cell HF.out.1 HF.out.2.1 HF.out.2.2).2.1
                have z9 := Sat.rc_thaw (t := i * 5 + 1) HF.out.1 HF.out.2.1 (by omega) hn4a
                rw [← Nat.add_assoc] at hn4b z9
                go_simp
                obtain ⟨W4, hW4⟩ : ∃ x, x = World.setCell W3 ⟨gc, oc + i * 5 + 1, none⟩ (.slice A15 128 c15) := ⟨_, rfl⟩
                rw [← hW4] at hn4b
                have hn4 : Sat E W4 (HP.row 5 1 (.slice A15 128 c15) 128 (b8s (x.c.written.take m ++ x.c.durable.drop m)) * (HP.rdk y room fuse (.slice (some ⟨g, o, none⟩) n cF) (setRC fs' k i (⟨x.c, x.vr, .slice A15 128 c15, x.vs, x.vw⟩ : RC)) L' * (HP.pt BF (.cells #[.string nm, .slice (some ⟨gc, oc, none⟩) vn VC] 174) * q))) := hn4b.perm (by ac_rfl)
                rw [← hW4]
                refine hK _ _ ?_
                clear hK K hW4 t9 z9 hn4a hn4b
                have HS4 : Aside (Sat E W4 (HP.row 5 1 (.slice A15 128 c15) 128 (b8s (x.c.written.take m ++ x.c.durable.drop m)) * (HP.rdk y room fuse (.slice (some ⟨g, o, none⟩) n cF) (setRC fs' k i (⟨x.c, x.vr, .slice A15 128 c15, x.vs, x.vw⟩ : RC)) L' * (HP.pt BF (.cells #[.string nm, .slice (some ⟨gc, oc, none⟩) vn VC] 174) * q)))) := ⟨hn4.perm (by ac_rfl)⟩
                clear hn4 HS3
                refine wpR_done (by kernel_rfl) ?_ _
                simp only [OnlyN]
                have HS9 := HS4
                clear HS4
                go_wp2
                go_meet
                case rel => exact ⟨A15, c15, HS9⟩
              · obtain rfl : m = 128 := by omega
                have hmw8 : (128 : Int) ≤ (WC : Int) := by omega
                have HDN : Aside (b8s (x.c.durable.drop 128) = []) := ⟨by rw [List.drop_eq_nil_of_le (by rw [HFin.out.2.1]; omega)]; rfl⟩
                by_cases hd128 : DC = 128
                · subst hd128
                  refine region_R [1, 8, 15, 18] [1, 8] (fun W => Sat E W (HP.rdk y room fuse (.slice (some ⟨g, o, none⟩) n cF) fs' L' * (HP.pt BF (.cells #[.string nm, .slice (some ⟨gc, oc, none⟩) vn VC] 174) * q))) #[false, false, false, false, false, false, false, false, false, false, false, false, false, false, false, false, false, false, false] (by kernel_rfl) rfl rfl ?_
                  have HT : Aside ((fun W => Sat E W (HP.rdk y room fuse (.slice (some ⟨g, o, none⟩) n cF) fs' L' * (HP.pt BF (.cells #[.string nm, .slice (some ⟨gc, oc, none⟩) vn VC] 174) * q))) _) := ⟨HS.out.drew⟩
                  refine wpR_pu 0 #[true, false, false, false, false, false, false, false, false, false, false, false, false, false, false, false, false, false, false] rfl onlyN_noPanic (by kernel_rfl) (fun K hK => ?_); (go_simp; try go_bits); refine hK _ ?_; clear hK K
                  refine wpR_pu 2 #[true, false, true, false, false, false, false, false, false, false, false, false, false, false, false, false, false, false, false] rfl onlyN_noPanic (by kernel_rfl) (fun K hK => ?_); (go_simp; try go_bits); refine hK _ ?_; clear hK K
                  refine wpR_pu 3 #[true, false, true, true, false, false, false, false, false, false, false, false, false, false, false, false, false, false, false] rfl onlyN_noPanic (by kernel_rfl) (fun K hK => ?_); (go_simp; try go_bits); refine hK _ ?_; clear hK K
                  refine wpR_pu 4 #[true, false, true, true, true, false, false, false, false, false, false, false, false, false, false, false, false, false, false] rfl onlyN_noPanic (by kernel_rfl) (fun K hK => ?_); (go_simp; try go_bits); refine hK _ ?_; clear hK K
                  refine wpR_held (i := 5) (v := .slice (some ⟨gw, ow, none⟩) 128 WC) #[true, false, true, true, true, true, false, false, false, false, false, false, false, false, false, false, false, false, false] rfl onlyN_noPanic (by kernel_rfl) HT.out (.inl ⟨rfl, fun w' hT => ?_⟩) ?_
                  · obtain ⟨t1, t2, -⟩ := HC.out _ hT; go_simp
                  simp only [Act.put, List.setIfInBounds_toArray, List.set_cons_zero, List.set_cons_succ]
                  refine wpR_pu 6 #[true, false, true, true, true, true, true, false, false, false, false, false, false, false, false, false, false, false, false] rfl onlyN_noPanic (by kernel_rfl) (fun K hK => ?_); (go_simp; try go_bits); refine hK _ ?_; clear hK K
                  refine wpR_pu 7 #[true, false, true, true, true, true, true, true, false, false, false, false, false, false, false, false, false, false, false] rfl onlyN_noPanic (by kernel_rfl) (fun K hK => ?_); (go_simp; try go_bits); refine hK _ ?_; clear hK K
                  refine wpR_pu 9 #[true, false, true, true, true, true, true, true, false, true, false, false, false, false, false, false, false, false, false] rfl onlyN_noPanic (by kernel_rfl) (fun K hK => ?_); (go_simp; try go_bits); refine hK _ ?_; clear hK K
                  refine wpR_pu 10 #[true, false, true, true, true, true, true, true, false, true, true, false, false, false, false, false, false, false, false] rfl onlyN_noPanic (by kernel_rfl) (fun K hK => ?_); (go_simp; try go_bits); refine hK _ ?_; clear hK K
                  refine wpR_pu 11 #[true, false, true, true, true, true, true, true, false, true, true, true, false, false, false, false, false, false, false] rfl onlyN_noPanic (by kernel_rfl) (fun K hK => ?_); (go_simp; try go_bits); refine hK _ ?_; clear hK K
                  refine wpR_held (i := 12) (v := .slice (some ⟨gd, od, none⟩) 128 128) #[true, false, true, true, true, true, true, true, false, true, true, true, true, false, false, false, false, false, false] rfl onlyN_noPanic (by kernel_rfl) HT.out (.inl ⟨rfl, fun w' hT => ?_⟩) ?_
                  · obtain ⟨t1, t2, -⟩ := HC.out _ hT; go_simp
                  simp only [Act.put, List.setIfInBounds_toArray, List.set_cons_zero, List.set_cons_succ]
                  refine wpR_pu 13 #[true, false, true, true, true, true, true, true, false, true, true, true, true, true, false, false, false, false, false] rfl onlyN_noPanic (by kernel_rfl) (fun K hK => ?_); (go_simp; try go_bits); refine hK _ ?_; clear hK K
                  refine wpR_pu 14 #[true, false, true, true, true, true, true, true, false, true, true, true, true, true, true, false, false, false, false] rfl onlyN_noPanic (by kernel_rfl) (fun K hK => ?_); (go_simp; try go_bits); refine hK _ ?_; clear hK K
                  clear HT
                  have HS0 := Aside.mk HS.out.drew
                  clear HS
                  revert HS0
                  generalize World.drew wc = W0
                  intro HS0
                  refine wpR_keep #[true, true, true, true, true, true, true, true, false, true, true, true, true, true, true, false, false, false, false] (i := 1) rfl (by kernel_rfl) (fun K hK => ?_)
                  go_simp
                  obtain ⟨W1, hW1⟩ : ∃ x, x = World.alloc W0 (.cells #[] 5) := ⟨_, rfl⟩
                  obtain ⟨gE, hgE⟩ : ∃ x, x = Array.size (World.heap W0) := ⟨_, rfl⟩
                  have hn1 : Sat E W1 (HP.rdk y room fuse (.slice (some ⟨g, o, none⟩) n cF) fs' L' * (HP.pt BF (.cells #[.string nm, .slice (some ⟨gc, oc, none⟩) vn VC] 174) * q)) := by rw [hW1]; exact (HS0.out.alloc _).right
                  rw [← hW1, ← hgE]
                  refine hK _ _ (by first | exact hn1 | exact (Sat.right hn1) | exact (Sat.right (Sat.right hn1))) ?_
                  clear hK K hW1 hgE
                  have HS1 : Aside (Sat E W1 (HP.rdk y room fuse (.slice (some ⟨g, o, none⟩) n cF) fs' L' * (HP.pt BF (.cells #[.string nm, .slice (some ⟨gc, oc, none⟩) vn VC] 174) * q))) := ⟨hn1.perm (by ac_rfl)⟩
                  clear hn1
                  refine wpR_keep #[true, true, true, true, true, true, true, true, true, true, true, true, true, true, true, false, false, false, false] (i := 8) rfl (by kernel_rfl) (fun K hK => ?_)
                  refine Eq.mpr (if_pos (by rfl)) ?_
                  refine wp_append_row (v := .slice (some ⟨gE, 0, none⟩) 0 0) (n := 0) (cs := []) (A := some ⟨gw, ow, none⟩) (m := 128) (c := WC) (news := b8s (x.c.written.take 128)) slB8 rfl rfl rfl (HS1.out.row_nil 5 1 _) (HC.out _ (by first | exact HS1.out | exact (Sat.right HS1.out) | exact (Sat.right (Sat.right HS1.out)))).2.2.1 (by rw [b8s_length, List.length_take, HFin.out.2.2.2]; omega) (b8s_one _) (by unfold maxLen; omega) (by omega) (fun v8 W2 hn2 => ?_)
                  rw [List.nil_append, Nat.zero_add] at hn2
                  refine hK _ _ (by first | exact hn2 | exact (Sat.right hn2) | exact (Sat.right (Sat.right hn2))) ?_
                  clear hK K
                  have HS2 : Aside (Sat E W2 (HP.row 5 1 v8 128 (b8s (x.c.written.take 128)) * (HP.rdk y room fuse (.slice (some ⟨g, o, none⟩) n cF) fs' L' * (HP.pt BF (.cells #[.string nm, .slice (some ⟨gc, oc, none⟩) vn VC] 174) * q)))) := ⟨hn2.perm (by ac_rfl)⟩
                  clear hn2 HS1
                  refine wpR_eff #[true, true, true, true, true, true, true, true, true, true, true, true, true, true, true, true, false, false, false] (i := 15) rfl (by kernel_rfl) (fun K hK => ?_)
                  refine Eq.mpr (if_pos (by rfl)) ?_
                  refine wp_append_row (v := v8) (n := 128) (cs := b8s (x.c.written.take 128)) (A := some ⟨gd, od, none⟩) (m := 0) (c := 0) (news := b8s (x.c.durable.drop 128)) slB8 rfl rfl rfl HS2.out (by rw [HDN.out]; exact Cells.nil _ _) (by rw [HDN.out]; rfl) (b8s_one _) (by unfold maxLen; omega) (by omega) (fun v15 W3 hn3 => ?_)
                  rw [Nat.add_zero, ← b8s_app] at hn3
                  obtain ⟨A15, c15, rfl, -, -⟩ := hn3.row_slice
                  refine hK _ _ ?_
                  clear hK K
                  have HS3 : Aside (Sat E W3 (HP.row 5 1 (.slice A15 128 c15) 128 (b8s (x.c.written.take 128 ++ x.c.durable.drop 128)) * (HP.rdk y room fuse (.slice (some ⟨g, o, none⟩) n cF) fs' L' * (HP.pt BF (.cells #[.string nm, .slice (some ⟨gc, oc, none⟩) vn VC] 174) * q)))) := ⟨hn3.perm (by ac_rfl)⟩
                  clear hn3 HS2
                  refine wpR_rd 16 #[true, true, true, true, true, true, true, true, true, true, true, true, true, true, true, true, true, false, false] rfl onlyN_noPanic (by kernel_rfl) (fun K hK => ?_); (go_simp; try go_bits); refine hK _ ?_; clear hK K
                  refine wpR_rd 17 #[true, true, true, true, true, true, true, true, true, true, true, true, true, true, true, true, true, true, false] rfl onlyN_noPanic (by kernel_rfl) (fun K hK => ?_); (go_simp; try go_bits); refine hK _ ?_; clear hK K
                  refine wpR_eff #[true, true, true, true, true, true, true, true, true, true, true, true, true, true, true, true, true, true, true] (i := 18) rfl (by kernel_rfl) (fun K hK => ?_)
                  have hn4a : Sat E W3 (HP.rdk y room fuse (.slice (some ⟨g, o, none⟩) n cF) fs' L' * (HP.row 5 1 (.slice A15 128 c15) 128 (b8s (x.c.written.take 128 ++ x.c.durable.drop 128)) * (HP.pt BF (.cells #[.string nm, .slice (some ⟨gc, oc, none⟩) vn VC] 174) * q))) := HS3.out.perm (by ac_rfl)
                  have hn4b := Sat.rc_store (u := .slice A15 128 c15) HF.out.1 HF.out.2.1 HF.out.2.2 (⟨x.c, x.vr, .slice A15 128 c15, x.vs, x.vw⟩ : RC) (t := 1) (by omega) rfl hn4a
                  have t9 := (hn4a.rc_cell HF.out.1 HF.out.2.1 HF.out.2.2).2.1
                  have z9 := Sat.rc_thaw (t := i * 5 + 1) HF.out.1 HF.out.2.1 (by omega) hn4a
                  rw [← Nat.add_assoc] at hn4b z9
                  go_simp
                  obtain ⟨W4, hW4⟩ : ∃ x, x = World.setCell W3 ⟨gc, oc + i * 5 + 1, none⟩ (.slice A15 128 c15) := ⟨_, rfl⟩
                  rw [← hW4] at hn4b
                  have hn4 : Sat E W4 (HP.row 5 1 (.slice A15 128 c15) 128 (b8s (x.c.written.take 128 ++ x.c.durable.drop 128)) * (HP.rdk y room fuse (.slice (some ⟨g, o, none⟩) n cF) (setRC fs' k i (⟨x.c, x.vr, .slice A15 128 c15, x.vs, x.vw⟩ : RC)) L' * (HP.pt BF (.cells #[.string nm, .slice (some ⟨gc, oc, none⟩) vn VC] 174) * q))) := hn4b.perm (by ac_rfl)
                  rw [← hW4]
                  refine hK _ _ ?_
                  clear hK K hW4 t9 z9 hn4a hn4b
                  have HS4 : Aside (Sat E W4 (HP.row 5 1 (.slice A15 128 c15) 128 (b8s (x.c.written.take 128 ++ x.c.durable.drop 128)) * (HP.rdk y room fuse (.slice (some ⟨g, o, none⟩) n cF) (setRC fs' k i (⟨x.c, x.vr, .slice A15 128 c15, x.vs, x.vw⟩ : RC)) L' * (HP.pt BF (.cells #[.string nm, .slice (some ⟨gc, oc, none⟩) vn VC] 174) * q)))) := ⟨hn4.perm (by ac_rfl)⟩
                  clear hn4 HS3
                  refine wpR_done (by kernel_rfl) ?_ _
                  simp only [OnlyN]
                  have HS9 := HS4
                  clear HS4
                  go_wp2
                  go_meet
                  case rel => exact ⟨A15, c15, HS9⟩
                · have hdm3 : ¬ (DC : Int) = 128 := by omega
                  refine region_R [1, 8, 15, 18] [1, 8] (fun W => Sat E W (HP.rdk y room fuse (.slice (some ⟨g, o, none⟩) n cF) fs' L' * (HP.pt BF (.cells #[.string nm, .slice (some ⟨gc, oc, none⟩) vn VC] 174) * q))) #[false, false, false, false, false, false, false, false, false, false, false, false, false, false, false, false, false, false, false] (by kernel_rfl) rfl rfl ?_
                  have HT : Aside ((fun W => Sat E W (HP.rdk y room fuse (.slice (some ⟨g, o, none⟩) n cF) fs' L' * (HP.pt BF (.cells #[.string nm, .slice (some ⟨gc, oc, none⟩) vn VC] 174) * q))) _) := ⟨HS.out.drew⟩
                  refine wpR_pu 0 #[true, false, false, false, false, false, false, false, false, false, false, false, false, false, false, false, false, false, false] rfl onlyN_noPanic (by kernel_rfl) (fun K hK => ?_); (go_simp; try go_bits); refine hK _ ?_; clear hK K
                  refine wpR_pu 2 #[true, false, true, false, false, false, false, false, false, false, false, false, false, false, false, false, false, false, false] rfl onlyN_noPanic (by kernel_rfl) (fun K hK => ?_); (go_simp; try go_bits); refine hK _ ?_; clear hK K
                  refine wpR_pu 3 #[true, false, true, true, false, false, false, false, false, false, false, false, false, false, false, false, false, false, false] rfl onlyN_noPanic (by kernel_rfl) (fun K hK => ?_); (go_simp; try go_bits); refine hK _ ?_; clear hK K
                  refine wpR_pu 4 #[true, false, true, true, true, false, false, false, false, false, false, false, false, false, false, false, false, false, false] rfl onlyN_noPanic (by kernel_rfl) (fun K hK => ?_); (go_simp; try go_bits); refine hK _ ?_; clear hK K
                  refine wpR_held (i := 5) (v := .slice (some ⟨gw, ow, none⟩) 128 WC) #[true, false, true, true, true, true, false, false, false, false, false, false, false, false, false, false, false, false, false] rfl onlyN_noPanic (by kernel_rfl) HT.out (.inl ⟨rfl, fun w' hT => ?_⟩) ?_
                  · obtain ⟨t1, t2, -⟩ := HC.out _ hT; go_simp
                  simp only [Act.put, List.setIfInBounds_toArray, List.set_cons_zero, List.set_cons_succ]
                  refine wpR_pu 6 #[true, false, true, true, true, true, true, false, false, false, false, false, false, false, false, false, false, false, false] rfl onlyN_noPanic (by kernel_rfl) (fun K hK => ?_); (go_simp; try go_bits); refine hK _ ?_; clear hK K
                  refine wpR_pu 7 #[true, false, true, true, true, true, true, true, false, false, false, false, false, false, false, false, false, false, false] rfl onlyN_noPanic (by kernel_rfl) (fun K hK => ?_); (go_simp; try go_bits); refine hK _ ?_; clear hK K
                  refine wpR_pu 9 #[true, false, true, true, true, true, true, true, false, true, false, false, false, false, false, false, false, false, false] rfl onlyN_noPanic (by kernel_rfl) (fun K hK => ?_); (go_simp; try go_bits); refine hK _ ?_; clear hK K
                  refine wpR_pu 10 #[true, false, true, true, true, true, true, true, false, true, true, false, false, false, false, false, false, false, false] rfl onlyN_noPanic (by kernel_rfl) (fun K hK => ?_); (go_simp; try go_bits); refine hK _ ?_; clear hK K
                  refine wpR_pu 11 #[true, false, true, true, true, true, true, true, false, true, true, true, false, false, false, false, false, false, false] rfl onlyN_noPanic (by kernel_rfl) (fun K hK => ?_); (go_simp; try go_bits); refine hK _ ?_; clear hK K
                  refine wpR_held (i := 12) (v := .slice (some ⟨gd, od, none⟩) 128 DC) #[true, false, true, true, true, true, true, true, false, true, true, true, true, false, false, false, false, false, false] rfl onlyN_noPanic (by kernel_rfl) HT.out (.inl ⟨rfl, fun w' hT => ?_⟩) ?_
                  · obtain ⟨t1, t2, -⟩ := HC.out _ hT; go_simp
                  simp only [Act.put, List.setIfInBounds_toArray, List.set_cons_zero, List.set_cons_succ]
                  refine wpR_pu 13 #[true, false, true, true, true, true, true, true, false, true, true, true, true, true, false, false, false, false, false] rfl onlyN_noPanic (by kernel_rfl) (fun K hK => ?_); (go_simp; try go_bits); refine hK _ ?_; clear hK K
                  refine wpR_pu 14 #[true, false, true, true, true, true, true, true, false, true, true, true, true, true, true, false, false, false, false] rfl onlyN_noPanic (by kernel_rfl) (fun K hK => ?_); (go_simp; try go_bits); refine hK _ ?_; clear hK K
                  clear HT
                  have HS0 := Aside.mk HS.out.drew
                  clear HS
                  revert HS0
                  generalize World.drew wc = W0
                  intro HS0
                  refine wpR_keep #[true, true, true, true, true, true, true, true, false, true, true, true, true, true, true, false, false, false, false] (i := 1) rfl (by kernel_rfl) (fun K hK => ?_)
                  go_simp
                  obtain ⟨W1, hW1⟩ : ∃ x, x = World.alloc W0 (.cells #[] 5) := ⟨_, rfl⟩
                  obtain ⟨gE, hgE⟩ : ∃ x, x = Array.size (World.heap W0) := ⟨_, rfl⟩
                  have hn1 : Sat E W1 (HP.rdk y room fuse (.slice (some ⟨g, o, none⟩) n cF) fs' L' * (HP.pt BF (.cells #[.string nm, .slice (some ⟨gc, oc, none⟩) vn VC] 174) * q)) := by rw [hW1]; exact (HS0.out.alloc _).right
                  rw [← hW1, ← hgE]
                  refine hK _ _ (by first | exact hn1 | exact (Sat.right hn1) | exact (Sat.right (Sat.right hn1))) ?_
                  clear hK K hW1 hgE
                  have HS1 : Aside (Sat E W1 (HP.rdk y room fuse (.slice (some ⟨g, o, none⟩) n cF) fs' L' * (HP.pt BF (.cells #[.string nm, .slice (some ⟨gc, oc, none⟩) vn VC] 174) * q))) := ⟨hn1.perm (by ac_rfl)⟩
                  clear hn1
                  refine wpR_keep #[true, true, true, true, true, true, true, true, true, true, true, true, true, true, true, false, false, false, false] (i := 8) rfl (by kernel_rfl) (fun K hK => ?_)
                  refine Eq.mpr (if_pos (by rfl)) ?_
                  refine wp_append_row (v := .slice (some ⟨gE, 0, none⟩) 0 0) (n := 0) (cs := []) (A := some ⟨gw, ow, none⟩) (m := 128) (c := WC) (news := b8s (x.c.written.take 128)) slB8 rfl rfl rfl (HS1.out.row_nil 5 1 _) (HC.out _ (by first | exact HS1.out | exact (Sat.right HS1.out) | exact (Sat.right (Sat.right HS1.out)))).2.2.1 (by rw [b8s_length, List.length_take, HFin.out.2.2.2]; omega) (b8s_one _) (by unfold maxLen; omega) (by omega) (fun v8 W2 hn2 => ?_)
                  rw [List.nil_append, Nat.zero_add] at hn2
                  refine hK _ _ (by first | exact hn2 | exact (Sat.right hn2) | exact (Sat.right (Sat.right hn2))) ?_
                  clear hK K
                  have HS2 : Aside (Sat E W2 (HP.row 5 1 v8 128 (b8s (x.c.written.take 128)) * (HP.rdk y room fuse (.slice (some ⟨g, o, none⟩) n cF) fs' L' * (HP.pt BF (.cells #[.string nm, .slice (some ⟨gc, oc, none⟩) vn VC] 174) * q)))) := ⟨hn2.perm (by ac_rfl)⟩
                  clear hn2 HS1
                  refine wpR_eff #[true, true, true, true, true, true, true, true, true, true, true, true, true, true, true, true, false, false, false] (i := 15) rfl (by kernel_rfl) (fun K hK => ?_)
                  refine Eq.mpr (if_pos (by rfl)) ?_
                  refine wp_append_row (v := v8) (n := 128) (cs := b8s (x.c.written.take 128)) (A := some ⟨gd, od + 128, none⟩) (m := 0) (c := DC - 128) (news := b8s (x.c.durable.drop 128)) slB8 rfl rfl rfl HS2.out (by rw [HDN.out]; exact Cells.nil _ _) (by rw [HDN.out]; rfl) (b8s_one _) (by unfold maxLen; omega) (by omega) (fun v15 W3 hn3 => ?_)
                  rw [Nat.add_zero, ← b8s_app] at hn3
                  obtain ⟨A15, c15, rfl, -, -⟩ := hn3.row_slice
                  refine hK _ _ ?_
                  clear hK K
                  have HS3 : Aside (Sat E W3 (HP.row 5 1 (.slice A15 128 c15) 128 (b8s (x.c.written.take 128 ++ x.c.durable.drop 128)) * (HP.rdk y room fuse (.slice (some ⟨g, o, none⟩) n cF) fs' L' * (HP.pt BF (.cells #[.string nm, .slice (some ⟨gc, oc, none⟩) vn VC] 174) * q)))) := ⟨hn3.perm (by ac_rfl)⟩
                  clear hn3 HS2
                  refine wpR_rd 16 #[true, true, true, true, true, true, true, true, true, true, true, true, true, true, true, true, true, false, false] rfl onlyN_noPanic (by kernel_rfl) (fun K hK => ?_); (go_simp; try go_bits); refine hK _ ?_; clear hK K
                  refine wpR_rd 17 #[true, true, true, true, true, true, true, true, true, true, true, true, true, true, true, true, true, true, false] rfl onlyN_noPanic (by kernel_rfl) (fun K hK => ?_); (go_simp; try go_bits); refine hK _ ?_; clear hK K
                  refine wpR_eff #[true, true, true, true, true, true, true, true, true, true, true, true, true, true, true, true, true, true, true] (i := 18) rfl (by kernel_rfl) (fun K hK => ?_)
                  have hn4a : Sat E W3 (HP.rdk y room fuse (.slice (some ⟨g, o, none⟩) n cF) fs' L' * (HP.row 5 1 (.slice A15 128 c15) 128 (b8s (x.c.written.take 128 ++ x.c.durable.drop 128)) * (HP.pt BF (.cells #[.string nm, .slice (some ⟨gc, oc, none⟩) vn VC] 174) * q))) := HS3.out.perm (by ac_rfl)
                  have hn4b := Sat.rc_store (u := .slice A15 128 c15) HF.out.1 HF.out.2.1 HF.out.2.2 (⟨x.c, x.vr, .slice A15 128 c15, x.vs, x.vw⟩ : RC) (t := 1) (by omega) rfl hn4a
                  have t9 := (hn4a.rc_cell HF.out.1 HF.out.2.1 HF.out.2.2).2.1
                  have z9 := Sat.rc_thaw (t := i * 5 + 1) HF.out.1 HF.out.2.1 (by omega) hn4a
                  rw [← Nat.add_assoc] at hn4b z9
                  go_simp
                  obtain ⟨W4, hW4⟩ : ∃ x, x = World.setCell W3 ⟨gc, oc + i * 5 + 1, none⟩ (.slice A15 128 c15) := ⟨_, rfl⟩
                  rw [← hW4] at hn4b
                  have hn4 : Sat E W4 (HP.row 5 1 (.slice A15 128 c15) 128 (b8s (x.c.written.take 128 ++ x.c.durable.drop 128)) * (HP.rdk y room fuse (.slice (some ⟨g, o, none⟩) n cF) (setRC fs' k i (⟨x.c, x.vr, .slice A15 128 c15, x.vs, x.vw⟩ : RC)) L' * (HP.pt BF (.cells #[.string nm, .slice (some ⟨gc, oc, none⟩) vn VC] 174) * q))) := hn4b.perm (by ac_rfl)
                  rw [← hW4]
                  refine hK _ _ ?_
                  clear hK K hW4 t9 z9 hn4a hn4b
                  have HS4 : Aside (Sat E W4 (HP.row 5 1 (.slice A15 128 c15) 128 (b8s (x.c.written.take 128 ++ x.c.durable.drop 128)) * (HP.rdk y room fuse (.slice (some ⟨g, o, none⟩) n cF) (setRC fs' k i (⟨x.c, x.vr, .slice A15 128 c15, x.vs, x.vw⟩ : RC)) L' * (HP.pt BF (.cells #[.string nm, .slice (some ⟨gc, oc, none⟩) vn VC] 174) * q)))) := ⟨hn4.perm (by ac_rfl)⟩
                  clear hn4 HS3
                  refine wpR_done (by kernel_rfl) ?_ _
                  simp only [OnlyN]
                  have HS9 := HS4
                  clear HS4
                  go_wp2
                  go_meet
                  case rel => exact ⟨A15, c15, HS9⟩
            clear HS HC
            obtain ⟨A15, c15, HS⟩ := hcut
            obtain ⟨hF3, hi3⟩ := setRC_at (x := (⟨x.c, x.vr, .slice A15 128 c15, x.vs, x.vw⟩ : RC)) HF.out.1 (List.getElem?_eq_some_iff.1 HF.out.2.2).1
            have HF3 := Aside.mk (And.intro hF3 hi3)
            clear hF3 hi3
            have h10 := ((HS.out.alloc (.cells #[] 5)).right).row_nil 5 1 (some ⟨wc.heap.size, 0, none⟩)
            have hb15 := h10.right.row_cells
            have t10 := (h10.right.right.rc_cell HF3.out.1 HF.out.2.1 HF3.out.2).2.1
            have H10 := Aside.mk (And.intro h10 hb15)
            have HLN : Aside ((b8s (x.c.written.take m ++ x.c.durable.drop m)).length = 128) := ⟨by rw [b8s_length, List.length_append, List.length_take, List.length_drop, HFin.out.2.1, HFin.out.2.2.2]; omega⟩
            have HTH : Aside (∀ t, t < 5 → ∀ W r, Sat E W (HP.rdk y room fuse (.slice (some ⟨g, o, none⟩) n cF) (setRC fs' k i (⟨x.c, x.vr, .slice A15 128 c15, x.vs, x.vw⟩ : RC)) L' * r) → W.frozen? ⟨gc, oc + (i * 5 + t), none⟩ = false) := ⟨fun t ht W r h => Sat.rc_thaw HF3.out.1 HF.out.2.1 (by show _ < (f.cs.set i _).length * 5; rw [List.length_set]; omega) h⟩
            clear h10 hb15
            go_wp2_with (at_builtin; refine wpList_append_row slB8 rfl rfl (by rfl) (by rfl) H10.out.1 H10.out.2 (by rw [HLN.out]) (b8s_one _) (by unfold maxLen; omega) (by omega) (fun v7 w7 h7 => ?_); rw [List.nil_append, Nat.zero_add] at h7; obtain ⟨A7, c7, rfl, hc7, hm7⟩ := h7.row_slice; have H7 := Aside.mk h7; have h8 := h7.right.right; obtain ⟨t5, -, -, -, t7⟩ := h8.rc_cell HF3.out.1 HF.out.2.1 HF3.out.2; have z5 := HTH.out 0 (by omega) _ _ h8; have z7 := HTH.out 4 (by omega) _ _ h8; rw [Nat.add_zero] at z5; rw [← Nat.add_assoc] at z7; clear h7 h8)
            have hlt : i < f.cs.length := (List.getElem?_eq_some_iff.1 HF.out.2.2).1
            have s0 : Sat E w7 (HP.rdk y room fuse (.slice (some ⟨g, o, none⟩) n cF) (setRC fs' k i (⟨x.c, x.vr, .slice A15 128 c15, x.vs, x.vw⟩ : RC)) L' * (HP.row 5 1 (.slice A7 128 c7) 128 (b8s (x.c.written.take m ++ x.c.durable.drop m)) * (HP.row 5 1 (.slice A15 128 c15) 128 (b8s (x.c.written.take m ++ x.c.durable.drop m)) * (HP.pt BF (.cells #[.string nm, .slice (some ⟨gc, oc, none⟩) vn VC] 174) * q)))) := H7.out.perm (by ac_rfl)
            have s1 := Sat.rc_store (u := .slice A7 128 c7) HF3.out.1 HF.out.2.1 HF3.out.2 (⟨x.c, .slice A7 128 c7, .slice A15 128 c15, x.vs, x.vw⟩ : RC) (t := 0) (by omega) rfl s0
            rw [setRC_setRC] at s1
            obtain ⟨k2, i2⟩ := setRC_at (x := (⟨x.c, .slice A7 128 c7, .slice A15 128 c15, x.vs, x.vw⟩ : RC)) HF.out.1 hlt
            have s2 := Sat.rc_store (u := .bool false) k2 HF.out.2.1 i2 (⟨⟨(x.c.written.take m ++ x.c.durable.drop m), (x.c.written.take m ++ x.c.durable.drop m), x.c.synced, x.c.written, false⟩, .slice A7 128 c7, .slice A15 128 c15, x.vs, x.vw⟩ : RC) (t := 4) (by omega) rfl s1
            rw [setRC_setRC, Nat.add_zero, ← Nat.add_assoc] at s2
            have s4 := Sat.rdk_imgs_in (z := (.slice A15 128 c15, (x.c.written.take m ++ x.c.durable.drop m))) ((s2.perm (by ac_rfl) : Sat E _ (HP.rdk y room fuse (.slice (some ⟨g, o, none⟩) n cF) (setRC fs' k i (⟨⟨(x.c.written.take m ++ x.c.durable.drop m), (x.c.written.take m ++ x.c.durable.drop m), x.c.synced, x.c.written, false⟩, .slice A7 128 c7, .slice A15 128 c15, x.vs, x.vw⟩ : RC)) L' * (HP.row 5 1 (.slice A15 128 c15) 128 (b8s (x.c.written.take m ++ x.c.durable.drop m)) * (HP.row 5 1 (.slice A7 128 c7) 128 (b8s (x.c.written.take m ++ x.c.durable.drop m)) * (HP.pt BF (.cells #[.string nm, .slice (some ⟨gc, oc, none⟩) vn VC] 174) * q))))))
            have s5 := Sat.rdk_imgs_in (z := (.slice A7 128 c7, (x.c.written.take m ++ x.c.durable.drop m))) s4
            have HCR2 := Aside.mk (HCR.out.step HF.out.2.2 HWT.out.symm HM.out (V1 := .slice A15 128 c15) (V2 := .slice A7 128 c7))
            have HN2 : Aside (n = (setRC fs' k i (⟨⟨(x.c.written.take m ++ x.c.durable.drop m), (x.c.written.take m ++ x.c.durable.drop m), x.c.synced, x.c.written, false⟩, .slice A7 128 c7, .slice A15 128 c15, x.vs, x.vw⟩ : RC)).length) := ⟨by rw [setRC_len]; exact HN.out⟩
            have HS5 := Aside.mk s5
            clear s0 s1 s2 s4 s5 k2 i2 t5 t7 z5 z7 t10
            go_roundw
            case rel => exact ⟨i + 1, _, _, _, by omega, by go_num, HN2, HCR2, HS5⟩
            case measure => simp [intOf]; omega
        · obtain rfl : i = vn := by omega
          have HV2 : Aside (RView { A with files := crF K A.files (k + 1) } fs' L') := ⟨by
            have h := HCR.out.view
            have hll : l.length = i := by
              have h1 := congrArg List.length HCR.out.cels
              rw [List.length_map, HCR.out.len] at h1
              unfold crP at h1
              rw [List.length_append, crashL_len, List.length_take, List.length_drop] at h1
              omega
            have e := crP_end (K := K) (s := nm) (l := l)
            rw [hll] at e
            rw [e, (crF_step HZ.out).2] at h
            exact h⟩
          have HS2 : Aside (Sat E _ (HP.rdk y room fuse (.slice (some ⟨g, o, none⟩) n cF) fs' L' * q)) := ⟨(HS.out.perm (HP.left_comm _ _ _)).right⟩
          clear HCR HS
          go_wp2
          go_roundw
          case rel => exact ⟨k + 1, fs', L', by omega, by go_num, HN, HV2, HS2⟩
          case measure => simp [intOf]; omega
    · obtain rfl : k = n := by omega
      have y2 := HS.out.rdk_parts.cell 2
      have z2 := HS.out.rdk_parts.thaw 2
      simp only [List.getElem?_toArray, List.getElem?_cons_zero, List.getElem?_cons_succ] at y2
      have HS2 := Aside.mk (HS.out.rdk_burn (-1))
      go_wp2
      go_ret
      refine ⟨rfl, ?_⟩
      have hv := HV.out
      rw [HNA.out, crF_end] at hv
      have hv2 := hv.fuse (u := -1) (by omega)
      rw [HAR.out]
      refine Sat.rdisk_close (A := A.crash K) (v := .slice FA k cF) hv2 ?_
      have h := HS2.out
      rw [HFR.out.2] at h
      exact h
end Go.Proofs.YtnpinegpajbkeaaGreatDoor
namespace Go.Proofs.YtnpinegpajbkeaaGreatDoor
open Go.Shelf
def layKe_ren : Go.Shelf.Ren := ⟨fun | 7 => 101 | 10 => 136 | n => n, fun | 23 => 141 | 26 => 9 | 3 => 144 | 28 => 152 | 0 => 0 | 27 => 151 | 33 => 164 | 4 => 4 | n => n, fun | n => n⟩
theorem layKe : Go.Proofs.SlLaysZ.n7 Tryz.prog layKe_ren := {
  mixed := by kernel_rfl
  f7 := ⟨Tryz.f101.name, by decide, Tryz.func101.trans (congrArg some (by kernel_rfl))⟩
  f10 := ⟨Tryz.f136.name, by decide, Tryz.func136.trans (congrArg some (by kernel_rfl))⟩
  t0 := Tryz.underlying0
  a0 := Tryz.isAgg0
  z0 := Tryz.sizeOf0
  v0 := Tryz.zeroValue0
  t4 := Tryz.underlying4
  a4 := Tryz.isAgg4
  z4 := Tryz.sizeOf4
  v4 := Tryz.zeroValue4
  t23 := Tryz.underlying141
  a23 := Tryz.isAgg141
  z23 := Tryz.sizeOf141
  v23 := Tryz.zeroValue141
  t26 := Tryz.underlying9
  a26 := Tryz.isAgg9
  z26 := Tryz.sizeOf9
  v26 := Tryz.zeroValue9
  t27 := Tryz.underlying151
  a27 := Tryz.isAgg151
  z27 := Tryz.sizeOf151
  v27 := Tryz.zeroValue151
  t28 := Tryz.underlying152
  a28 := Tryz.isAgg152
  z28 := Tryz.sizeOf152
  v28 := Tryz.zeroValue152
  t33 := Tryz.underlying164
  a33 := Tryz.isAgg164
  z33 := Tryz.sizeOf164
  v33 := Tryz.zeroValue164 }
def laySd_ren : Go.Shelf.Ren := ⟨fun | 6 => 100 | 8 => 134 | 9 => 135 | 11 => 158 | 13 => 154 | 12 => 159 | 23 => 179 | 24 => 180 | 14 => 181 | 15 => 182 | 16 => 183 | 17 => 184 | 18 => 185 | 19 => 186 | 20 => 187 | 21 => 188 | 22 => 189 | 25 => 201 | 26 => 197 | 27 => 198 | 28 => 202 | 29 => 203 | 30 => 155 | 31 => 207 | n => n, fun | 26 => 9 | 28 => 152 | 24 => 76 | 0 => 0 | 3 => 3 | 37 => 50 | 48 => 168 | 50 => 167 | 4 => 4 | 40 => 231 | 39 => 230 | 45 => 235 | 5 => 5 | 9 => 9 | 51 => 248 | 55 => 252 | 57 => 260 | 58 => 261 | 33 => 164 | n => n, fun | n => n⟩
theorem laySd : Go.Proofs.SlLaysZ.n6 Tryz.prog laySd_ren := {
  mixed := by kernel_rfl
  f6 := ⟨Tryz.f100.name, by decide, Tryz.func100.trans (congrArg some (by kernel_rfl))⟩
  f8 := ⟨Tryz.f134.name, by decide, Tryz.func134.trans (congrArg some (by kernel_rfl))⟩
  f11 := ⟨Tryz.f158.name, by decide, Tryz.func158.trans (congrArg some (by kernel_rfl))⟩
  t0 := Tryz.underlying0
  a0 := Tryz.isAgg0
  z0 := Tryz.sizeOf0
  v0 := Tryz.zeroValue0
  t24 := Tryz.underlying76
  a24 := Tryz.isAgg76
  z24 := Tryz.sizeOf76
  v24 := Tryz.zeroValue76
  t26 := Tryz.underlying9
  a26 := Tryz.isAgg9
  z26 := Tryz.sizeOf9
  v26 := Tryz.zeroValue9
  t28 := Tryz.underlying152
  a28 := Tryz.isAgg152
  z28 := Tryz.sizeOf152
  v28 := Tryz.zeroValue152
  i26 := by kernel_rfl }
def laySr_ren : Go.Shelf.Ren := ⟨fun | 6 => 135 | 8 => 154 | 9 => 159 | 19 => 179 | 20 => 180 | 21 => 181 | 22 => 182 | 23 => 183 | 24 => 184 | 25 => 185 | 26 => 186 | 27 => 187 | 28 => 188 | 29 => 189 | 36 => 201 | 31 => 197 | 32 => 198 | 37 => 202 | 38 => 203 | 39 => 155 | 41 => 207 | n => n, fun | 27 => 76 | 29 => 9 | 3 => 3 | 32 => 50 | 26 => 76 | 0 => 0 | 44 => 168 | 46 => 167 | 4 => 4 | 36 => 231 | 35 => 230 | 41 => 235 | 5 => 5 | 9 => 9 | 53 => 248 | 57 => 252 | 63 => 260 | 64 => 261 | n => n, fun | n => n⟩
theorem laySr : Go.Proofs.SlLaysM.n6 Tryz.prog laySr_ren := {
  mixed := by kernel_rfl
  f6 := ⟨Tryz.f135.name, by decide, Tryz.func135.trans (congrArg some (by kernel_rfl))⟩
  f8 := Tryz.func154.trans (congrArg some (by kernel_rfl))
  f9 := ⟨Tryz.f159.name, by decide, Tryz.func159.trans (congrArg some (by kernel_rfl))⟩
  f19 := Tryz.func179.trans (congrArg some (by kernel_rfl))
  f20 := Tryz.func180.trans (congrArg some (by kernel_rfl))
  f21 := ⟨Tryz.f181.name, by decide, Tryz.func181.trans (congrArg some (by kernel_rfl))⟩
  f22 := ⟨Tryz.f182.name, by decide, Tryz.func182.trans (congrArg some (by kernel_rfl))⟩
  f23 := ⟨Tryz.f183.name, by decide, Tryz.func183.trans (congrArg some (by kernel_rfl))⟩
  f24 := ⟨Tryz.f184.name, by decide, Tryz.func184.trans (congrArg some (by kernel_rfl))⟩
  f25 := ⟨Tryz.f185.name, by decide, Tryz.func185.trans (congrArg some (by kernel_rfl))⟩
  f26 := ⟨Tryz.f186.name, by decide, Tryz.func186.trans (congrArg some (by kernel_rfl))⟩
  f27 := ⟨Tryz.f187.name, by decide, Tryz.func187.trans (congrArg some (by kernel_rfl))⟩
  f28 := ⟨Tryz.f188.name, by decide, Tryz.func188.trans (congrArg some (by kernel_rfl))⟩
  f29 := ⟨Tryz.f189.name, by decide, Tryz.func189.trans (congrArg some (by kernel_rfl))⟩
  f31 := Tryz.func197.trans (congrArg some (by kernel_rfl))
  f32 := Tryz.func198.trans (congrArg some (by kernel_rfl))
  f36 := ⟨Tryz.f201.name, by decide, Tryz.func201.trans (congrArg some (by kernel_rfl))⟩
  f37 := ⟨Tryz.f202.name, by decide, Tryz.func202.trans (congrArg some (by kernel_rfl))⟩
  f38 := ⟨Tryz.f203.name, by decide, Tryz.func203.trans (congrArg some (by kernel_rfl))⟩
  f39 := ⟨Tryz.f155.name, by decide, Tryz.func155.trans (congrArg some (by kernel_rfl))⟩
  f41 := ⟨Tryz.f207.name, by decide, Tryz.func207.trans (congrArg some (by kernel_rfl))⟩
  t0 := Tryz.underlying0
  a0 := Tryz.isAgg0
  z0 := Tryz.sizeOf0
  v0 := Tryz.zeroValue0
  t3 := Tryz.underlying3
  a3 := Tryz.isAgg3
  z3 := Tryz.sizeOf3
  v3 := Tryz.zeroValue3
  t4 := Tryz.underlying4
  a4 := Tryz.isAgg4
  z4 := Tryz.sizeOf4
  v4 := Tryz.zeroValue4
  t5 := Tryz.underlying5
  a5 := Tryz.isAgg5
  z5 := Tryz.sizeOf5
  v5 := Tryz.zeroValue5
  t9 := Tryz.underlying9
  a9 := Tryz.isAgg9
  z9 := Tryz.sizeOf9
  v9 := Tryz.zeroValue9
  t26 := Tryz.underlying76
  a26 := Tryz.isAgg76
  z26 := Tryz.sizeOf76
  v26 := Tryz.zeroValue76
  t27 := Tryz.underlying76
  a27 := Tryz.isAgg76
  z27 := Tryz.sizeOf76
  v27 := Tryz.zeroValue76
  t29 := Tryz.underlying9
  a29 := Tryz.isAgg9
  z29 := Tryz.sizeOf9
  v29 := Tryz.zeroValue9
  t32 := Tryz.underlying50
  a32 := Tryz.isAgg50
  z32 := Tryz.sizeOf50
  v32 := Tryz.zeroValue50
  t35 := Tryz.underlying230
  a35 := Tryz.isAgg230
  z35 := Tryz.sizeOf230
  v35 := Tryz.zeroValue230
  t36 := Tryz.underlying231
  a36 := Tryz.isAgg231
  z36 := Tryz.sizeOf231
  v36 := Tryz.zeroValue231
  t41 := Tryz.underlying235
  a41 := Tryz.isAgg235
  z41 := Tryz.sizeOf235
  v41 := Tryz.zeroValue235
  t44 := Tryz.underlying168
  a44 := Tryz.isAgg168
  z44 := Tryz.sizeOf168
  v44 := Tryz.zeroValue168
  t46 := Tryz.underlying167
  a46 := Tryz.isAgg167
  z46 := Tryz.sizeOf167
  v46 := Tryz.zeroValue167
  t53 := Tryz.underlying248
  a53 := Tryz.isAgg248
  z53 := Tryz.sizeOf248
  v53 := Tryz.zeroValue248
  t57 := Tryz.underlying252
  a57 := Tryz.isAgg252
  z57 := Tryz.sizeOf252
  v57 := Tryz.zeroValue252
  t63 := Tryz.underlying260
  a63 := Tryz.isAgg260
  z63 := Tryz.sizeOf260
  v63 := Tryz.zeroValue260
  t64 := Tryz.underlying261
  a64 := Tryz.isAgg261
  z64 := Tryz.sizeOf261
  v64 := Tryz.zeroValue261 }
end Go.Proofs.YtnpinegpajbkeaaGreatDoor
namespace Go.Proofs.YtnpinegpajbkeaaGreatDoor
open Go.RowKit Go.Maps Go.Sort Go.Shelf HP
def namesV (A : Dk) : List Value := A.files.map fun x => Value.string x.1
theorem lsSorts (m : Nat) : AnyZ.SortsIn Tryz.prog laySd_ren Fence.wide m :=
  ⟨fun blk off cap ss W hH hblk hsz => callsIn_wide.2 (AnyM.slices_Sort_string laySr blk off cap ss W hH hblk hsz),
   fun p cap W => callsIn_wide.2 (AnyM.slices_Sort_string_none laySr p cap W)⟩
set_option maxHeartbeats 2000000 in
set_option maxRecDepth 100000 in
theorem disk_list (E : Env) (q : HP) (d : Nat) (A : Dk) (w : World) (hw : Sat E w (HP.disk d A * q)) :
    Calls Tryz.prog 34 #[.pointer (some ⟨d, 0, none⟩)] w fun e w' => ∃ v, e = .returned v ∧ Sat E w' (HP.row 9 1 v A.files.length (namesV A) * (HP.disk d A * q)) := by
  obtain ⟨m, es, clock, fs, hv, hd⟩ := hw.disk_open
  have hd0 := hd
  clear hw
  unfold HP.dk HP.dsk at hd0
  have c1 := (hd0.perm (HP.mul_assoc _ _ _)).cell 1
  simp only [List.getElem?_toArray, List.getElem?_cons_zero, List.getElem?_cons_succ] at c1
  have HD := Aside.mk hd
  have HV := Aside.mk hv
  clear hd0 hd hv
  go_enter Tryz.func34, Tryz.ntmps34
  go_wp2_with fail
  refine (disk_none E _ d _ _ _ _ (by have h := HD.out; unfold HP.dk at h; exact h.perm (HP.mul_assoc _ _ _))).mono ?_
  rintro e w' ⟨rfl, hw'⟩; subst w'
  obtain ⟨D0, hown, hss, hsz⟩ := own_map HV.out HD.out
  have hle : Maps.size D0 ≤ 100000 := by rw [hsz]; exact files_le HV.out.fine
  have hbl := hown.lt
  have hseq : SeqGives Fence.wide 2 Tryz.prog 136 #[.pointer (some ⟨w.heap.size, 0, none⟩)] encStr (fun ss => ss.Perm (strKeys D0)) (Maps.size D0) (w.alloc (.cells #[.map (some m)] 141)) :=
    AnyZ.keys_gives (ρ := layKe_ren) { layKe with } Fence.wide _ trivial rfl (by omega) w.heap.size m es.size D0 _ (by simp) (by simp) (by
      obtain ⟨es, clock, hb, Ft, hs, hD⟩ := hown
      exact ⟨es, clock, (RowKit.Below.heap_alloc _ _ m hbl).trans hb, Ft, hs, hD⟩)
  have cK : ∀ mb W, Calls Tryz.prog 101 #[.map mb] W fun e w' => e = .returned (.func (.func 136) #[] #[.pointer (some ⟨W.heap.size, 0, none⟩)]) ∧ w' = W.alloc (.cells #[.map mb] 141) := fun mb W => (callsIn_wide (n := 5)).1 (AnyZ.keys_in layKe Fence.wide 5 trivial rfl mb W)
  have cS0 := AnyZ.sorted_in laySd Fence.wide 5 trivial trivial trivial trivial rfl (by omega) (lsSorts _) (enters_of Tryz.func135 (by kernel_rfl) rfl) 136 #[.pointer (some ⟨w.heap.size, 0, none⟩)] trivial (enters_of Tryz.func136 (by kernel_rfl) rfl) _ _ (by unfold maxLen; omega) (by omega) _ hseq
  have cS : Calls Tryz.prog 100 #[.func (.func 136) #[] #[.pointer (some ⟨w.heap.size, 0, none⟩)]] (w.alloc (.cells #[.map (some m)] 141)) _ := (callsIn_wide (n := 5)).1 cS0
  have CS := Aside.mk cS
  have CK := Aside.mk (cK (some m) w)
  have HSS := Aside.mk hss
  clear cS0 cS cK hseq hown hss hsz hle hbl
  go_wp2_with fail
  refine CK.out.mono ?_
  rintro e w1 ⟨rfl, rfl⟩
  go_wp2_with fail
  refine CS.out.mono ?_
  rintro e w2 ⟨v, ss, rfl, hS, hrow, -, hbel⟩
  go_wp2
  go_ret
  refine ⟨v, rfl, ?_⟩
  have hp := hS.trans HSS.out
  have h3 : Sat E w2 (HP.row 9 1 v ss.length ((ss.mergeSort fun x y => decide (x ≤ y)).map encStr) * (HP.dk d A.room A.fuse m es clock fs * q)) := (HD.out.alloc (.cells #[.map (some m)] 141)).right.fresh_row hbel (Nat.le_refl _) hrow
  rw [names_sorted HV.out.fine hp, show ss.length = A.files.length by have := hp.length_eq; simpa using this] at h3
  have e1 : (A.files.map fun x => x.1.data.toList).map encStr = namesV A := by
    rw [List.map_map]; rfl
  rw [e1] at h3
  exact Sat.s2 (Sat.disk_close HV.out h3.s2)
end Go.Proofs.YtnpinegpajbkeaaGreatDoor
namespace Go.Proofs.YtnpinegpajbkeaaGreatDoor
open Go.RowKit HP
theorem alloc_size (w : World) (o : Obj) : (w.alloc o).heap.size = w.heap.size + 1 := by simp
theorem slStr3 : SlTy Tryz.prog 76 9 (.string ⟨#[]⟩) 1 16 := ⟨Tryz.underlying76, by kernel_rfl, rfl, by decide⟩
set_option maxHeartbeats 2000000 in
set_option maxRecDepth 100000 in
theorem ref_list (E : Env) (q : HP) (y : Nat) (A : Dk) (v : Value) (fs : List RF) (L : List (Value × List Int)) (w : World) (hv : RView A fs L) (hw : Sat E w (HP.rdk y A.room A.fuse v fs L * q)) :
    Calls Tryz.prog 84 #[.pointer (some ⟨y, 0, none⟩)] w fun e w' => ∃ x, e = .returned x ∧ Sat E w' (HP.row 9 1 x A.files.length (namesV A) * (HP.rdk y A.room A.fuse v fs L * q)) := by
  obtain ⟨FA, cF, rfl, hcF, hcM⟩ := hw.rdk_parts.s2.row_slice
  have HV := Aside.mk hv
  clear hv
  obtain ⟨fuse, hfu⟩ : ∃ fuse, fuse = A.fuse := ⟨_, rfl⟩
  obtain ⟨room, hro⟩ : ∃ room, room = A.room := ⟨_, rfl⟩
  rw [← hfu, ← hro] at hw ⊢
  clear hfu hro
  obtain ⟨n, hn⟩ : ∃ n, n = fs.length := ⟨_, rfl⟩
  have hfl := HV.out.flen
  have hnv : namesV A = fs.map fun f => Value.string f.name := by unfold namesV; rw [← HV.out.same, List.map_map]; rfl
  rw [hnv, ← HV.out.len]
  rw [← hn] at hcF hw hfl ⊢
  have HN := Aside.mk hn
  have c1 := hw.rdk_parts.cell 1
  simp only [List.getElem?_toArray, List.getElem?_cons_zero, List.getElem?_cons_succ] at c1
  have HW := Aside.mk (hw.row_nil 9 1 none)
  clear hn hw hnv
  go_enter Tryz.func84, Tryz.ntmps84
  go_wp2
  go_loopw [3, 11] (fun v3 v11 wr => ∃ k : Nat, k ≤ n ∧ v11 = .int .i64 k ∧ Aside (Sat E wr (HP.row 9 1 v3 k ((fs.take k).map fun f => Value.string f.name) * (HP.rdk y room fuse (.slice FA n cF) fs L * q)))) (fun _ i _ => n - (intOf i).toNat)
  case atStart => exact ⟨0, Nat.zero_le _, rfl, HW⟩
  case round =>
    clear HW c1
    obtain ⟨k, hk, rfl, HS⟩ := hrel
    obtain ⟨OA, cO, rfl, hcO, -⟩ := HS.out.row_slice
    by_cases hlt : k < n
    · have hlt2 : (k : Int) < (n : Int) := by omega
      have h0 : (0 : Int) ≤ (k : Int) := by omega
      obtain ⟨f, hf⟩ : ∃ f, fs[k]? = some f := ⟨_, List.getElem?_eq_getElem (by rw [← HN.out]; exact hlt)⟩
      obtain ⟨g, o, VA, VC, rfl, hval, hvc, g0, g1⟩ := HS.out.right.rf_at HN.out hf
      obtain ⟨vn, hvn⟩ : ∃ vn, vn = f.cs.length := ⟨_, rfl⟩
      obtain ⟨fn, hfn⟩ : ∃ fn, fn = f.name := ⟨_, rfl⟩
      rw [← hvn] at g1
      rw [← hfn] at g0
      have HB2 := Aside.mk (HS.out.alloc (.cells #[.string fn, .slice VA vn VC] 174)).right
      have HT : Aside ((fs.take (k + 1)).map (fun f => Value.string f.name) = (fs.take k).map (fun f => Value.string f.name) ++ [.string fn]) := ⟨by rw [take_snoc hf, List.map_append, hfn]; rfl⟩
      clear hval hvn hfn hf hvc
      go_wp2_with (at_builtin; refine wpList_append_new slStr3 rfl rfl (by rfl) (by rw [alloc_size]; rfl) HB2.out (by rfl) (by rfl) (by unfold maxLen; omega) (by omega) (fun v5 w5 hw5 => ?_); obtain ⟨A5, c5, rfl, -, -⟩ := hw5.row_slice; have HW5 := Aside.mk hw5; clear hw5)
      go_roundw
      case rel => exact ⟨k + 1, by omega, by go_num, ⟨by rw [HT.out]; exact HW5.out⟩⟩
      case measure => simp [intOf]; omega
    · obtain rfl : k = n := by omega
      go_wp2
      go_ret
      refine ⟨_, rfl, ?_⟩
      have h := HS.out
      rw [List.take_of_length_le (by rw [← HN.out]; exact Nat.le_refl _)] at h
      exact h
end Go.Proofs.YtnpinegpajbkeaaGreatDoor
namespace Go.Proofs.YtnpinegpajbkeaaGreatDoor
open Go.RowKit Go.Sort Go.Shelf HP
theorem Sat.grownS {E : Env} {q : HP} : ∀ (l : List Obj) {w : World}, Sat E w q → Sat E (Go.Sort.grow w l.toArray) q
  | [], w, h => by
    have : Go.Sort.grow w ([] : List Obj).toArray = w := by simp [Go.Sort.grow]
    rw [this]; exact h
  | o :: l, w, h => by
    have h1 : Sat E (w.alloc o) q := (h.alloc o).right
    have h2 := Sat.grownS l h1
    rw [Go.Sort.alloc_eq_grow, Go.Sort.grow_grow] at h2
    have e : #[o] ++ l.toArray = (o :: l).toArray := by simp
    rw [e] at h2; exact h2
section
variable {α : Type} [Inhabited α]
theorem flatK_list (enc : α → List Value) (k : Nat) (hk : ∀ x, (enc x).length = k) (l : List α) : (flatK enc k l.toArray).toList = l.flatMap enc := by
  have hl : (l.flatMap enc).length = l.length * k := by
    induction l with
    | nil => simp
    | cons x l ih => rw [List.flatMap_cons, List.length_append, ih, hk, List.length_cons, Nat.add_mul, Nat.one_mul, Nat.add_comm]
  apply List.ext_getElem?
  intro t
  by_cases ht : t < l.length * k
  · have k0 : 0 < k := by
      rcases Nat.eq_zero_or_pos k with h | h
      · subst h; simp at ht
      · exact h
    have hd : t / k < l.length := Nat.div_lt_of_lt_mul (by rw [Nat.mul_comm]; exact ht)
    have hm : t % k < k := Nat.mod_lt _ k0
    have e1 : (flatK enc k l.toArray).toList[t]? = some ((enc (l[t / k]))[t % k]'(by rw [hk]; exact hm)) := by
      rw [Array.getElem?_toList, Array.getElem?_eq_getElem (by simpa using ht)]
      have := get_flatK enc k l.toArray t (by simpa using ht)
      rw [getElem!_pos _ t (by simpa using ht)] at this
      rw [this]
      congr 1
      rw [getElem!_pos l.toArray (t / k) (by simpa using hd)]
      rw [getElem!_pos _ (t % k) (by rw [hk]; exact hm)]
      simp
    have e2 : (l.flatMap enc)[t]? = (enc (l[t / k]))[t % k]? := by
      have ht' : t = t / k * k + t % k := by rw [Nat.mul_comm]; exact (Nat.div_add_mod t k).symm
      have key : ∀ (l : List α) (i r : Nat) (x : α), l[i]? = some x → r < k → (l.flatMap enc)[i * k + r]? = (enc x)[r]? := by
        intro l
        induction l with
        | nil => intro i r x h; simp at h
        | cons y l ih =>
          intro i r x h hr
          rw [List.flatMap_cons]
          cases i with
          | zero =>
            simp only [List.getElem?_cons_zero, Option.some.injEq] at h
            subst h
            rw [Nat.zero_mul, Nat.zero_add, List.getElem?_append_left (by rw [hk]; exact hr)]
          | succ i =>
            simp only [List.getElem?_cons_succ] at h
            rw [List.getElem?_append_right (by rw [hk, Nat.add_mul]; omega), hk, ← ih i r x h hr]
            congr 1
            rw [Nat.add_mul, Nat.one_mul]
            omega
      have := key l (t / k) (t % k) (l[t / k]) (List.getElem?_eq_getElem hd) hm
      rwa [← ht'] at this
    rw [e1, e2, List.getElem?_eq_getElem]
  · rw [List.getElem?_eq_none (l := (flatK enc k l.toArray).toList) (by simp; omega), List.getElem?_eq_none (by rw [hl]; omega)]
theorem put_take (F : Array Value) (o : Nat) (c : Array Value) (h : o + F.size ≤ c.size) : ((putCells id o F c).toList.drop o).take F.size = F.toList := by
  apply List.ext_getElem?
  intro j
  rw [List.getElem?_take]
  split
  · rename_i hj
    rw [List.getElem?_drop, Array.getElem?_toList]
    unfold putCells
    rw [Array.getElem?_mapIdx, Array.getElem?_eq_getElem (by omega), Array.getElem?_toList, Array.getElem?_eq_getElem hj]
    simp only [Option.map_some]
    rw [if_pos (by omega), Nat.add_sub_cancel_left]
    simp [hj]
  · rw [List.getElem?_eq_none (by simp; omega)]
theorem put_size (F : Array Value) (o : Nat) (c : Array Value) : (putCells id o F c).size = c.size := by simp [putCells]
variable {E : Env} {q : HP} {w : World} {e : TypeId} {k n cap g o : Nat}
theorem sat_sorted {enc : α → List Value} (hk : ∀ x, (enc x).length = k) {cur : Array Value} {l' : List α} (hw : Sat E w (HP.pt g (.cells cur e) * q)) (hl : l'.length = n) (hs : o + n * k ≤ cur.size) (m : Nat) (os : Array Obj) :
    Sat E (sortWorldK enc k w g o m l'.toArray os) (HP.pt g (.cells (putCells id o (flatK enc k l'.toArray) cur) e) * q) := by
  have h1 : Sat E (Go.Sort.ahead w m) (HP.pt g (.cells cur e) * q) := hw.drewN (n := m)
  have hg := h1.get
  have h2 : Sat E (putRowK enc k (Go.Sort.ahead w m) g o l'.toArray) (HP.pt g (.cells (putCells id o (flatK enc k l'.toArray) cur) e) * q) := by
    refine h1.turn (w' := putRowK enc k (Go.Sort.ahead w m) g o l'.toArray) ⟨rfl, rfl, rfl, ?_⟩ ?_ fun b hb _ => ?_
    · unfold putRowK
      rw [size_putRow]
      exact Nat.le_refl _
    · unfold putRowK putRow mapBlock
      simp only [Array.getElem?_modify, if_true, hg, Option.map_some, onCells]
    · unfold putRowK putRow mapBlock
      simp only [Array.getElem?_modify]
      rw [if_neg (Ne.symm hb)]
  have := Sat.grownS os.toList h2
  simpa [sortWorldK] using this
variable {P : Program} {ρ : Ren}
theorem sort_row (L : SlLaysF0.n6 P ρ) (aE : ∀ w, (isAgg (ρ.t 24)).run P w = .ok true w) (zE : ∀ w, (Go.sizeOf (ρ.t 24)).run P w = .ok k w) (enc : α → List Value) (hk : ∀ x, (enc x).length = k) (h1 : ∀ x, ∀ v ∈ enc x, v.oneCell' = true) (cf : α → α → Int) (hO : SWO (ltOf cf)) (hT : ∀ x y, (ltOf cf) x y = false → (ltOf cf) y x = false → x = y) (f : Nat) (cb : Array Value)
    (eg : ∀ args w, (callFunc f args).run P w = .ok (.enter f args) w) (hcmp : ∀ x y W, Calls P f (#[.agg (enc x).toArray, .agg (enc y).toArray] ++ cb) W fun e w' => e = .returned (.int .i64 (cf x y)) ∧ ∃ q os', w' = grow (W.drewN q) os')
    {v : Value} {l : List α} (hl : l.length = n) (hn : n ≤ maxLen / 4) (hw : Sat E w (HP.row e k v n (l.flatMap enc) * q)) :
    Calls P (ρ.f 6) #[v, .func (.func f) #[] cb] w fun r w' => r = .returned (.tuple #[]) ∧ Sat E w' (HP.row e k v n ((l.mergeSort fun x y => !(ltOf cf) y x).flatMap enc) * q) := by
  have hln : (l.mergeSort fun x y => !(ltOf cf) y x).length = n := by rw [List.length_mergeSort, hl]
  by_cases h0 : n = 0
  · have hnil : l = [] := List.eq_nil_of_length_eq_zero (by omega)
    subst hnil
    subst h0
    obtain ⟨A, c, rfl, -, -⟩ := hw.row_slice
    refine (AnyF.slices_SortFunc_none L A c _ w).mono ?_
    rintro r w' ⟨rfl, rfl⟩
    exact ⟨rfl, by simpa using hw⟩
  · rcases hw.row_cases.2 with ⟨A, -, hz, -⟩ | ⟨g, off, cap, cur, rfl, hnc, hcm, hsz, htk, hp⟩
    · exact absurd hz h0
    · have hfl := flatK_list enc k hk l
      have hsz1 : (flatK enc k l.toArray).size = n * k := by simp [hl]
      have hH : HoldsK enc k w g (off * k) l.toArray := by
        intro j hj
        rw [hsz1] at hj
        have hjc : off * k + j < cur.size := by
          have : (off + cap) * k = off * k + cap * k := Nat.add_mul _ _ _
          have := Nat.mul_le_mul_right k hnc
          omega
        refine ⟨?_, hp.thaw _⟩
        rw [hp.cell, Array.getElem?_eq_getElem hjc]
        have e1 := congrArg (fun l => l[j]?) (htk.trans hfl.symm)
        simp only [List.getElem?_take, if_pos hj, List.getElem?_drop, Array.getElem?_toList] at e1
        rw [Array.getElem?_eq_getElem hjc, Array.getElem?_eq_getElem (by rw [hsz1]; exact hj)] at e1
        rw [e1]
        simp [hj, hl]
      have hsl : l.toArray.size = n := by simpa using hl
      have hc := AnyQ.slices_SortFunc_total L k aE zE enc hk h1 cf hO f cb g (off * k) cap l.toArray w eg (fun m os dk hs x y => hcmp x y _) hH hp.lt (by rw [hsl]; unfold maxLen at hn; omega) hT
      rw [hsl] at hc
      refine hc.mono ?_
      rintro r w' ⟨rfl, m, os, rfl⟩
      refine ⟨rfl, ?_⟩
      simp only at hln ⊢
      have hsk : off * k + n * k ≤ cur.size := by
        have : (off + cap) * k = off * k + cap * k := Nat.add_mul _ _ _
        have := Nat.mul_le_mul_right k hnc
        omega
      have h3 := sat_sorted hk (l' := l.mergeSort fun x y => !(ltOf cf) y x) hp hln hsk m os
      refine h3.row_mk (n := n) (cap := cap) (off := off) (size := k) hnc hcm (by rw [put_size]; exact hsz) ?_
      have hs2 : (flatK enc k (l.mergeSort fun x y => !(ltOf cf) y x).toArray).size = n * k := by rw [size_flatK]; simp [hl]
      have := put_take (flatK enc k (l.mergeSort fun x y => !(ltOf cf) y x).toArray) (off * k) cur (by rw [hs2]; exact hsk)
      rw [hs2, flatK_list enc k hk] at this
      exact this
end
end Go.Proofs.YtnpinegpajbkeaaGreatDoor
namespace Go.Proofs.YtnpinegpajbkeaaGreatDoor
open Go.Shelf
def laysSpot_ren : Go.Shelf.Ren := ⟨fun | 6 => 123 | 15 => 154 | 14 => 153 | 28 => 179 | 29 => 180 | 20 => 171 | 21 => 172 | 22 => 173 | 23 => 174 | 24 => 175 | 25 => 176 | 26 => 177 | 27 => 178 | 46 => 196 | 47 => 197 | 48 => 198 | 49 => 199 | 50 => 200 | 57 => 206 | n => n, fun | 22 => 66 | 24 => 68 | 25 => 191 | 3 => 3 | 39 => 50 | 0 => 0 | 53 => 168 | 55 => 167 | 4 => 4 | 46 => 231 | 45 => 230 | 50 => 235 | 5 => 5 | 9 => 9 | 66 => 248 | 70 => 252 | 76 => 260 | 77 => 261 | n => n, fun | n => n⟩
theorem laysSpot : Go.Proofs.SlLaysF0.n6 Tryz.prog laysSpot_ren := {
  mixed := by kernel_rfl
  f6 := ⟨Tryz.f123.name, by decide, Tryz.func123.trans (congrArg some (by kernel_rfl))⟩
  f14 := ⟨Tryz.f153.name, by decide, Tryz.func153.trans (congrArg some (by kernel_rfl))⟩
  f15 := Tryz.func154.trans (congrArg some (by kernel_rfl))
  f20 := ⟨Tryz.f171.name, by decide, Tryz.func171.trans (congrArg some (by kernel_rfl))⟩
  f21 := ⟨Tryz.f172.name, by decide, Tryz.func172.trans (congrArg some (by kernel_rfl))⟩
  f22 := ⟨Tryz.f173.name, by decide, Tryz.func173.trans (congrArg some (by kernel_rfl))⟩
  f23 := ⟨Tryz.f174.name, by decide, Tryz.func174.trans (congrArg some (by kernel_rfl))⟩
  f24 := ⟨Tryz.f175.name, by decide, Tryz.func175.trans (congrArg some (by kernel_rfl))⟩
  f25 := ⟨Tryz.f176.name, by decide, Tryz.func176.trans (congrArg some (by kernel_rfl))⟩
  f26 := ⟨Tryz.f177.name, by decide, Tryz.func177.trans (congrArg some (by kernel_rfl))⟩
  f27 := ⟨Tryz.f178.name, by decide, Tryz.func178.trans (congrArg some (by kernel_rfl))⟩
  f28 := Tryz.func179.trans (congrArg some (by kernel_rfl))
  f29 := Tryz.func180.trans (congrArg some (by kernel_rfl))
  f46 := ⟨Tryz.f196.name, by decide, Tryz.func196.trans (congrArg some (by kernel_rfl))⟩
  f47 := Tryz.func197.trans (congrArg some (by kernel_rfl))
  f48 := Tryz.func198.trans (congrArg some (by kernel_rfl))
  f49 := ⟨Tryz.f199.name, by decide, Tryz.func199.trans (congrArg some (by kernel_rfl))⟩
  f50 := ⟨Tryz.f200.name, by decide, Tryz.func200.trans (congrArg some (by kernel_rfl))⟩
  f57 := ⟨Tryz.f206.name, by decide, Tryz.func206.trans (congrArg some (by kernel_rfl))⟩
  t0 := Tryz.underlying0
  a0 := Tryz.isAgg0
  z0 := Tryz.sizeOf0
  v0 := Tryz.zeroValue0
  t3 := Tryz.underlying3
  a3 := Tryz.isAgg3
  z3 := Tryz.sizeOf3
  v3 := Tryz.zeroValue3
  t4 := Tryz.underlying4
  a4 := Tryz.isAgg4
  z4 := Tryz.sizeOf4
  v4 := Tryz.zeroValue4
  t5 := Tryz.underlying5
  a5 := Tryz.isAgg5
  z5 := Tryz.sizeOf5
  v5 := Tryz.zeroValue5
  t9 := Tryz.underlying9
  a9 := Tryz.isAgg9
  z9 := Tryz.sizeOf9
  v9 := Tryz.zeroValue9
  t22 := Tryz.underlying66
  a22 := Tryz.isAgg66
  z22 := Tryz.sizeOf66
  v22 := Tryz.zeroValue66
  t25 := Tryz.underlying191
  a25 := Tryz.isAgg191
  z25 := Tryz.sizeOf191
  v25 := Tryz.zeroValue191
  t39 := Tryz.underlying50
  a39 := Tryz.isAgg50
  z39 := Tryz.sizeOf50
  v39 := Tryz.zeroValue50
  t45 := Tryz.underlying230
  a45 := Tryz.isAgg230
  z45 := Tryz.sizeOf230
  v45 := Tryz.zeroValue230
  t46 := Tryz.underlying231
  a46 := Tryz.isAgg231
  z46 := Tryz.sizeOf231
  v46 := Tryz.zeroValue231
  t50 := Tryz.underlying235
  a50 := Tryz.isAgg235
  z50 := Tryz.sizeOf235
  v50 := Tryz.zeroValue235
  t53 := Tryz.underlying168
  a53 := Tryz.isAgg168
  z53 := Tryz.sizeOf168
  v53 := Tryz.zeroValue168
  t55 := Tryz.underlying167
  a55 := Tryz.isAgg167
  z55 := Tryz.sizeOf167
  v55 := Tryz.zeroValue167
  t66 := Tryz.underlying248
  a66 := Tryz.isAgg248
  z66 := Tryz.sizeOf248
  v66 := Tryz.zeroValue248
  t70 := Tryz.underlying252
  a70 := Tryz.isAgg252
  z70 := Tryz.sizeOf252
  v70 := Tryz.zeroValue252
  t76 := Tryz.underlying260
  a76 := Tryz.isAgg260
  z76 := Tryz.sizeOf260
  v76 := Tryz.zeroValue260
  t77 := Tryz.underlying261
  a77 := Tryz.isAgg261
  z77 := Tryz.sizeOf261
  v77 := Tryz.zeroValue261 }
end Go.Proofs.YtnpinegpajbkeaaGreatDoor
