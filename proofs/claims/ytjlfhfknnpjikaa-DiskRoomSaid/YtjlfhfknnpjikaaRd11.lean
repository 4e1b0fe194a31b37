/- Texts of one claim, one behind the other: RefS3, RefT3, RefU3. -/
import Derived.Test.YtjlfhfknnpjikaaRd10
import Derived.Deep.CutBlock
/- dryrotref03: Crash, in plain words: how far the files have crashed. -/
namespace Go.Proofs.Ytjlfhfknnpjikaa
open Go.RowKit HP
set_option linter.unusedSimpArgs false
set_option linter.unusedVariables false

def crF (K : List Kep) (F : List (ByteArray × List Cel)) (k : Nat) : List (ByteArray × List Cel) := (F.take k).map (fun x => (x.1, crashL K x.1 x.2)) ++ F.drop k
theorem crF_zero (K : List Kep) (F : List (ByteArray × List Cel)) : crF K F 0 = F := by simp [crF]
theorem crF_end (K : List Kep) (F : List (ByteArray × List Cel)) : crF K F F.length = F.map (fun x => (x.1, crashL K x.1 x.2)) := by simp [crF]
theorem crF_step {K : List Kep} {F : List (ByteArray × List Cel)} {k : Nat} {x : ByteArray × List Cel} (h : F[k]? = some x) : (crF K F k)[k]? = some x ∧ (crF K F k).set k (x.1, crashL K x.1 x.2) = crF K F (k + 1) := by
  obtain ⟨hi, rfl⟩ := List.getElem?_eq_some_iff.1 h
  have hlen : ((F.take k).map (fun x => (x.1, crashL K x.1 x.2))).length = k := by simp; omega
  unfold crF
  constructor
  · rw [List.getElem?_append_right (by omega), hlen, Nat.sub_self, List.getElem?_drop, Nat.add_zero, h]
  · rw [List.set_append_right _ _ (by omega), hlen, Nat.sub_self, List.drop_eq_getElem_cons hi, List.set_cons_zero, List.take_succ_eq_append_getElem hi, List.map_append, List.append_assoc]
    rfl
theorem keepOf_first {K : List Kep} {s : ByteArray} {i : Int} {j : Nat} {k : Kep} (hj : K[j]? = some k) (hn : k.name = s) (hi : k.index = i) (hb : ∀ t < j, ∀ x, K[t]? = some x → ¬ (x.name = s ∧ x.index = i)) : keepOf K s i = clampK k.bytes := by
  unfold keepOf
  have : K.find? (fun k => decide (k.name = s) && decide (k.index = i)) = some k := by
    rw [List.find?_eq_some_iff_getElem]
    obtain ⟨hj2, rfl⟩ := List.getElem?_eq_some_iff.1 hj
    refine ⟨by simp [hn, hi], j, hj2, rfl, fun t ht => ?_⟩
    have h := hb t ht _ (List.getElem?_eq_getElem (by omega))
    simp
    by_cases h1 : K[t].name = s
    · exact .inr fun h2 => h ⟨h1, h2⟩
    · exact .inl h1
  rw [this]
theorem keepOf_none {K : List Kep} {s : ByteArray} {i : Int} (hb : ∀ t < K.length, ∀ x, K[t]? = some x → ¬ (x.name = s ∧ x.index = i)) : keepOf K s i = 0 := by
  unfold keepOf
  have : K.find? (fun k => decide (k.name = s) && decide (k.index = i)) = none := by
    rw [List.find?_eq_none]
    intro x hx
    obtain ⟨t, ht⟩ := List.getElem?_of_mem hx
    have := hb t (List.getElem?_eq_some_iff.1 ht).1 x ht
    simpa using this
  rw [this]
structure CrR (A : Dk) (F : List (ByteArray × List Cel)) (K : List Kep) (k : Nat) (nm : ByteArray) (l : List Cel) (VA : Option Addr) (vn VC i : Nat) (fs : List RF) (L : List (Value × List Int)) (f : RF) : Prop where
  at_ : fs[k]? = some f
  nm_ : f.name = nm
  val : f.val = .slice VA vn VC
  len : f.cs.length = vn
  cels : f.cs.map (·.c) = crP K nm l i
  view : RView { A with files := F.set k (nm, crP K nm l i) } fs L
  there : F[k]? = some (nm, l)
section
variable {A : Dk} {F : List (ByteArray × List Cel)} {K : List Kep} {k : Nat} {nm : ByteArray} {l : List Cel} {VA : Option Addr} {vn VC i : Nat} {fs : List RF} {L : List (Value × List Int)} {f : RF} {x : RC}
theorem CrR.cel (HR : CrR A F K k nm l VA vn VC i fs L f) (hx : f.cs[i]? = some x) : l[i]? = some x.c := by
  have h := congrArg (fun l => l[i]?) HR.cels
  simp only [List.getElem?_map, hx, Option.map_some] at h
  have hi : i < l.length := by
    have h1 := congrArg List.length HR.cels
    have h2 := (List.getElem?_eq_some_iff.1 hx).1
    rw [List.length_map] at h1
    by_cases hi : i < l.length
    · exact hi
    · exfalso
      unfold crP at h1
      rw [List.length_append, crashL_len, List.length_take, List.length_drop] at h1
      omega
  obtain ⟨c, hc⟩ : ∃ c, l[i]? = some c := ⟨_, List.getElem?_eq_getElem hi⟩
  rw [(crP_step hc).1] at h
  cases h; exact hc
theorem CrR.skip (HR : CrR A F K k nm l VA vn VC i fs L f) (hx : f.cs[i]? = some x) (hw : x.c.waits = false) : CrR A F K k nm l VA vn VC (i + 1) fs L f := by
  have hc := HR.cel hx
  have e : crP K nm l (i + 1) = crP K nm l i := by
    have h := (crP_step (K := K) (s := nm) hc).2
    have e1 : x.c.crashd (keepOf K nm i) = x.c := by unfold Cel.crashd; rw [hw]; rfl
    rw [e1, set_self (crP_step hc).1] at h
    exact h.symm
  exact ⟨HR.at_, HR.nm_, HR.val, HR.len, by rw [e]; exact HR.cels, by rw [e]; exact HR.view, HR.there⟩
theorem CrR.step (HR : CrR A F K k nm l VA vn VC i fs L f) (hx : f.cs[i]? = some x) (hw : x.c.waits = true) {m : Nat} (hm : (m : Int) = keepOf K nm i) {V1 V2 : Value} :
    CrR A F K k nm l VA vn VC (i + 1) (setRC fs k i (⟨⟨x.c.written.take m ++ x.c.durable.drop m, x.c.written.take m ++ x.c.durable.drop m, x.c.synced, x.c.written, false⟩, V2, V1, x.vs, x.vw⟩ : RC)) ((V2, x.c.written.take m ++ x.c.durable.drop m) :: (V1, x.c.written.take m ++ x.c.durable.drop m) :: L)
      { f with cs := f.cs.set i (⟨⟨x.c.written.take m ++ x.c.durable.drop m, x.c.written.take m ++ x.c.durable.drop m, x.c.synced, x.c.written, false⟩, V2, V1, x.vs, x.vw⟩ : RC) } := by
  obtain ⟨X, hX⟩ : ∃ X : RC, X = ⟨⟨x.c.written.take m ++ x.c.durable.drop m, x.c.written.take m ++ x.c.durable.drop m, x.c.synced, x.c.written, false⟩, V2, V1, x.vs, x.vw⟩ := ⟨_, rfl⟩
  have hl := HR.cel hx
  have hXc : X.c = x.c.crashd (keepOf K nm i) := by rw [hX]; unfold Cel.crashd; rw [hw, ← hm]; rfl
  have hfin := HR.view.cs_fine (List.mem_of_getElem? HR.at_) x (List.mem_of_getElem? hx)
  have hin := HR.view.imgs f (List.mem_of_getElem? HR.at_) x (List.mem_of_getElem? hx)
  have hkr := keepOf_range K nm i
  have hfX : X.c.Fine := by rw [hXc]; exact Cel.crashd_fine hfin hkr
  rw [← hX]
  have hcels : (f.cs.set i X).map (·.c) = crP K nm l (i + 1) := by
    rw [List.map_set, HR.cels, hXc]
    exact (crP_step hl).2
  refine ⟨(setRC_at HR.at_ (List.getElem?_eq_some_iff.1 hx).1).1, HR.nm_, HR.val, by rw [← HR.len]; exact List.length_set, hcels, ?_, HR.there⟩
  have hv := HR.view.setRC HR.at_ hx (x' := X) (L' := (V2, x.c.written.take m ++ x.c.durable.drop m) :: (V1, x.c.written.take m ++ x.c.durable.drop m) :: L) (fun z hz => List.mem_cons_of_mem _ (List.mem_cons_of_mem _ hz)) (by
    rw [hX]
    exact ⟨List.mem_cons_self .., List.mem_cons_of_mem _ (List.mem_cons_self ..), List.mem_cons_of_mem _ (List.mem_cons_of_mem _ hin.2.2.1), List.mem_cons_of_mem _ (List.mem_cons_of_mem _ hin.2.2.2)⟩) hfX
  have hlt : k < F.length := (List.getElem?_eq_some_iff.1 HR.there).1
  have e : (({ A with files := F.set k (nm, crP K nm l i) } : Dk).set f.name ((f.cs.map (·.c)).set i X.c)) = { A with files := F.set k (nm, crP K nm l (i + 1)) } := by
    unfold Dk.set
    dsimp only
    rw [HR.nm_, putF_at (k := k) (u := crP K nm l i) HR.view.fine.sorted (by simp [hlt]), List.set_set, HR.cels, hXc, (crP_step hl).2]
  rw [e] at hv
  exact hv
end
end Go.Proofs.Ytjlfhfknnpjikaa
/- dryrotref03: Crash. -/
namespace Go.Proofs.Ytjlfhfknnpjikaa
open Go.RowKit HP
set_option linter.unusedSimpArgs false
set_option linter.unusedVariables false

theorem b8s_app (a b : List Int) : b8s (a ++ b) = b8s a ++ b8s b := by unfold b8s; rw [List.map_append]
theorem kep_get {K : List Kep} {j : Nat} {k : Kep} (h : K[j]? = some k) : (kepCells K)[j * 3]? = some (.string k.name) ∧ (kepCells K)[j * 3 + 1]? = some (.int .i64 k.index) ∧ (kepCells K)[j * 3 + 2]? = some (.int .i64 k.bytes) := by
  have hg := fun t (ht : t < 3) => flat_get Kep.vals 3 K (fun _ => rfl) j t k h ht
  have h0 := hg 0 (by omega)
  have h1 := hg 1 (by omega)
  have h2 := hg 2 (by omega)
  exact ⟨by simpa [Kep.vals, kepCells] using h0, by simpa [Kep.vals, kepCells] using h1, by simpa [Kep.vals, kepCells] using h2⟩
set_option maxHeartbeats 16000000 in
set_option maxRecDepth 100000 in
theorem ref_crash (E : Env) (q : HP) (y : Nat) (A : Dk) (Ak : Option Addr) (K : List Kep) (ck : Nat) (w : World) (hK : K.length ≤ maxLen) (hwf : ∀ k ∈ K, k.name.size ≤ maxLen ∧ wf64 k.index ∧ wf64 k.bytes) (hq : ∀ E w, Sat E w q → Cells w Ak (kepCells K)) (hw : Sat E w (HP.rdisk y A * q)) :
    Calls Try.prog 54 #[.pointer (some ⟨y, 0, none⟩), .slice Ak K.length ck] w fun e w' => e = .returned (.int .i64 0) ∧ Sat E w' (HP.rdisk y (A.crash K) * q) := by
  obtain ⟨v, fs, L, hv, hk⟩ := hw.rdisk_open
  clear hw
  obtain ⟨FA, cF, rfl, hcF, hcM⟩ := hk.rdk_parts.s2.row_slice
  obtain ⟨n, hn⟩ : ∃ n, n = fs.length := ⟨_, rfl⟩
  have hfl := hv.flen
  have HNA : Aside (n = A.files.length) := ⟨by rw [hn, hv.len]⟩
  rw [← hn] at hcF hk hfl
  have HN := Aside.mk hn
  obtain ⟨kn, hkn⟩ : ∃ kn, kn = K.length := ⟨_, rfl⟩
  unfold maxLen at hK
  rw [← hkn] at hK ⊢
  have HKN := Aside.mk hkn
  have HWF := Aside.mk hwf
  have HQ := Aside.mk hq
  obtain ⟨AR, hAR⟩ : ∃ AR, AR = A.crash K := ⟨_, rfl⟩
  rw [← hAR]
  have HAR := Aside.mk hAR
  obtain ⟨fuse, hfu⟩ : ∃ fuse, fuse = A.fuse := ⟨_, rfl⟩
  obtain ⟨room, hro⟩ : ∃ room, room = A.room := ⟨_, rfl⟩
  rw [← hfu, ← hro] at hk
  have HFR := Aside.mk (And.intro hfu hro)
  have HV0 : Aside (RView { A with files := crF K A.files 0 } fs L) := ⟨by rw [crF_zero]; exact hv⟩
  have HAt : Aside (∀ (s : ByteArray), (A.at s).length ≤ 100000) := ⟨fun s => at_small hv.fine s⟩
  have HSo := Aside.mk hv.fine.sorted
  have c1 := hk.rdk_parts.cell 1
  simp only [List.getElem?_toArray, List.getElem?_cons_zero, List.getElem?_cons_succ] at c1
  have HW := Aside.mk hk
  clear hn hk hv hkn hwf hq hAR hfu hro
  go_enter Try.func54, Try.ntmps54
  go_wp2
  go_loopw [17] (fun v17 wr => ∃ (k : Nat) (fs' : List RF) (L' : List (Value × List Int)), k ≤ n ∧ v17 = .int .i64 k ∧ Aside (n = fs'.length) ∧ Aside (RView { A with files := crF K A.files k } fs' L') ∧ Aside (Sat E wr (HP.rdk y room fuse (.slice FA n cF) fs' L' * q))) (fun i _ => n - (intOf i).toNat)
  case atStart => exact ⟨0, fs, L, Nat.zero_le _, rfl, HN, HV0, HW⟩
  case round =>
    clear HW c1 HN HV0
    obtain ⟨k, fs', L', hk, rfl, HN, HV, HS⟩ := hrel
    by_cases hlt : k < n
    · have hlt2 : (k : Int) < (n : Int) := by omega
      have h0 : (0 : Int) ≤ (k : Int) := by omega
      obtain ⟨f, hf⟩ : ∃ f, fs'[k]? = some f := ⟨_, List.getElem?_eq_getElem (by rw [← HN.out]; exact hlt)⟩
      obtain ⟨g, o, VA, VC, rfl, hval, hvc, g0, g1⟩ := HS.out.rf_at HN.out hf
      obtain ⟨z, hz⟩ : ∃ z, A.files[k]? = some z := ⟨_, List.getElem?_eq_getElem (by rw [← HNA.out]; exact hlt)⟩
      obtain ⟨nm, l⟩ := z
      have hzF := (crF_step (K := K) hz).1
      have hkF : (crF K A.files k)[k]? = some (f.name, f.cs.map (·.c)) := by
        have h := congrArg (fun l => l[k]?) HV.out.same
        simp only [List.getElem?_map, hf, Option.map_some] at h
        exact h.symm
      rw [hzF] at hkF
      simp only [Option.some.injEq, Prod.mk.injEq] at hkF
      obtain ⟨hnm, hl⟩ := hkF
      obtain ⟨vn, hvn⟩ : ∃ vn, vn = f.cs.length := ⟨_, rfl⟩
      rw [← hvn] at g1 hval hvc
      rw [← hnm] at g0
      have hvs : vn ≤ 100000 := by
        have := HAt.out nm
        have e : A.at nm = l := by unfold Dk.at; rw [lk_first HSo.out hz]; rfl
        rw [e, hl, List.length_map] at this
        omega
      have HCR : Aside (CrR A (crF K A.files k) K k nm l VA vn VC 0 fs' L' f) := ⟨hf, hnm.symm, hval, hvn.symm, by rw [crP_zero, hl], by rw [crP_zero, set_self hzF]; exact HV.out, hzF⟩
      have HZ := Aside.mk hz
      have HB := Aside.mk (HS.out.alloc (.cells #[.string nm, .slice VA vn VC] 93))
      obtain ⟨BF, hBF⟩ : ∃ BF, BF = wr.heap.size := ⟨_, rfl⟩
      rw [← hBF] at HB
      have HBF := Aside.mk hBF
      clear hBF hz hzF hnm hl hvn hval hf HV
      go_wp2
      rw [← HBF.out]
      clear g0 g1
      generalize World.alloc wr _ = wb at *
      have HB2 : Aside (Sat E wb (HP.rdk y room fuse (.slice (some ⟨g, o, none⟩) n cF) fs' L' * (HP.pt BF (.cells #[.string nm, .slice VA vn VC] 93) * q))) := ⟨HB.out.perm (by ac_rfl)⟩
      clear HB HS
      go_loopw [24] (fun v24 wi => ∃ (i : Nat) (fs' : List RF) (L' : List (Value × List Int)) (f : RF), i ≤ vn ∧ v24 = .int .i64 i ∧ Aside (n = fs'.length) ∧ Aside (CrR A (crF K A.files k) K k nm l VA vn VC i fs' L' f) ∧ Aside (Sat E wi (HP.rdk y room fuse (.slice (some ⟨g, o, none⟩) n cF) fs' L' * (HP.pt BF (.cells #[.string nm, .slice VA vn VC] 93) * q)))) (fun i _ => vn - (intOf i).toNat)
      case atStart => exact ⟨0, fs', L', f, Nat.zero_le _, rfl, HN, HCR, HB2⟩
      case round =>
        clear HB2 HCR HN
        obtain ⟨i, fs', L', f, hi, rfl, HN, HCR, HS⟩ := hrel
        by_cases hil : i < vn
        · have hil2 : (i : Int) < (vn : Int) := by omega
          have hi0 : (0 : Int) ≤ (i : Int) := by omega
          obtain ⟨x, hx⟩ : ∃ x, f.cs[i]? = some x := ⟨_, List.getElem?_eq_getElem (by rw [HCR.out.len]; exact hil)⟩
          have hval := HCR.out.val
          obtain ⟨gc, oc, rfl, x0, x1, x2, x3, x4⟩ := HS.out.rc_at HCR.out.at_ hval hx
          have b0 := HS.out.s2.cell 0
          have b1 := HS.out.s2.cell 1
          simp only [List.getElem?_toArray, List.getElem?_cons_zero, List.getElem?_cons_succ] at b0 b1
          have HF := Aside.mk (And.intro HCR.out.at_ (And.intro hval hx))
          obtain ⟨wt, hwt⟩ : ∃ wt, wt = x.c.waits := ⟨_, rfl⟩
          rw [← hwt] at x4
          have HWT := Aside.mk hwt
          clear hx hval hwt
          cases wt with
          | false =>
            have HCR2 := Aside.mk (HCR.out.skip HF.out.2.2 HWT.out.symm)
            go_wp2
            go_roundw
            case rel => exact ⟨i + 1, fs', L', f, by omega, by go_num, HN, HCR2, HS⟩
            case measure => simp [intOf]; omega
          | true =>
            have hin := HCR.out.view.imgs f (List.mem_of_getElem? HCR.out.at_) x (List.mem_of_getElem? HF.out.2.2)
            have HFin := Aside.mk (HCR.out.view.cs_fine (List.mem_of_getElem? HCR.out.at_) x (List.mem_of_getElem? HF.out.2.2))
            obtain ⟨DA, DC, hxd, hdc, hdm, hdC⟩ := HS.out.rdk_imgs.img hin.2.1
            obtain ⟨WA, WC, hxw, hwc, hwm, hwC⟩ := HS.out.rdk_imgs.img hin.2.2.2
            obtain ⟨gd, od, rfl⟩ : ∃ g o, DA = some ⟨g, o, none⟩ := by
              obtain ⟨pa, hpa, -⟩ := hdC.at_ 0 (by rw [b8s_length, HFin.out.2.1]; omega)
              obtain ⟨g, o, rfl⟩ : ∃ g o, pa = ⟨g, o, none⟩ := slice_addr hdC hpa (k := 0) (by rw [b8s_length, HFin.out.2.1]; omega)
              exact ⟨g, o, hpa⟩
            obtain ⟨gw, ow, rfl⟩ : ∃ g o, WA = some ⟨g, o, none⟩ := by
              obtain ⟨pa, hpa, -⟩ := hwC.at_ 0 (by rw [b8s_length, HFin.out.2.2.2]; omega)
              obtain ⟨g, o, rfl⟩ : ∃ g o, pa = ⟨g, o, none⟩ := slice_addr hwC hpa (k := 0) (by rw [b8s_length, HFin.out.2.2.2]; omega)
              exact ⟨g, o, hpa⟩
            have HX := Aside.mk (And.intro hxd hxw)
            have HIN := Aside.mk hin
            clear hin hdC hwC hxd hxw
            go_upto_block 4 with fail
            go_cut [9] from 38 to 57 (fun s9 wx => ∃ m : Nat, s9 = .int .i64 m ∧ m ≤ 128 ∧ Aside ((m : Int) = keepOf K nm i) ∧ Aside (Sat E wx (HP.rdk y room fuse (.slice (some ⟨g, o, none⟩) n cF) fs' L' * (HP.pt BF (.cells #[.string nm, .slice (some ⟨gc, oc, none⟩) vn VC] 93) * q))))
            case first =>
              clear x0 x1 x2 x3 x4 b1
              go_wp2
              go_loopw [9, 38] (fun v9 v38 wk => ∃ j : Nat, v9 = .int .i64 0 ∧ j ≤ kn ∧ v38 = .int .i64 j ∧ Aside (∀ t < j, ∀ x, K[t]? = some x → ¬ (x.name = nm ∧ x.index = i)) ∧ Aside (Sat E wk (HP.rdk y room fuse (.slice (some ⟨g, o, none⟩) n cF) fs' L' * (HP.pt BF (.cells #[.string nm, .slice (some ⟨gc, oc, none⟩) vn VC] 93) * q)))) (fun _ j _ => kn - (intOf j).toNat)
              case atStart => exact ⟨0, rfl, Nat.zero_le _, rfl, ⟨fun t ht => by omega⟩, HS⟩
              case round =>
                clear HS b0
                obtain ⟨j, rfl, hj, rfl, HNO, HS⟩ := hrel
                by_cases hjl : j < kn
                · have hjl2 : (j : Int) < (kn : Int) := by omega
                  have hj0 : (0 : Int) ≤ (j : Int) := by omega
                  obtain ⟨kp, hkp⟩ : ∃ x, K[j]? = some x := ⟨_, List.getElem?_eq_getElem (by rw [← HKN.out]; exact hjl)⟩
                  have hKc := HQ.out _ _ HS.out.right.right
                  obtain ⟨e0, e1, e2⟩ := kep_get hkp
                  obtain ⟨gk, ok, hAk⟩ : ∃ g o, Ak = some ⟨g, o, none⟩ := by
                    obtain ⟨a, ha, -⟩ := hKc _ _ e0
                    obtain ⟨g, o, rfl⟩ : ∃ g o, a = ⟨g, o, none⟩ := slice_addr hKc ha (List.getElem?_eq_some_iff.1 e0).1
                    exact ⟨g, o, ha⟩
                  rw [hAk] at hKc
                  have k0 := hKc.some_ _ _ e0
                  have k1 := hKc.some_ _ _ e1
                  have k2 := hKc.some_ _ _ e2
                  rw [addr_add] at k0 k1 k2
                  rw [← Nat.add_assoc] at k1 k2
                  have HB := Aside.mk (HS.out.alloc (.cells #[.string kp.name, .int .i64 kp.index, .int .i64 kp.bytes] 59)).right
                  have b0 := HB.out.s2.cell 0
                  simp only [List.getElem?_toArray, List.getElem?_cons_zero, List.getElem?_cons_succ] at b0
                  obtain ⟨-, hwi, hwb⟩ := HWF.out kp (List.mem_of_getElem? hkp)
                  unfold wf64 at hwi hwb
                  obtain ⟨kname, hkname⟩ : ∃ z, z = kp.name := ⟨_, rfl⟩
                  obtain ⟨kidx, hkidx⟩ : ∃ z, z = kp.index := ⟨_, rfl⟩
                  obtain ⟨kb, hkb⟩ : ∃ z, z = kp.bytes := ⟨_, rfl⟩
                  rw [← hkname] at k0 HB b0
                  rw [← hkidx] at k1 HB b0 hwi
                  rw [← hkb] at k2 HB b0 hwb
                  have HKP := Aside.mk (And.intro hkp (And.intro hkname (And.intro hkidx hkb)))
                  clear hKc e0 e1 e2 hkp hkname hkidx hkb HS
                  subst hAk
                  by_cases hm1 : (kname.toList == nm.toList) = true
                  · have HE1 : Aside (kname = nm) := ⟨toList_inj (by simpa using hm1)⟩
                    by_cases hm2 : kidx = (i : Int)
                    · have HM : Aside (keepOf K nm i = clampK kb) := ⟨by
                        have h := keepOf_first HKP.out.1 (by rw [← HKP.out.2.1]; exact HE1.out) (by rw [← HKP.out.2.2.1]; exact hm2) HNO.out
                        rw [h, HKP.out.2.2.2]⟩
                      subst hm2
                      by_cases hb0 : kb < 0
                      · have HM2 : Aside (((0 : Nat) : Int) = keepOf K nm i) := ⟨by rw [HM.out]; unfold clampK; omega⟩
                        go_wp2
                        go_meet
                        case rel => exact ⟨0, rfl, by omega, HM2, HB⟩
                      · by_cases hb1 : 128 < kb
                        · have HM2 : Aside (((128 : Nat) : Int) = keepOf K nm i) := ⟨by rw [HM.out]; unfold clampK; omega⟩
                          go_wp2
                          go_meet
                          case rel => exact ⟨128, rfl, by omega, HM2, HB⟩
                        · obtain ⟨m, hm⟩ := Int.eq_ofNat_of_zero_le (show 0 ≤ kb by omega)
                          subst hm
                          have HM2 : Aside (((m : Nat) : Int) = keepOf K nm i) := ⟨by rw [HM.out]; unfold clampK; omega⟩
                          go_wp2
                          go_meet
                          case rel => exact ⟨m, rfl, by omega, HM2, HB⟩
                    · have HNO2 : Aside (∀ t < j + 1, ∀ x, K[t]? = some x → ¬ (x.name = nm ∧ x.index = i)) := ⟨fun t ht z hz => by
                        rcases Nat.lt_or_ge t j with h | h
                        · exact HNO.out t h z hz
                        · obtain rfl : t = j := by omega
                          rw [HKP.out.1] at hz; cases hz
                          rintro ⟨-, h2⟩
                          exact hm2 (by rw [HKP.out.2.2.1]; exact h2)⟩
                      go_wp2
                      go_roundw
                      case rel => exact ⟨j + 1, rfl, by omega, by go_num, HNO2, HB⟩
                      case measure => simp [intOf]; omega
                  · have HNO2 : Aside (∀ t < j + 1, ∀ x, K[t]? = some x → ¬ (x.name = nm ∧ x.index = i)) := ⟨fun t ht z hz => by
                      rcases Nat.lt_or_ge t j with h | h
                      · exact HNO.out t h z hz
                      · obtain rfl : t = j := by omega
                        rw [HKP.out.1] at hz; cases hz
                        rintro ⟨h1, -⟩
                        exact hm1 (by rw [HKP.out.2.1, h1]; simp)⟩
                    have hm1 : (kname.toList == nm.toList) = false := by simpa using hm1
                    go_wp2
                    go_roundw
                    case rel => exact ⟨j + 1, rfl, by omega, by go_num, HNO2, HB⟩
                    case measure => simp [intOf]; omega
                · obtain rfl : j = kn := by omega
                  have HM2 : Aside (((0 : Nat) : Int) = keepOf K nm i) := ⟨by rw [keepOf_none (by rw [← HKN.out]; exact HNO.out)]; rfl⟩
                  go_wp2
                  go_meet
                  case rel => exact ⟨0, rfl, by omega, HM2, HS⟩
            clear b0 b1 x0 x1 x2 x3 x4 HS
            obtain ⟨m, rfl, hm, HM, HS⟩ := hcut
            have hm0 : (0 : Int) ≤ (m : Int) := by omega
            have hmI : (m : Int) ≤ 128 := by omega
            have hmw : (m : Int) ≤ (WC : Int) := by omega
            have hdI : (128 : Int) ≤ (DC : Int) := by omega
            have HC : Aside (∀ W, Sat E W (HP.rdk y room fuse (.slice (some ⟨g, o, none⟩) n cF) fs' L' * (HP.pt BF (.cells #[.string nm, .slice (some ⟨gc, oc, none⟩) vn VC] 93) * q)) → W.cell? ⟨gc, oc + i * 5 + 3, none⟩ = some (.slice (some ⟨gw, ow, none⟩) 128 WC) ∧ W.cell? ⟨gc, oc + i * 5 + 1, none⟩ = some (.slice (some ⟨gd, od, none⟩) 128 DC) ∧ Cells W (some ⟨gw, ow, none⟩) (b8s (x.c.written.take m)) ∧ Cells W (some ⟨gd, od + m, none⟩) (b8s (x.c.durable.drop m))) := ⟨fun W h => by
              obtain ⟨t0, t1, t2, t3, t4⟩ := h.rc_cell HF.out.1 HF.out.2.1 HF.out.2.2
              rw [HX.out.1] at t1
              rw [HX.out.2] at t3
              have hw := h.rdk_imgs.img_cells (by rw [← HX.out.2]; exact HIN.out.2.2.2)
              have hd := h.rdk_imgs.img_cells (by rw [← HX.out.1]; exact HIN.out.2.1)
              refine ⟨t3, t1, ?_, ?_⟩
              · have := hw.take m; unfold b8s at this ⊢; rw [List.map_take]; exact this
              · have := hd.drop m; rw [addr_add] at this; unfold b8s at this ⊢; rw [List.map_drop]; exact this⟩
            have hil5 : i * 5 + 5 ≤ f.cs.length * 5 := by have := (List.getElem?_eq_some_iff.1 HF.out.2.2).1; omega
            go_upto_region 16 with fail
            go_cut [] from 58 to 75 (fun wx => ∃ (A15 : Option Addr) (c15 : Nat), Aside (Sat E wx (HP.row 5 1 (.slice A15 128 c15) 128 (b8s (x.c.written.take m ++ x.c.durable.drop m)) * (HP.rdk y room fuse (.slice (some ⟨g, o, none⟩) n cF) (setRC fs' k i (⟨x.c, x.vr, .slice A15 128 c15, x.vs, x.vw⟩ : RC)) L' * (HP.pt BF (.cells #[.string nm, .slice (some ⟨gc, oc, none⟩) vn VC] 93) * q)))))
            case first =>
              by_cases hm128 : m < 128
              · have hdm2 : ¬ DC = m := by omega
                have hdm3 : ¬ (DC : Int) = (m : Int) := by omega
                have hmd : m ≤ 128 := by omega
                refine region_R [1, 8, 15, 18] [1, 8] (fun W => Sat E W (HP.rdk y room fuse (.slice (some ⟨g, o, none⟩) n cF) fs' L' * (HP.pt BF (.cells #[.string nm, .slice (some ⟨gc, oc, none⟩) vn VC] 93) * q))) #[false, false, false, false, false, false, false, false, false, false, false, false, false, false, false, false, false, false, false] (by kernel_rfl) rfl rfl ?_
                have HT : Aside ((fun W => Sat E W (HP.rdk y room fuse (.slice (some ⟨g, o, none⟩) n cF) fs' L' * (HP.pt BF (.cells #[.string nm, .slice (some ⟨gc, oc, none⟩) vn VC] 93) * q))) _) := ⟨HS.out.drew⟩
                refine wpR_pu 0 #[true, false, false, false, false, false, false, false, false, false, false, false, false, false, false, false, false, false, false] rfl onlyN_noPanic (by kernel_rfl) (fun K hK => ?_); (go_simp; try go_bits); refine hK _ ?_; clear hK K
                refine wpR_pu 2 #[true, false, true, false, false, false, false, false, false, false, false, false, false, false, false, false, false, false, false] rfl onlyN_noPanic (by kernel_rfl) (fun K hK => ?_); (go_simp; try go_bits); refine hK _ ?_; clear hK K
                refine wpR_pu 3 #[true, false, true, true, false, false, false, false, false, false, false, false, false, false, false, false, false, false, false] rfl onlyN_noPanic (by kernel_rfl) (fun K hK => ?_); (go_simp; try go_bits); refine hK _ ?_; clear hK K
                refine wpR_pu 4 #[true, false, true, true, true, false, false, false, false, false, false, false, false, false, false, false, false, false, false] rfl onlyN_noPanic (by kernel_rfl) (fun K hK => ?_); (go_simp; try go_bits); refine hK _ ?_; clear hK K
                refine wpR_held (i := 5) (v := .slice (some ⟨gw, ow, none⟩) 128 WC) #[true, false, true, true, true, true, false, false, false, false, false, false, false, false, false, false, false, false, false] rfl onlyN_noPanic (by kernel_rfl) HT.out (.inl ⟨rfl, fun w' hT => ?_⟩) ?_
                · obtain ⟨t1, t2, -⟩ := HC.out _ hT; go_simp
                simp only [Act.put, List.setIfInBounds_toArray, List.set_cons_zero, List.set_cons_succ]
                refine wpR_pu 6 #[true, false, true, true, true, true, true, false, false, false, false, false, false, false, false, false, false, false, false] rfl onlyN_noPanic (by kernel_rfl) (fun K hK => ?_); (go_simp; try go_bits); refine hK _ ?_; clear hK K
                refine wpR_pu 7 #[true, false, true, true, true, true, true, true, false, false, false, false, false, false, false, false, false, false, false] rfl onlyN_noPanic (by kernel_rfl) (fun K hK => ?_); (go_simp; try go_bits); refine hK _ ?_; clear hK K
                refine wpR_pu 9 #[true, false, true, true, true, true, true, true, false, true, false, false, false, false, false, false, false, false, false] rfl onlyN_noPanic (by kernel_rfl) (fun K hK => ?_); (go_simp; try go_bits); refine hK _ ?_; clear hK K
                refine wpR_pu 10 #[true, false, true, true, true, true, true, true, false, true, true, false, false, false, false, false, false, false, false] rfl onlyN_noPanic (by kernel_rfl) (fun K hK => ?_); (go_simp; try go_bits); refine hK _ ?_; clear hK K
                refine wpR_pu 11 #[true, false, true, true, true, true, true, true, false, true, true, true, false, false, false, false, false, false, false] rfl onlyN_noPanic (by kernel_rfl) (fun K hK => ?_); (go_simp; try go_bits); refine hK _ ?_; clear hK K
                refine wpR_held (i := 12) (v := .slice (some ⟨gd, od, none⟩) 128 DC) #[true, false, true, true, true, true, true, true, false, true, true, true, true, false, false, false, false, false, false] rfl onlyN_noPanic (by kernel_rfl) HT.out (.inl ⟨rfl, fun w' hT => ?_⟩) ?_
                · obtain ⟨t1, t2, -⟩ := HC.out _ hT; go_simp
                simp only [Act.put, List.setIfInBounds_toArray, List.set_cons_zero, List.set_cons_succ]
                refine wpR_pu 13 #[true, false, true, true, true, true, true, true, false, true, true, true, true, true, false, false, false, false, false] rfl onlyN_noPanic (by kernel_rfl) (fun K hK => ?_); (go_simp; try go_bits); refine hK _ ?_; clear hK K
                refine wpR_pu 14 #[true, false, true, true, true, true, true, true, false, true, true, true, true, true, true, false, false, false, false] rfl onlyN_noPanic (by kernel_rfl) (fun K hK => ?_); (go_simp; try go_bits); refine hK _ ?_; clear hK K
                clear HT
                have HS0 := Aside.mk HS.out.drew
                clear HS
                revert HS0
                generalize World.drew wc = W0
                intro HS0
                refine wpR_keep #[true, true, true, true, true, true, true, true, false, true, true, true, true, true, true, false, false, false, false] (i := 1) rfl (by kernel_rfl) (fun K hK => ?_)
                go_simp
                obtain ⟨W1, hW1⟩ : ∃ x, x = World.alloc W0 (.cells #[] 5) := ⟨_, rfl⟩
                obtain ⟨gE, hgE⟩ : ∃ x, x = Array.size (World.heap W0) := ⟨_, rfl⟩
                have hn1 : Sat E W1 (HP.rdk y room fuse (.slice (some ⟨g, o, none⟩) n cF) fs' L' * (HP.pt BF (.cells #[.string nm, .slice (some ⟨gc, oc, none⟩) vn VC] 93) * q)) := by rw [hW1]; exact (HS0.out.alloc _).right
                rw [← hW1, ← hgE]
                refine hK _ _ (by first | exact hn1 | exact (Sat.right hn1) | exact (Sat.right (Sat.right hn1))) ?_
                clear hK K hW1 hgE
                have HS1 : Aside (Sat E W1 (HP.rdk y room fuse (.slice (some ⟨g, o, none⟩) n cF) fs' L' * (HP.pt BF (.cells #[.string nm, .slice (some ⟨gc, oc, none⟩) vn VC] 93) * q))) := ⟨hn1.perm (by ac_rfl)⟩
                clear hn1
                refine wpR_keep #[true, true, true, true, true, true, true, true, true, true, true, true, true, true, true, false, false, false, false] (i := 8) rfl (by kernel_rfl) (fun K hK => ?_)
                refine Eq.mpr (if_pos (by rfl)) ?_
                refine wp_append_row (v := .slice (some ⟨gE, 0, none⟩) 0 0) (n := 0) (cs := []) (A := some ⟨gw, ow, none⟩) (m := m) (c := WC) (news := b8s (x.c.written.take m)) slB8 rfl rfl rfl (HS1.out.row_nil 5 1 _) (HC.out _ (by first | exact HS1.out | exact (Sat.right HS1.out) | exact (Sat.right (Sat.right HS1.out)))).2.2.1 (by rw [b8s_length, List.length_take, HFin.out.2.2.2]; omega) (b8s_one _) (by unfold maxLen; omega) (by omega) (fun v8 W2 hn2 => ?_)
                rw [List.nil_append, Nat.zero_add] at hn2
                refine hK _ _ (by first | exact hn2 | exact (Sat.right hn2) | exact (Sat.right (Sat.right hn2))) ?_
                clear hK K
                have HS2 : Aside (Sat E W2 (HP.row 5 1 v8 m (b8s (x.c.written.take m)) * (HP.rdk y room fuse (.slice (some ⟨g, o, none⟩) n cF) fs' L' * (HP.pt BF (.cells #[.string nm, .slice (some ⟨gc, oc, none⟩) vn VC] 93) * q)))) := ⟨hn2.perm (by ac_rfl)⟩
                clear hn2 HS1
                refine wpR_eff #[true, true, true, true, true, true, true, true, true, true, true, true, true, true, true, true, false, false, false] (i := 15) rfl (by kernel_rfl) (fun K hK => ?_)
                refine Eq.mpr (if_pos (by rfl)) ?_
                refine wp_append_row (v := v8) (n := m) (cs := b8s (x.c.written.take m)) (A := some ⟨gd, od + m, none⟩) (m := 128 - m) (c := DC - m) (news := b8s (x.c.durable.drop m)) slB8 rfl rfl rfl HS2.out ((HC.out _ (by first | exact HS2.out | exact (Sat.right HS2.out) | exact (Sat.right (Sat.right HS2.out)))).2.2.2) (by rw [b8s_length, List.length_drop, HFin.out.2.1]; omega) (b8s_one _) (by unfold maxLen; omega) (by omega) (fun v15 W3 hn3 => ?_)
                rw [show m + (128 - m) = 128 by omega, ← b8s_app] at hn3
                obtain ⟨A15, c15, rfl, -, -⟩ := hn3.row_slice
                refine hK _ _ ?_
                clear hK K
                have HS3 : Aside (Sat E W3 (HP.row 5 1 (.slice A15 128 c15) 128 (b8s (x.c.written.take m ++ x.c.durable.drop m)) * (HP.rdk y room fuse (.slice (some ⟨g, o, none⟩) n cF) fs' L' * (HP.pt BF (.cells #[.string nm, .slice (some ⟨gc, oc, none⟩) vn VC] 93) * q)))) := ⟨hn3.perm (by ac_rfl)⟩
                clear hn3 HS2
                refine wpR_rd 16 #[true, true, true, true, true, true, true, true, true, true, true, true, true, true, true, true, true, false, false] rfl onlyN_noPanic (by kernel_rfl) (fun K hK => ?_); (go_simp; try go_bits); refine hK _ ?_; clear hK K
                refine wpR_rd 17 #[true, true, true, true, true, true, true, true, true, true, true, true, true, true, true, true, true, true, false] rfl onlyN_noPanic (by kernel_rfl) (fun K hK => ?_); (go_simp; try go_bits); refine hK _ ?_; clear hK K
                refine wpR_eff #[true, true, true, true, true, true, true, true, true, true, true, true, true, true, true, true, true, true, true] (i := 18) rfl (by kernel_rfl) (fun K hK => ?_)
                have hn4a : Sat E W3 (HP.rdk y room fuse (.slice (some ⟨g, o, none⟩) n cF) fs' L' * (HP.row 5 1 (.slice A15 128 c15) 128 (b8s (x.c.written.take m ++ x.c.durable.drop m)) * (HP.pt BF (.cells #[.string nm, .slice (some ⟨gc, oc, none⟩) vn VC] 93) * q))) := HS3.out.perm (by ac_rfl)
                have hn4b := Sat.rc_store (u := .slice A15 128 c15) HF.out.1 HF.out.2.1 HF.out.2.2 (⟨x.c, x.vr, .slice A15 128 c15, x.vs, x.vw⟩ : RC) (t := 1) (by omega) rfl hn4a
                have t9 := (hn4a.rc_cell HF.out.1 HF.out.2.1 HF.out.2.2).2.1
                have z9 := Sat.rc_thaw (t := i * 5 + 1) HF.out.1 HF.out.2.1 (by omega) hn4a
                rw [← Nat.add_assoc] at hn4b z9
                go_simp
                obtain ⟨W4, hW4⟩ : ∃ x, x = World.setCell W3 ⟨gc, oc + i * 5 + 1, none⟩ (.slice A15 128 c15) := ⟨_, rfl⟩
                rw [← hW4] at hn4b
                have hn4 : Sat E W4 (HP.row 5 1 (.slice A15 128 c15) 128 (b8s (x.c.written.take m ++ x.c.durable.drop m)) * (HP.rdk y room fuse (.slice (some ⟨g, o, none⟩) n cF) (setRC fs' k i (⟨x.c, x.vr, .slice A15 128 c15, x.vs, x.vw⟩ : RC)) L' * (HP.pt BF (.cells #[.string nm, .slice (some ⟨gc, oc, none⟩) vn VC] 93) * q))) := hn4b.perm (by ac_rfl)
                rw [← hW4]
                refine hK _ _ ?_
                clear hK K hW4 t9 z9 hn4a hn4b
                have HS4 : Aside (Sat E W4 (HP.row 5 1 (.slice A15 128 c15) 128 (b8s (x.c.written.take m ++ x.c.durable.drop m)) * (HP.rdk y room fuse (.slice (some ⟨g, o, none⟩) n cF) (setRC fs' k i (⟨x.c, x.vr, .slice A15 128 c15, x.vs, x.vw⟩ : RC)) L' * (HP.pt BF (.cells #[.string nm, .slice (some ⟨gc, oc, none⟩) vn VC] 93) * q)))) := ⟨hn4.perm (by ac_rfl)⟩
                clear hn4 HS3
                refine wpR_done (by kernel_rfl) ?_ _
                simp only [OnlyN]
                have HS9 := HS4
                clear HS4
                go_wp2
                go_meet
                case rel => exact ⟨A15, c15, HS9⟩
              · obtain rfl : m = 128 := by omega
                have hmw8 : (128 : Int) ≤ (WC : Int) := by omega
                have HDN : Aside (b8s (x.c.durable.drop 128) = []) := ⟨by rw [List.drop_eq_nil_of_le (by rw [HFin.out.2.1]; omega)]; rfl⟩
                by_cases hd128 : DC = 128
                · subst hd128
                  refine region_R [1, 8, 15, 18] [1, 8] (fun W => Sat E W (HP.rdk y room fuse (.slice (some ⟨g, o, none⟩) n cF) fs' L' * (HP.pt BF (.cells #[.string nm, .slice (some ⟨gc, oc, none⟩) vn VC] 93) * q))) #[false, false, false, false, false, false, false, false, false, false, false, false, false, false, false, false, false, false, false] (by kernel_rfl) rfl rfl ?_
                  have HT : Aside ((fun W => Sat E W (HP.rdk y room fuse (.slice (some ⟨g, o, none⟩) n cF) fs' L' * (HP.pt BF (.cells #[.string nm, .slice (some ⟨gc, oc, none⟩) vn VC] 93) * q))) _) := ⟨HS.out.drew⟩
                  refine wpR_pu 0 #[true, false, false, false, false, false, false, false, false, false, false, false, false, false, false, false, false, false, false] rfl onlyN_noPanic (by kernel_rfl) (fun K hK => ?_); (go_simp; try go_bits); refine hK _ ?_; clear hK K
                  refine wpR_pu 2 #[true, false, true, false, false, false, false, false, false, false, false, false, false, false, false, false, false, false, false] rfl onlyN_noPanic (by kernel_rfl) (fun K hK => ?_); (go_simp; try go_bits); refine hK _ ?_; clear hK K
                  refine wpR_pu 3 #[true, false, true, true, false, false, false, false, false, false, false, false, false, false, false, false, false, false, false] rfl onlyN_noPanic (by kernel_rfl) (fun K hK => ?_); (go_simp; try go_bits); refine hK _ ?_; clear hK K
                  refine wpR_pu 4 #[true, false, true, true, true, false, false, false, false, false, false, false, false, false, false, false, false, false, false] rfl onlyN_noPanic (by kernel_rfl) (fun K hK => ?_); (go_simp; try go_bits); refine hK _ ?_; clear hK K
                  refine wpR_held (i := 5) (v := .slice (some ⟨gw, ow, none⟩) 128 WC) #[true, false, true, true, true, true, false, false, false, false, false, false, false, false, false, false, false, false, false] rfl onlyN_noPanic (by kernel_rfl) HT.out (.inl ⟨rfl, fun w' hT => ?_⟩) ?_
                  · obtain ⟨t1, t2, -⟩ := HC.out _ hT; go_simp
                  simp only [Act.put, List.setIfInBounds_toArray, List.set_cons_zero, List.set_cons_succ]
                  refine wpR_pu 6 #[true, false, true, true, true, true, true, false, false, false, false, false, false, false, false, false, false, false, false] rfl onlyN_noPanic (by kernel_rfl) (fun K hK => ?_); (go_simp; try go_bits); refine hK _ ?_; clear hK K
                  refine wpR_pu 7 #[true, false, true, true, true, true, true, true, false, false, false, false, false, false, false, false, false, false, false] rfl onlyN_noPanic (by kernel_rfl) (fun K hK => ?_); (go_simp; try go_bits); refine hK _ ?_; clear hK K
                  refine wpR_pu 9 #[true, false, true, true, true, true, true, true, false, true, false, false, false, false, false, false, false, false, false] rfl onlyN_noPanic (by kernel_rfl) (fun K hK => ?_); (go_simp; try go_bits); refine hK _ ?_; clear hK K
                  refine wpR_pu 10 #[true, false, true, true, true, true, true, true, false, true, true, false, false, false, false, false, false, false, false] rfl onlyN_noPanic (by kernel_rfl) (fun K hK => ?_); (go_simp; try go_bits); refine hK _ ?_; clear hK K
                  refine wpR_pu 11 #[true, false, true, true, true, true, true, true, false, true, true, true, false, false, false, false, false, false, false] rfl onlyN_noPanic (by kernel_rfl) (fun K hK => ?_); (go_simp; try go_bits); refine hK _ ?_; clear hK K
                  refine wpR_held (i := 12) (v := .slice (some ⟨gd, od, none⟩) 128 128) #[true, false, true, true, true, true, true, true, false, true, true, true, true, false, false, false, false, false, false] rfl onlyN_noPanic (by kernel_rfl) HT.out (.inl ⟨rfl, fun w' hT => ?_⟩) ?_
                  · obtain ⟨t1, t2, -⟩ := HC.out _ hT; go_simp
                  simp only [Act.put, List.setIfInBounds_toArray, List.set_cons_zero, List.set_cons_succ]
                  refine wpR_pu 13 #[true, false, true, true, true, true, true, true, false, true, true, true, true, true, false, false, false, false, false] rfl onlyN_noPanic (by kernel_rfl) (fun K hK => ?_); (go_simp; try go_bits); refine hK _ ?_; clear hK K
                  refine wpR_pu 14 #[true, false, true, true, true, true, true, true, false, true, true, true, true, true, true, false, false, false, false] rfl onlyN_noPanic (by kernel_rfl) (fun K hK => ?_); (go_simp; try go_bits); refine hK _ ?_; clear hK K
                  clear HT
                  have HS0 := Aside.mk HS.out.drew
                  clear HS
                  revert HS0
                  generalize World.drew wc = W0
                  intro HS0
                  refine wpR_keep #[true, true, true, true, true, true, true, true, false, true, true, true, true, true, true, false, false, false, false] (i := 1) rfl (by kernel_rfl) (fun K hK => ?_)
                  go_simp
                  obtain ⟨W1, hW1⟩ : ∃ x, x = World.alloc W0 (.cells #[] 5) := ⟨_, rfl⟩
                  obtain ⟨gE, hgE⟩ : ∃ x, x = Array.size (World.heap W0) := ⟨_, rfl⟩
                  have hn1 : Sat E W1 (HP.rdk y room fuse (.slice (some ⟨g, o, none⟩) n cF) fs' L' * (HP.pt BF (.cells #[.string nm, .slice (some ⟨gc, oc, none⟩) vn VC] 93) * q)) := by rw [hW1]; exact (HS0.out.alloc _).right
                  rw [← hW1, ← hgE]
                  refine hK _ _ (by first | exact hn1 | exact (Sat.right hn1) | exact (Sat.right (Sat.right hn1))) ?_
                  clear hK K hW1 hgE
                  have HS1 : Aside (Sat E W1 (HP.rdk y room fuse (.slice (some ⟨g, o, none⟩) n cF) fs' L' * (HP.pt BF (.cells #[.string nm, .slice (some ⟨gc, oc, none⟩) vn VC] 93) * q))) := ⟨hn1.perm (by ac_rfl)⟩
                  clear hn1
                  refine wpR_keep #[true, true, true, true, true, true, true, true, true, true, true, true, true, true, true, false, false, false, false] (i := 8) rfl (by kernel_rfl) (fun K hK => ?_)
                  refine Eq.mpr (if_pos (by rfl)) ?_
                  refine wp_append_row (v := .slice (some ⟨gE, 0, none⟩) 0 0) (n := 0) (cs := []) (A := some ⟨gw, ow, none⟩) (m := 128) (c := WC) (news := b8s (x.c.written.take 128)) slB8 rfl rfl rfl (HS1.out.row_nil 5 1 _) (HC.out _ (by first | exact HS1.out | exact (Sat.right HS1.out) | exact (Sat.right (Sat.right HS1.out)))).2.2.1 (by rw [b8s_length, List.length_take, HFin.out.2.2.2]; omega) (b8s_one _) (by unfold maxLen; omega) (by omega) (fun v8 W2 hn2 => ?_)
                  rw [List.nil_append, Nat.zero_add] at hn2
                  refine hK _ _ (by first | exact hn2 | exact (Sat.right hn2) | exact (Sat.right (Sat.right hn2))) ?_
                  clear hK K
                  have HS2 : Aside (Sat E W2 (HP.row 5 1 v8 128 (b8s (x.c.written.take 128)) * (HP.rdk y room fuse (.slice (some ⟨g, o, none⟩) n cF) fs' L' * (HP.pt BF (.cells #[.string nm, .slice (some ⟨gc, oc, none⟩) vn VC] 93) * q)))) := ⟨hn2.perm (by ac_rfl)⟩
                  clear hn2 HS1
                  refine wpR_eff #[true, true, true, true, true, true, true, true, true, true, true, true, true, true, true, true, false, false, false] (i := 15) rfl (by kernel_rfl) (fun K hK => ?_)
                  refine Eq.mpr (if_pos (by rfl)) ?_
                  refine wp_append_row (v := v8) (n := 128) (cs := b8s (x.c.written.take 128)) (A := some ⟨gd, od, none⟩) (m := 0) (c := 0) (news := b8s (x.c.durable.drop 128)) slB8 rfl rfl rfl HS2.out (by rw [HDN.out]; exact Cells.nil _ _) (by rw [HDN.out]; rfl) (b8s_one _) (by unfold maxLen; omega) (by omega) (fun v15 W3 hn3 => ?_)
                  rw [Nat.add_zero, ← b8s_app] at hn3
                  obtain ⟨A15, c15, rfl, -, -⟩ := hn3.row_slice
                  refine hK _ _ ?_
                  clear hK K
                  have HS3 : Aside (Sat E W3 (HP.row 5 1 (.slice A15 128 c15) 128 (b8s (x.c.written.take 128 ++ x.c.durable.drop 128)) * (HP.rdk y room fuse (.slice (some ⟨g, o, none⟩) n cF) fs' L' * (HP.pt BF (.cells #[.string nm, .slice (some ⟨gc, oc, none⟩) vn VC] 93) * q)))) := ⟨hn3.perm (by ac_rfl)⟩
                  clear hn3 HS2
                  refine wpR_rd 16 #[true, true, true, true, true, true, true, true, true, true, true, true, true, true, true, true, true, false, false] rfl onlyN_noPanic (by kernel_rfl) (fun K hK => ?_); (go_simp; try go_bits); refine hK _ ?_; clear hK K
                  refine wpR_rd 17 #[true, true, true, true, true, true, true, true, true, true, true, true, true, true, true, true, true, true, false] rfl onlyN_noPanic (by kernel_rfl) (fun K hK => ?_); (go_simp; try go_bits); refine hK _ ?_; clear hK K
                  refine wpR_eff #[true, true, true, true, true, true, true, true, true, true, true, true, true, true, true, true, true, true, true] (i := 18) rfl (by kernel_rfl) (fun K hK => ?_)
                  have hn4a : Sat E W3 (HP.rdk y room fuse (.slice (some ⟨g, o, none⟩) n cF) fs' L' * (HP.row 5 1 (.slice A15 128 c15) 128 (b8s (x.c.written.take 128 ++ x.c.durable.drop 128)) * (HP.pt BF (.cells #[.string nm, .slice (some ⟨gc, oc, none⟩) vn VC] 93) * q))) := HS3.out.perm (by ac_rfl)
                  have hn4b := Sat.rc_store (u := .slice A15 128 c15) HF.out.1 HF.out.2.1 HF.out.2.2 (⟨x.c, x.vr, .slice A15 128 c15, x.vs, x.vw⟩ : RC) (t := 1) (by omega) rfl hn4a
                  have t9 := (hn4a.rc_cell HF.out.1 HF.out.2.1 HF.out.2.2).2.1
                  have z9 := Sat.rc_thaw (t := i * 5 + 1) HF.out.1 HF.out.2.1 (by omega) hn4a
                  rw [← Nat.add_assoc] at hn4b z9
                  go_simp
                  obtain ⟨W4, hW4⟩ : ∃ x, x = World.setCell W3 ⟨gc, oc + i * 5 + 1, none⟩ (.slice A15 128 c15) := ⟨_, rfl⟩
                  rw [← hW4] at hn4b
                  have hn4 : Sat E W4 (HP.row 5 1 (.slice A15 128 c15) 128 (b8s (x.c.written.take 128 ++ x.c.durable.drop 128)) * (HP.rdk y room fuse (.slice (some ⟨g, o, none⟩) n cF) (setRC fs' k i (⟨x.c, x.vr, .slice A15 128 c15, x.vs, x.vw⟩ : RC)) L' * (HP.pt BF (.cells #[.string nm, .slice (some ⟨gc, oc, none⟩) vn VC] 93) * q))) := hn4b.perm (by ac_rfl)
                  rw [← hW4]
                  refine hK _ _ ?_
                  clear hK K hW4 t9 z9 hn4a hn4b
                  have HS4 : Aside (Sat E W4 (HP.row 5 1 (.slice A15 128 c15) 128 (b8s (x.c.written.take 128 ++ x.c.durable.drop 128)) * (HP.rdk y room fuse (.slice (some ⟨g, o, none⟩) n cF) (setRC fs' k i (⟨x.c, x.vr, .slice A15 128 c15, x.vs, x.vw⟩ : RC)) L' * (HP.pt BF (.cells #[.string nm, .slice (some ⟨gc, oc, none⟩) vn VC] 93) * q)))) := ⟨hn4.perm (by ac_rfl)⟩
                  clear hn4 HS3
                  refine wpR_done (by kernel_rfl) ?_ _
                  simp only [OnlyN]
                  have HS9 := HS4
                  clear HS4
                  go_wp2
                  go_meet
                  case rel => exact ⟨A15, c15, HS9⟩
                · have hdm3 : ¬ (DC : Int) = 128 := by omega
                  refine region_R [1, 8, 15, 18] [1, 8] (fun W => Sat E W (HP.rdk y room fuse (.slice (some ⟨g, o, none⟩) n cF) fs' L' * (HP.pt BF (.cells #[.string nm, .slice (some ⟨gc, oc, none⟩) vn VC] 93) * q))) #[false, false, false, false, false, false, false, false, false, false, false, false, false, false, false, false, false, false, false] (by kernel_rfl) rfl rfl ?_
                  have HT : Aside ((fun W => Sat E W (HP.rdk y room fuse (.slice (some ⟨g, o, none⟩) n cF) fs' L' * (HP.pt BF (.cells #[.string nm, .slice (some ⟨gc, oc, none⟩) vn VC] 93) * q))) _) := ⟨HS.out.drew⟩
                  refine wpR_pu 0 #[true, false, false, false, false, false, false, false, false, false, false, false, false, false, false, false, false, false, false] rfl onlyN_noPanic (by kernel_rfl) (fun K hK => ?_); (go_simp; try go_bits); refine hK _ ?_; clear hK K
                  refine wpR_pu 2 #[true, false, true, false, false, false, false, false, false, false, false, false, false, false, false, false, false, false, false] rfl onlyN_noPanic (by kernel_rfl) (fun K hK => ?_); (go_simp; try go_bits); refine hK _ ?_; clear hK K
                  refine wpR_pu 3 #[true, false, true, true, false, false, false, false, false, false, false, false, false, false, false, false, false, false, false] rfl onlyN_noPanic (by kernel_rfl) (fun K hK => ?_); (go_simp; try go_bits); refine hK _ ?_; clear hK K
                  refine wpR_pu 4 #[true, false, true, true, true, false, false, false, false, false, false, false, false, false, false, false, false, false, false] rfl onlyN_noPanic (by kernel_rfl) (fun K hK => ?_); (go_simp; try go_bits); refine hK _ ?_; clear hK K
                  refine wpR_held (i := 5) (v := .slice (some ⟨gw, ow, none⟩) 128 WC) #[true, false, true, true, true, true, false, false, false, false, false, false, false, false, false, false, false, false, false] rfl onlyN_noPanic (by kernel_rfl) HT.out (.inl ⟨rfl, fun w' hT => ?_⟩) ?_
                  · obtain ⟨t1, t2, -⟩ := HC.out _ hT; go_simp
                  simp only [Act.put, List.setIfInBounds_toArray, List.set_cons_zero, List.set_cons_succ]
                  refine wpR_pu 6 #[true, false, true, true, true, true, true, false, false, false, false, false, false, false, false, false, false, false, false] rfl onlyN_noPanic (by kernel_rfl) (fun K hK => ?_); (go_simp; try go_bits); refine hK _ ?_; clear hK K
                  refine wpR_pu 7 #[true, false, true, true, true, true, true, true, false, false, false, false, false, false, false, false, false, false, false] rfl onlyN_noPanic (by kernel_rfl) (fun K hK => ?_); (go_simp; try go_bits); refine hK _ ?_; clear hK K
                  refine wpR_pu 9 #[true, false, true, true, true, true, true, true, false, true, false, false, false, false, false, false, false, false, false] rfl onlyN_noPanic (by kernel_rfl) (fun K hK => ?_); (go_simp; try go_bits); refine hK _ ?_; clear hK K
                  refine wpR_pu 10 #[true, false, true, true, true, true, true, true, false, true, true, false, false, false, false, false, false, false, false] rfl onlyN_noPanic (by kernel_rfl) (fun K hK => ?_); (go_simp; try go_bits); refine hK _ ?_; clear hK K
                  refine wpR_pu 11 #[true, false, true, true, true, true, true, true, false, true, true, true, false, false, false, false, false, false, false] rfl onlyN_noPanic (by kernel_rfl) (fun K hK => ?_); (go_simp; try go_bits); refine hK _ ?_; clear hK K
                  refine wpR_held (i := 12) (v := .slice (some ⟨gd, od, none⟩) 128 DC) #[true, false, true, true, true, true, true, true, false, true, true, true, true, false, false, false, false, false, false] rfl onlyN_noPanic (by kernel_rfl) HT.out (.inl ⟨rfl, fun w' hT => ?_⟩) ?_
                  · obtain ⟨t1, t2, -⟩ := HC.out _ hT; go_simp
                  simp only [Act.put, List.setIfInBounds_toArray, List.set_cons_zero, List.set_cons_succ]
                  refine wpR_pu 13 #[true, false, true, true, true, true, true, true, false, true, true, true, true, true, false, false, false, false, false] rfl onlyN_noPanic (by kernel_rfl) (fun K hK => ?_); (go_simp; try go_bits); refine hK _ ?_; clear hK K
                  refine wpR_pu 14 #[true, false, true, true, true, true, true, true, false, true, true, true, true, true, true, false, false, false, false] rfl onlyN_noPanic (by kernel_rfl) (fun K hK => ?_); (go_simp; try go_bits); refine hK _ ?_; clear hK K
                  clear HT
                  have HS0 := Aside.mk HS.out.drew
                  clear HS
                  revert HS0
                  generalize World.drew wc = W0
                  intro HS0
                  refine wpR_keep #[true, true, true, true, true, true, true, true, false, true, true, true, true, true, true, false, false, false, false] (i := 1) rfl (by kernel_rfl) (fun K hK => ?_)
                  go_simp
                  obtain ⟨W1, hW1⟩ : ∃ x, x = World.alloc W0 (.cells #[] 5) := ⟨_, rfl⟩
                  obtain ⟨gE, hgE⟩ : ∃ x, x = Array.size (World.heap W0) := ⟨_, rfl⟩
                  have hn1 : Sat E W1 (HP.rdk y room fuse (.slice (some ⟨g, o, none⟩) n cF) fs' L' * (HP.pt BF (.cells #[.string nm, .slice (some ⟨gc, oc, none⟩) vn VC] 93) * q)) := by rw [hW1]; exact (HS0.out.alloc _).right
                  rw [← hW1, ← hgE]
                  refine hK _ _ (by first | exact hn1 | exact (Sat.right hn1) | exact (Sat.right (Sat.right hn1))) ?_
                  clear hK K hW1 hgE
                  have HS1 : Aside (Sat E W1 (HP.rdk y room fuse (.slice (some ⟨g, o, none⟩) n cF) fs' L' * (HP.pt BF (.cells #[.string nm, .slice (some ⟨gc, oc, none⟩) vn VC] 93) * q))) := ⟨hn1.perm (by ac_rfl)⟩
                  clear hn1
                  refine wpR_keep #[true, true, true, true, true, true, true, true, true, true, true, true, true, true, true, false, false, false, false] (i := 8) rfl (by kernel_rfl) (fun K hK => ?_)
                  refine Eq.mpr (if_pos (by rfl)) ?_
                  refine wp_append_row (v := .slice (some ⟨gE, 0, none⟩) 0 0) (n := 0) (cs := []) (A := some ⟨gw, ow, none⟩) (m := 128) (c := WC) (news := b8s (x.c.written.take 128)) slB8 rfl rfl rfl (HS1.out.row_nil 5 1 _) (HC.out _ (by first | exact HS1.out | exact (Sat.right HS1.out) | exact (Sat.right (Sat.right HS1.out)))).2.2.1 (by rw [b8s_length, List.length_take, HFin.out.2.2.2]; omega) (b8s_one _) (by unfold maxLen; omega) (by omega) (fun v8 W2 hn2 => ?_)
                  rw [List.nil_append, Nat.zero_add] at hn2
                  refine hK _ _ (by first | exact hn2 | exact (Sat.right hn2) | exact (Sat.right (Sat.right hn2))) ?_
                  clear hK K
                  have HS2 : Aside (Sat E W2 (HP.row 5 1 v8 128 (b8s (x.c.written.take 128)) * (HP.rdk y room fuse (.slice (some ⟨g, o, none⟩) n cF) fs' L' * (HP.pt BF (.cells #[.string nm, .slice (some ⟨gc, oc, none⟩) vn VC] 93) * q)))) := ⟨hn2.perm (by ac_rfl)⟩
                  clear hn2 HS1
                  refine wpR_eff #[true, true, true, true, true, true, true, true, true, true, true, true, true, true, true, true, false, false, false] (i := 15) rfl (by kernel_rfl) (fun K hK => ?_)
                  refine Eq.mpr (if_pos (by rfl)) ?_
                  refine wp_append_row (v := v8) (n := 128) (cs := b8s (x.c.written.take 128)) (A := some ⟨gd, od + 128, none⟩) (m := 0) (c := DC - 128) (news := b8s (x.c.durable.drop 128)) slB8 rfl rfl rfl HS2.out (by rw [HDN.out]; exact Cells.nil _ _) (by rw [HDN.out]; rfl) (b8s_one _) (by unfold maxLen; omega) (by omega) (fun v15 W3 hn3 => ?_)
                  rw [Nat.add_zero, ← b8s_app] at hn3
                  obtain ⟨A15, c15, rfl, -, -⟩ := hn3.row_slice
                  refine hK _ _ ?_
                  clear hK K
                  have HS3 : Aside (Sat E W3 (HP.row 5 1 (.slice A15 128 c15) 128 (b8s (x.c.written.take 128 ++ x.c.durable.drop 128)) * (HP.rdk y room fuse (.slice (some ⟨g, o, none⟩) n cF) fs' L' * (HP.pt BF (.cells #[.string nm, .slice (some ⟨gc, oc, none⟩) vn VC] 93) * q)))) := ⟨hn3.perm (by ac_rfl)⟩
                  clear hn3 HS2
                  refine wpR_rd 16 #[true, true, true, true, true, true, true, true, true, true, true, true, true, true, true, true, true, false, false] rfl onlyN_noPanic (by kernel_rfl) (fun K hK => ?_); (go_simp; try go_bits); refine hK _ ?_; clear hK K
                  refine wpR_rd 17 #[true, true, true, true, true, true, true, true, true, true, true, true, true, true, true, true, true, true, false] rfl onlyN_noPanic (by kernel_rfl) (fun K hK => ?_); (go_simp; try go_bits); refine hK _ ?_; clear hK K
                  refine wpR_eff #[true, true, true, true, true, true, true, true, true, true, true, true, true, true, true, true, true, true, true] (i := 18) rfl (by kernel_rfl) (fun K hK => ?_)
                  have hn4a : Sat E W3 (HP.rdk y room fuse (.slice (some ⟨g, o, none⟩) n cF) fs' L' * (HP.row 5 1 (.slice A15 128 c15) 128 (b8s (x.c.written.take 128 ++ x.c.durable.drop 128)) * (HP.pt BF (.cells #[.string nm, .slice (some ⟨gc, oc, none⟩) vn VC] 93) * q))) := HS3.out.perm (by ac_rfl)
                  have hn4b := Sat.rc_store (u := .slice A15 128 c15) HF.out.1 HF.out.2.1 HF.out.2.2 (⟨x.c, x.vr, .slice A15 128 c15, x.vs, x.vw⟩ : RC) (t := 1) (by omega) rfl hn4a
                  have t9 := (hn4a.rc_cell HF.out.1 HF.out.2.1 HF.out.2.2).2.1
                  have z9 := Sat.rc_thaw (t := i * 5 + 1) HF.out.1 HF.out.2.1 (by omega) hn4a
                  rw [← Nat.add_assoc] at hn4b z9
                  go_simp
                  obtain ⟨W4, hW4⟩ : ∃ x, x = World.setCell W3 ⟨gc, oc + i * 5 + 1, none⟩ (.slice A15 128 c15) := ⟨_, rfl⟩
                  rw [← hW4] at hn4b
                  have hn4 : Sat E W4 (HP.row 5 1 (.slice A15 128 c15) 128 (b8s (x.c.written.take 128 ++ x.c.durable.drop 128)) * (HP.rdk y room fuse (.slice (some ⟨g, o, none⟩) n cF) (setRC fs' k i (⟨x.c, x.vr, .slice A15 128 c15, x.vs, x.vw⟩ : RC)) L' * (HP.pt BF (.cells #[.string nm, .slice (some ⟨gc, oc, none⟩) vn VC] 93) * q))) := hn4b.perm (by ac_rfl)
                  rw [← hW4]
                  refine hK _ _ ?_
                  clear hK K hW4 t9 z9 hn4a hn4b
                  have HS4 : Aside (Sat E W4 (HP.row 5 1 (.slice A15 128 c15) 128 (b8s (x.c.written.take 128 ++ x.c.durable.drop 128)) * (HP.rdk y room fuse (.slice (some ⟨g, o, none⟩) n cF) (setRC fs' k i (⟨x.c, x.vr, .slice A15 128 c15, x.vs, x.vw⟩ : RC)) L' * (HP.pt BF (.cells #[.string nm, .slice (some ⟨gc, oc, none⟩) vn VC] 93) * q)))) := ⟨hn4.perm (by ac_rfl)⟩
                  clear hn4 HS3
                  refine wpR_done (by kernel_rfl) ?_ _
                  simp only [OnlyN]
                  have HS9 := HS4
                  clear HS4
                  go_wp2
                  go_meet
                  case rel => exact ⟨A15, c15, HS9⟩
            clear HS HC
            obtain ⟨A15, c15, HS⟩ := hcut
            obtain ⟨hF3, hi3⟩ := setRC_at (x := (⟨x.c, x.vr, .slice A15 128 c15, x.vs, x.vw⟩ : RC)) HF.out.1 (List.getElem?_eq_some_iff.1 HF.out.2.2).1
            have HF3 := Aside.mk (And.intro hF3 hi3)
            clear hF3 hi3
            have h10 := ((HS.out.alloc (.cells #[] 5)).right).row_nil 5 1 (some ⟨wc.heap.size, 0, none⟩)
            have hb15 := h10.right.row_cells
            have t10 := (h10.right.right.rc_cell HF3.out.1 HF.out.2.1 HF3.out.2).2.1
            have H10 := Aside.mk (And.intro h10 hb15)
            have HLN : Aside ((b8s (x.c.written.take m ++ x.c.durable.drop m)).length = 128) := ⟨by rw [b8s_length, List.length_append, List.length_take, List.length_drop, HFin.out.2.1, HFin.out.2.2.2]; omega⟩
            have HTH : Aside (∀ t, t < 5 → ∀ W r, Sat E W (HP.rdk y room fuse (.slice (some ⟨g, o, none⟩) n cF) (setRC fs' k i (⟨x.c, x.vr, .slice A15 128 c15, x.vs, x.vw⟩ : RC)) L' * r) → W.frozen? ⟨gc, oc + (i * 5 + t), none⟩ = false) := ⟨fun t ht W r h => Sat.rc_thaw HF3.out.1 HF.out.2.1 (by show _ < (f.cs.set i _).length * 5; rw [List.length_set]; omega) h⟩
            clear h10 hb15
            go_wp2_with (at_builtin; refine wpList_append_row slB8 rfl rfl (by rfl) (by rfl) H10.out.1 H10.out.2 (by rw [HLN.out]) (b8s_one _) (by unfold maxLen; omega) (by omega) (fun v7 w7 h7 => ?_); rw [List.nil_append, Nat.zero_add] at h7; obtain ⟨A7, c7, rfl, hc7, hm7⟩ := h7.row_slice; have H7 := Aside.mk h7; have h8 := h7.right.right; obtain ⟨t5, -, -, -, t7⟩ := h8.rc_cell HF3.out.1 HF.out.2.1 HF3.out.2; have z5 := HTH.out 0 (by omega) _ _ h8; have z7 := HTH.out 4 (by omega) _ _ h8; rw [Nat.add_zero] at z5; rw [← Nat.add_assoc] at z7; clear h7 h8)
            have hlt : i < f.cs.length := (List.getElem?_eq_some_iff.1 HF.out.2.2).1
            have s0 : Sat E w7 (HP.rdk y room fuse (.slice (some ⟨g, o, none⟩) n cF) (setRC fs' k i (⟨x.c, x.vr, .slice A15 128 c15, x.vs, x.vw⟩ : RC)) L' * (HP.row 5 1 (.slice A7 128 c7) 128 (b8s (x.c.written.take m ++ x.c.durable.drop m)) * (HP.row 5 1 (.slice A15 128 c15) 128 (b8s (x.c.written.take m ++ x.c.durable.drop m)) * (HP.pt BF (.cells #[.string nm, .slice (some ⟨gc, oc, none⟩) vn VC] 93) * q)))) := H7.out.perm (by ac_rfl)
            have s1 := Sat.rc_store (u := .slice A7 128 c7) HF3.out.1 HF.out.2.1 HF3.out.2 (⟨x.c, .slice A7 128 c7, .slice A15 128 c15, x.vs, x.vw⟩ : RC) (t := 0) (by omega) rfl s0
            rw [setRC_setRC] at s1
            obtain ⟨k2, i2⟩ := setRC_at (x := (⟨x.c, .slice A7 128 c7, .slice A15 128 c15, x.vs, x.vw⟩ : RC)) HF.out.1 hlt
            have s2 := Sat.rc_store (u := .bool false) k2 HF.out.2.1 i2 (⟨⟨(x.c.written.take m ++ x.c.durable.drop m), (x.c.written.take m ++ x.c.durable.drop m), x.c.synced, x.c.written, false⟩, .slice A7 128 c7, .slice A15 128 c15, x.vs, x.vw⟩ : RC) (t := 4) (by omega) rfl s1
            rw [setRC_setRC, Nat.add_zero, ← Nat.add_assoc] at s2
            have s4 := Sat.rdk_imgs_in (z := (.slice A15 128 c15, (x.c.written.take m ++ x.c.durable.drop m))) ((s2.perm (by ac_rfl) : Sat E _ (HP.rdk y room fuse (.slice (some ⟨g, o, none⟩) n cF) (setRC fs' k i (⟨⟨(x.c.written.take m ++ x.c.durable.drop m), (x.c.written.take m ++ x.c.durable.drop m), x.c.synced, x.c.written, false⟩, .slice A7 128 c7, .slice A15 128 c15, x.vs, x.vw⟩ : RC)) L' * (HP.row 5 1 (.slice A15 128 c15) 128 (b8s (x.c.written.take m ++ x.c.durable.drop m)) * (HP.row 5 1 (.slice A7 128 c7) 128 (b8s (x.c.written.take m ++ x.c.durable.drop m)) * (HP.pt BF (.cells #[.string nm, .slice (some ⟨gc, oc, none⟩) vn VC] 93) * q))))))
            have s5 := Sat.rdk_imgs_in (z := (.slice A7 128 c7, (x.c.written.take m ++ x.c.durable.drop m))) s4
            have HCR2 := Aside.mk (HCR.out.step HF.out.2.2 HWT.out.symm HM.out (V1 := .slice A15 128 c15) (V2 := .slice A7 128 c7))
            have HN2 : Aside (n = (setRC fs' k i (⟨⟨(x.c.written.take m ++ x.c.durable.drop m), (x.c.written.take m ++ x.c.durable.drop m), x.c.synced, x.c.written, false⟩, .slice A7 128 c7, .slice A15 128 c15, x.vs, x.vw⟩ : RC)).length) := ⟨by rw [setRC_len]; exact HN.out⟩
            have HS5 := Aside.mk s5
            clear s0 s1 s2 s4 s5 k2 i2 t5 t7 z5 z7 t10
            go_roundw
            case rel => exact ⟨i + 1, _, _, _, by omega, by go_num, HN2, HCR2, HS5⟩
            case measure => simp [intOf]; omega
        · obtain rfl : i = vn := by omega
          have HV2 : Aside (RView { A with files := crF K A.files (k + 1) } fs' L') := ⟨by
            have h := HCR.out.view
            have hll : l.length = i := by
              have h1 := congrArg List.length HCR.out.cels
              rw [List.length_map, HCR.out.len] at h1
              unfold crP at h1
              rw [List.length_append, crashL_len, List.length_take, List.length_drop] at h1
              omega
            have e := crP_end (K := K) (s := nm) (l := l)
            rw [hll] at e
            rw [e, (crF_step HZ.out).2] at h
            exact h⟩
          have HS2 : Aside (Sat E _ (HP.rdk y room fuse (.slice (some ⟨g, o, none⟩) n cF) fs' L' * q)) := ⟨(HS.out.perm (HP.left_comm _ _ _)).right⟩
          clear HCR HS
          go_wp2
          go_roundw
          case rel => exact ⟨k + 1, fs', L', by omega, by go_num, HN, HV2, HS2⟩
          case measure => simp [intOf]; omega
    · obtain rfl : k = n := by omega
      have y2 := HS.out.rdk_parts.cell 2
      have z2 := HS.out.rdk_parts.thaw 2
      simp only [List.getElem?_toArray, List.getElem?_cons_zero, List.getElem?_cons_succ] at y2
      have HS2 := Aside.mk (HS.out.rdk_burn (-1))
      go_wp2
      go_ret
      refine ⟨rfl, ?_⟩
      have hv := HV.out
      rw [HNA.out, crF_end] at hv
      have hv2 := hv.fuse (u := -1) (by omega)
      rw [HAR.out]
      refine Sat.rdisk_close (A := A.crash K) (v := .slice FA k cF) hv2 ?_
      have h := HS2.out
      rw [HFR.out.2] at h
      exact h
end Go.Proofs.Ytjlfhfknnpjikaa

/- dryrotref03: Copy, in plain words. -/
namespace Go.Proofs.Ytjlfhfknnpjikaa
open Go.RowKit HP
set_option linter.unusedSimpArgs false
set_option linter.unusedVariables false

structure CpR (A : Dk) (k : Nat) (fs : List RF) (L : List (Value × List Int)) : Prop where
  same : fs.map (fun f => (f.name, f.cs.map (·.c))) = A.files.take k
  imgs : ∀ f ∈ fs, ∀ x ∈ f.cs, x.In L
structure CpC (l : List Cel) (i : Nat) (cs : List RC) (L : List (Value × List Int)) : Prop where
  same : cs.map (·.c) = l.take i
  imgs : ∀ x ∈ cs, x.In L
theorem CpC.len {l : List Cel} {i : Nat} {cs : List RC} {L : List (Value × List Int)} (h : CpC l i cs L) (hi : i ≤ l.length) : cs.length = i := by
  have := congrArg List.length h.same
  rw [List.length_map, List.length_take] at this
  omega
theorem CpR.mono {A : Dk} {k : Nat} {fs : List RF} {L L' : List (Value × List Int)} (h : CpR A k fs L) (hL : ∀ z ∈ L, z ∈ L') : CpR A k fs L' := ⟨h.same, fun f hf x hx => rc_mono hL (h.imgs f hf x hx)⟩
theorem CpC.push {l : List Cel} {i : Nat} {cs : List RC} {L L' : List (Value × List Int)} (h : CpC l i cs L) {x : RC} (hx : l[i]? = some x.c) (hL : ∀ z ∈ L, z ∈ L') (hin : x.In L') : CpC l (i + 1) (cs ++ [x]) L' := by
  refine ⟨?_, fun z hz => ?_⟩
  · rw [take_snoc hx, List.map_append, h.same]; rfl
  · rcases List.mem_append.1 hz with hz | hz
    · exact rc_mono hL (h.imgs z hz)
    · obtain rfl := List.mem_singleton.1 hz
      exact hin
theorem CpR.push {A : Dk} {k : Nat} {fs : List RF} {L : List (Value × List Int)} (h : CpR A k fs L) {nm : ByteArray} {l : List Cel} {cs : List RC} {i : Nat} (hk : A.files[k]? = some (nm, l)) (hc : CpC l i cs L) (hi : i = l.length) (v : Value) : CpR A (k + 1) (fs ++ [⟨nm, v, cs⟩]) L := by
  subst hi
  have e := hc.same
  rw [List.take_length] at e
  refine ⟨?_, fun f hf x hx => ?_⟩
  · rw [take_snoc hk, List.map_append, h.same, ← e]; rfl
  · rcases List.mem_append.1 hf with hf | hf
    · exact h.imgs f hf x hx
    · obtain rfl := List.mem_singleton.1 hf
      exact hc.imgs x hx
theorem CpR.view {A : Dk} {fs : List RF} {L : List (Value × List Int)} (hF : A.Fine) (h : CpR A A.files.length fs L) : RView A fs L := ⟨by rw [h.same, List.take_length], h.imgs, hF⟩
theorem Sat.rdk_push {E : Env} {w : World} {r : HP} {O k : Nat} {room fuse : Int} {v2 V v : Value} {fs : List RF} {L : List (Value × List Int)} {nm : ByteArray} {cs : List RC} {i : Nat} (hk : k = fs.length) (hi : i = cs.length)
    (h : Sat E w (HP.row 93 2 V (k + 1) (fs.flatMap RF.vals ++ [.string nm, v]) * (HP.pt O (.cells #[.int .i64 room, v2, .int .i64 fuse] 96) * (HP.all (fs.map HP.rcs) * (HP.imgs L * (HP.row 90 5 v i (cs.flatMap RC.vals) * r)))))) :
    Sat E (w.setCell ⟨O, 1, none⟩ V) (HP.rdk O room fuse V (fs ++ [⟨nm, v, cs⟩]) L * r) := by
  refine Sat.rdk_files (v := v2) (N := k + 1) (by rw [List.length_append, hk]; rfl) ?_
  have e : HP.all ((fs ++ [(⟨nm, v, cs⟩ : RF)]).map HP.rcs) = HP.all (fs.map HP.rcs) * HP.row 90 5 v i (cs.flatMap RC.vals) := by
    rw [List.map_append, HP.all_append, List.map_cons, List.map_nil, HP.all_cons, HP.all_nil, HP.mul_emp, hi]; rfl
  have e2 : (fs ++ [(⟨nm, v, cs⟩ : RF)]).flatMap RF.vals = fs.flatMap RF.vals ++ [.string nm, v] := by
    rw [List.flatMap_append]; rfl
  rw [e, e2]
  exact h.perm (by ac_rfl)
theorem copy_imgs {E : Env} {w : World} {r : HP} {O : Nat} {room fuse : Int} {v v1 v2 v3 v4 : Value} {b1 b2 b3 b4 : List Int} {fs : List RF} {L : List (Value × List Int)} (h : Sat E w (HP.rdk O room fuse v fs L * (HP.row 5 1 v4 128 (b8s b4) * (HP.row 5 1 v3 128 (b8s b3) * (HP.row 5 1 v2 128 (b8s b2) * (HP.row 5 1 v1 128 (b8s b1) * r)))))) :
    Sat E w (HP.rdk O room fuse v fs ((v1, b1) :: (v2, b2) :: (v3, b3) :: (v4, b4) :: L) * r) := by
  have h1 := Sat.rdk_imgs_in (z := (v4, b4)) h
  have h2 := Sat.rdk_imgs_in (z := (v3, b3)) h1
  have h3 := Sat.rdk_imgs_in (z := (v2, b2)) h2
  exact Sat.rdk_imgs_in (z := (v1, b1)) h3
end Go.Proofs.Ytjlfhfknnpjikaa
