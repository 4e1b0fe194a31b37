/- (*Disk).Crash: the walk. -/
import Derived.Test.YtgdcdcacccaanaaRangeF
import Derived.Maps.OwnIn
namespace Go.Proofs.Ytgdcdcacccaanaa
open Go.RowKit HP
attribute [local go_sem] Oper.semAt_some
set_option linter.unusedSimpArgs false
set_option linter.unusedVariables false

set_option maxHeartbeats 4000000 in
set_option maxRecDepth 100000 in
theorem disk_crash (E : Env) (q : HP) (d : Nat) (A : Dk) (Ak : Option Addr) (K : List Kep) (ck : Nat) (w : World) (hK : K.length ≤ 9223372036854775807) (hwf : ∀ k ∈ K, k.name.size ≤ maxLen ∧ wf64 k.index ∧ wf64 k.bytes) (hq : ∀ E w, Sat E w q → Cells w Ak (kepCells K)) (hw : Sat E w (HP.disk d A * q)) :
    Calls Try.prog 15 #[.pointer (some ⟨d, 0, none⟩), .slice Ak K.length ck] w fun e w' => e = .returned (.int .i64 0) ∧ Sat E w' (HP.disk d (A.crash K) * q) := by
  obtain ⟨m, es, clock, fs, hv, hd⟩ := hw.disk_open
  clear hw
  refine calls_of_wp_marks Try.func15 rfl ?_
  simp only [Try.ntmps15, List.size_toArray, List.length_cons, List.length_nil, Nat.reduceAdd, Nat.reduceSub, Array.replicate_succ, Array.replicate_zero, List.push_toArray, List.append_toArray, List.nil_append, List.cons_append]
  go_wp2_with fail
  refine (disk_none E _ d _ _ m w (dk_parts hd)).mono ?_
  rintro e w1 ⟨rfl, rfl⟩
  have c2 := (dk_parts hd).cell 2
  simp only [List.getElem?_toArray, List.getElem?_cons_zero, List.getElem?_cons_succ] at c2
  have f2 := (dk_parts hd).thaw 2
  have hmm := @run_makeMap Try.prog
  have h3 := (dk_parts hd).set (i := 2) (.int .i64 (-1))
  go_wp2_with fail
  refine (backward_ok Ak K.length ck _).mono ?_
  rintro e w3 ⟨rfl, rfl⟩
  have hsz : (w1.setCell ⟨d, 2, none⟩ (.int .i64 (-1))).heap.size = w1.heap.size := by simp [World.setCell]
  have hS := ((h3.alloc (.map #[] 0)).alloc (.cells #[.map (some w1.heap.size)] 83)).alloc (.cells #[.slice Ak K.length ck] 30)
  simp only [World.size_alloc, hsz] at hS
  simp only [World.size_alloc, hsz]
  clear h3 hsz c2 f2 hmm
  generalize w1.heap.size = b0 at *
  generalize World.alloc (World.alloc _ _) _ = w4 at *
  go_wp2
  have hS1 : Sat E w4 (HP.keeps b0 (fun _ _ => 0) * (HP.pt (b0 + 1 + 1) (.cells #[.slice Ak K.length ck] 30) * (HP.pt (b0 + 1) (.cells #[.map (some b0)] 83) * (HP.dk d A.room (-1) m es clock fs * q)))) :=
    Sat.keeps_close SpotMap.empty (hS.perm (by unfold HP.dk HP.dsk; simp only [List.setIfInBounds_toArray, List.set_cons_zero, List.set_cons_succ]; ac_rfl))
  have hlt : b0 + 1 + 1 < w4.heap.size := hS.lt
  clear hS hd
  have hqk : ∀ (E' : Env) W p, Sat E' W (p * (HP.pt (b0 + 1 + 1) (.cells #[.slice Ak K.length ck] 30) * (HP.pt (b0 + 1) (.cells #[.map (some b0)] 83) * (HP.dk d A.room (-1) m es clock fs * q)))) → W.cell? ⟨b0 + 1 + 1, 0, none⟩ = some (.slice Ak K.length ck) ∧ W.heap[b0 + 1 + 1]? = some (.cells #[.slice Ak K.length ck] 30) := fun E' W p h => ⟨h.s2.cell 0, h.s2.get⟩
  have hqc : ∀ (E' : Env) W p, Sat E' W (p * (HP.pt (b0 + 1 + 1) (.cells #[.slice Ak K.length ck] 30) * (HP.pt (b0 + 1) (.cells #[.map (some b0)] 83) * (HP.dk d A.room (-1) m es clock fs * q)))) → W.cell? ⟨b0 + 1, 0, none⟩ = some (.map (some b0)) := fun E' W p h => h.s3.cell 0
  have hq' : ∀ (E' : Env) W p, Sat E' W (p * (HP.pt (b0 + 1 + 1) (.cells #[.slice Ak K.length ck] 30) * (HP.pt (b0 + 1) (.cells #[.map (some b0)] 83) * (HP.dk d A.room (-1) m es clock fs * q)))) → Cells W Ak (kepCells K) := fun E' W p h => hq E' W h.right.right.right.right
  refine wp_range_sat (α := { x : Nat // x < K.length }) rfl (enters_of Try.func63 (by kernel_rfl) rfl)
    (back_stops 19 (by omega) (b0 + 1 + 1) Ak K ck hK w4 hlt (hqk _ _ _ hS1).1 (hq' _ _ _ hS1)) (fun h k => h.trans k) (fun W l o o' hl ho h1 _ => KeepSl.put (by omega) ho h1 o')
    (fun E1 E2 W W' p p' h1 h2 => ⟨(hqk _ _ _ h2).2.trans (hqk _ _ _ h1).2.symm, fun _ => hq' _ _ _ h2⟩) (fun _ => rfl)
    (fun pre => HP.keeps b0 (keepFold K (sub1 pre))) (fun pre => HP.keeps_solid (by omega) _) hS1
    (fun x a' W => ∃ b, w4.heap.size ≤ b ∧ W.heap[b]? = some (.cells (kepA K x.1) 37) ∧ a' = { tmps := #[.pointer (some ⟨d, 0, none⟩), .slice Ak K.length ck, undef, undef, .int .i64 0, .pointer (some ⟨b0 + 1, 0, none⟩), undef, .pointer (some ⟨b, 0, none⟩), undef, undef, undef, undef, .pointer (some ⟨d, 0, none⟩), .bool false, .pointer (some ⟨d, 0, none⟩), .pointer (some ⟨d, 0, none⟩), .pointer (some ⟨d, 2, none⟩), .map (some b0), .slice Ak K.length ck, .func (Fn.func 63) #[] #[.pointer (some ⟨b0 + 1 + 1, 0, none⟩)], .int .i64 x.1, .agg (kepA K x.1), undef, undef, undef, undef, undef, undef, undef, undef, undef, undef, undef, undef, undef, undef, undef, undef, undef, undef, undef, undef, undef, undef, undef, undef, undef, undef, undef, undef, undef, undef, undef, undef, undef, undef, undef, undef, undef, undef, undef, undef, undef, undef, undef, undef, undef, undef, undef, undef, undef, undef, undef, undef, undef, undef, undef, undef, undef], defers := [] }) ?hAx ?assign ?body ?done
  case hAx =>
    rintro x a' s W W' row ⟨b, hb, ho, rfl⟩ hg hr
    refine ⟨b, hb, ?_, rfl⟩
    rw [hg.block b (Array.getElem?_eq_some_iff.1 ho).1 (fun e => ?_)]
    · exact ho
    · obtain ⟨-, o, h1, h2⟩ := hr b e.symm
      rw [ho] at h1; cases h1; cases h2
  case assign =>
    intro l x W K' hsz hK'
    obtain ⟨kp, hkp⟩ : ∃ kp, K[x.1]? = some kp := ⟨_, List.getElem?_eq_getElem x.2⟩
    have e1 : kepArgs K x.1 = #[.int .i64 x.1, .agg #[.string kp.name, .int .i64 kp.index, .int .i64 kp.bytes]] := by simp [kepArgs, hkp, Kep.vals]
    rw [e1]
    clear hq hq' hqk hqc hS1
    gi_wp2
    exact hK' _ _ ((Below.refl _ _).alloc (Nat.le_refl _) _) ⟨W.heap.size, hsz, by rw [heap_alloc_new]; simp [kepA, hkp, Kep.vals], by simp [kepA, hkp, Kep.vals]⟩
  case body =>
    rintro E' q' l pre x a' W hqq hI ⟨b, hbl, hbo, rfl⟩ hpre
    obtain ⟨kp, hkp⟩ : ∃ kp, K[x.1]? = some kp := ⟨_, List.getElem?_eq_getElem x.2⟩
    have e1 : kepA K x.1 = #[.string kp.name, .int .i64 kp.index, .int .i64 kp.bytes] := by simp [kepA, hkp, Kep.vals]
    rw [e1] at hbo ⊢
    obtain ⟨hk1, hk2, hk3⟩ := hwf kp (List.mem_of_getElem? hkp)
    have g0 := cell_of_row W b 0 _ _ _ hbo
    have g1 := cell_of_row W b 1 _ _ _ hbo
    have g2 := cell_of_row W b 2 _ _ _ hbo
    simp only [List.getElem?_toArray, List.getElem?_cons_zero, List.getElem?_cons_succ] at g0 g1 g2
    have c1 := hqc _ _ _ (hqq _ _ hI)
    obtain ⟨kes, kclock, hsm, hI2⟩ := hI.keeps_open
    obtain ⟨es', clock', hrun, hsm'⟩ := hsm.update hI2.get hk1 hk2 (v := clampK kp.bytes)
    have HT := Aside.mk (Sat.keeps_close hsm' (Sat.setBlk hI2 (.map es' clock')))
    have HX : Aside (keepFold K (sub1 (pre ++ [x])) = spotPut (keepFold K (sub1 pre)) kp.name kp.index (clampK kp.bytes)) := ⟨by rw [sub1_snoc, keepFold_snoc K _ x.1 kp hkp]⟩
    clear hq hq' hqk hqc hS1 hqq hI hI2 hsm hsm' hkp e1 hbo hwf
    have hcl : Aside ((if 128 < (if kp.bytes < 0 then 0 else kp.bytes) then 128 else if kp.bytes < 0 then 0 else kp.bytes) = clampK kp.bytes) := ⟨by unfold clampK; split <;> split <;> omega⟩
    gi_wp2_with (gi_at_mapUpdate; refine wpListIn_mapUpdate_run rfl rfl rfl rfl (congrArg (Value.int .i64) hcl.out) hrun ?_)
    all_goals
      show Sat E' _ _
      rw [HX.out]
      exact HT.out
  case done =>
    intro D xs W hxs hI
    have hxs : sub1 xs = _ := hxs
    rw [hxs, keepFold_all] at hI
    have hI2 : Sat E W (HP.dsk d A.room (-1) m * (HP.pt m (.map es clock) * (HP.all (fs.map HP.fil) * (HP.pt D (.deferred (some [])) * (HP.keeps b0 (keepOf K) * (HP.pt (b0 + 1) (.cells #[.map (some b0)] 83) * q)))))) := Sat.right (p := HP.pt (b0 + 1 + 1) (.cells #[.slice Ak K.length ck] 30)) (hI.perm (by unfold HP.dk; ac_rfl))
    clear hS1 hqk hqc hq' hxs hI hq
    have c1 := hI2.cell 1
    simp only [List.getElem?_toArray, List.getElem?_cons_zero, List.getElem?_cons_succ] at c1
    have hrg := run_range_map (P := Try.prog) (t := 68) Try.underlying68 hI2.s2.get
    have HS0 := Aside.mk (hI2.alloc (.mapIter (some m) clock #[] clock))
    clear hI2
    have HM := Aside.mk hv.map
    have hlen : es.toList.length = fs.length := by simpa using congrArg List.length hv.map.2.1
    have HV := Aside.mk (And.intro hv hlen)
    clear hv hlen
    go_wp2
    generalize W.heap.size = g at *
    generalize World.alloc _ _ = w0 at *
    go_loopw [8] (fun x8 wr => ∃ (seen : Array Nat) (c0 : Nat), clock ≤ c0 ∧ Aside (Sat E wr (HP.pt g (.mapIter (some m) clock seen c0) * (HP.dk d A.room (-1) m es clock (seenMap es seen (crashFil K) fs) * (HP.pt D (.deferred (some [])) * (HP.keeps b0 (keepOf K) * (HP.pt (b0 + 1) (.cells #[.map (some b0)] 83) * q)))))))
      (fun _ wr => match wr.heap[g]? with | some (.mapIter _ _ seen _) => (leftL es seen).length | _ => 0)
    case atStart => exact ⟨#[], clock, Nat.le_refl _, ⟨by rw [seenMap_start HV.out.2]; exact HS0.out.perm (by unfold HP.dk; ac_rfl)⟩⟩
    case round =>
      clear HS0 hrg c1
      obtain ⟨seen, c0, hc0, HS⟩ := hrel
      have hsame := seenMap_same (seen := seen) (g := crashFil K) (fun f => ⟨rfl, rfl⟩) HM.out
      rcases next_file hsame hc0 HS.out 0 with ⟨hend, hnext⟩ | ⟨j, f, e, w2, hj, hje, hel, hnext, hent, h2⟩
      · have hfin := HS.out.right
        rw [seenMap_end HV.out.2 hend] at hfin
        have hD : wr.heap[D]? = some (.deferred (some [])) := (hfin.s2).get
        have HF := Aside.mk (And.intro hfin hD)
        clear HS hsame hend hfin hD
        go_wp2
        refine marks_ret rfl HF.out.2 (fun w => results_tmp rfl _ _ _) ⟨rfl, ?_⟩
        have h7 := (HF.out.1.s2).putDef (.deferred none)
        have h8 : Sat E _ (HP.dk d A.room (-1) m es clock (List.map (crashFil K) fs) * q) := h7.right.perm rfl |>.of_mul_mono (fun _ h => h) |> fun h => (Sat.right (p := HP.keeps b0 (keepOf K) * HP.pt (b0 + 1) (.cells #[.map (some b0)] 83)) (h.perm (by ac_rfl)))
        exact Sat.disk_close (HV.out.1.crash K) h8
      · have hjf := seenMap_at hje hel hj
        obtain ⟨R0, h3, hback⟩ := dk_file (h2.perm (HP.left_comm _ _ _)) hj
        obtain ⟨B, cc, hvB, -, -⟩ := h3.row_slice
        have hfm := HV.out.1.mem (List.mem_of_getElem? hjf)
        have hfs : f.cels.length ≤ 100000 := by
          have h7 := at_small HV.out.1.fine f.name
          rw [Dk.at, lk_of_mem HV.out.1.fine.sorted hfm] at h7
          simpa [Fil.cs] using h7
        have HFine : Aside (∀ x ∈ f.cels, x.2.Fine) := ⟨fun x hx => HV.out.1.cel_fine (List.mem_of_getElem? hjf) hx⟩
        have hnm : f.name.size ≤ maxLen := by
          have h7 := (HV.out.1.fine.named _ hfm).1
          unfold namedB at h7
          simp only [Bool.and_eq_true, decide_eq_true_eq] at h7
          unfold maxLen
          omega
        rw [hvB] at hnext hent h3 hback
        have HC := Aside.mk (And.intro hback (And.intro hjf (And.intro hje (And.intro hel hvB))))
        have H3 := Aside.mk h3
        have HG1 := Aside.mk HS.out.get
        clear HS hsame h2 hback h3 hjf hje hel hj hvB hfm
        obtain ⟨n, hnn⟩ : ∃ n, n = f.cels.length := ⟨_, rfl⟩
        rw [← hnn] at H3 HC hfs hnext hent
        have HN := Aside.mk hnn
        clear hnn
        go_wp2
        obtain ⟨wo, rfl⟩ : ∃ wo : World, wo = wr := ⟨_, rfl⟩
        go_loopw [44] (fun x wr => ∃ k : Nat, x = .int .i64 k ∧ k ≤ n ∧ Aside (Sat E wr (HP.row 77 1 (.slice B n cc) n (celPtrs f.cels) * (HP.cels (mapPre (fun i c => c.crashd (keepOf K f.name i)) f.cels k) * (R0 * (HP.pt g (.mapIter (some m) clock (seen.push e.born) clock) * (HP.pt D (.deferred (some [])) * (HP.keeps b0 (keepOf K) * (HP.pt (b0 + 1) (.cells #[.map (some b0)] 83) * q))))))))) (fun x _ => n - (intOf x).toNat)
        case atStart => exact ⟨0, rfl, Nat.zero_le _, ⟨by rw [mapPre_zero]; exact H3.out⟩⟩
        case round =>
          clear H3 hnext hent
          obtain ⟨k, rfl, hk, HR⟩ := hrel
          by_cases hlt : k < n
          · have hkf : k < f.cels.length := by have := HN.out; omega
            have hrow := HR.out
            obtain ⟨pa, hpa, hcx⟩ := hrow.row_cells.at_ k (by simp [celPtrs, hkf])
            obtain ⟨pg, po, rfl⟩ : ∃ g o, pa = ⟨g, o, none⟩ := slice_addr hrow.row_cells hpa (k := k) (by simp [celPtrs, hkf])
            subst hpa
            rw [addr_add] at hcx
            simp only [celPtrs, List.getElem_map] at hcx
            obtain ⟨Rk, h5, hRk, hbackk⟩ := cels_take (hrow.s2) (mapPre_at hkf)
            have hxf : (f.cels[k]).2.Fine := HFine.out _ (List.getElem_mem hkf)
            have hnext : Aside (∀ w', Sat E w' (HP.cel (f.cels[k]).1 ((f.cels[k]).2.crashd (keepOf K f.name k)) * Rk) → Sat E w' (HP.row 77 1 (.slice (some ⟨pg, po, none⟩) n cc) n (celPtrs f.cels) * (HP.cels (mapPre (fun i c => c.crashd (keepOf K f.name i)) f.cels (k + 1)) * (R0 * (HP.pt g (.mapIter (some m) clock (seen.push e.born) clock) * (HP.pt D (.deferred (some [])) * (HP.keeps b0 (keepOf K) * (HP.pt (b0 + 1) (.cells #[.map (some b0)] 83) * q)))))))) := ⟨fun w' h => by
              have := hbackk w' _ h
              rw [mapPre_next (g := fun i c => c.crashd (keepOf K f.name i)) hkf] at this
              exact this.s2⟩
            generalize f.cels[k] = x at *
            obtain ⟨bk, c⟩ := x
            dsimp only at *
            have cw := cel_waits h5 hxf
            have hk0 : (0 : Int) ≤ (k : Int) := by omega
            have hk1 : (k : Int) < (n : Int) := by omega
            have hkr := keepOf_range K f.name k
            obtain ⟨nn, hnn⟩ := Int.eq_ofNat_of_zero_le hkr.1
            rw [hnn] at hkr
            have hn8 : nn ≤ 128 := by omega
            have hq5 := hRk _ h5.right
            have c5 := (hq5.right.right.right.right.right).cell 0
            simp only [List.getElem?_toArray, List.getElem?_cons_zero, List.getElem?_cons_succ] at c5
            obtain ⟨kes, kcl, hsm, hk5⟩ := (hq5.right.right.right.right).keeps_open
            have hlk := hsm.lookup (w := wr.drew) hk5.drew.get hnm (i := (k : Int)) ⟨by omega, by omega⟩
            rw [hnn] at hlk
            unfold spotV at hlk
            clear HR hrow hbackk hq5 hk5 hsm hRk
            cases hcw : c.waits with
            | true =>
              rw [hcw] at cw
              have hcp : (Builtin.copy_ #[22, 22] 3 #[.slice (some ⟨bk, 128, none⟩) nn 128, .slice (some ⟨bk, 384, none⟩) 128 128]).run Try.prog wr.drew = .ok (goInt (b8s (c.written.take nn)).length) (wr.drew.setRow bk (splice c.vals 128 (b8s (c.written.take nn))).toArray) := run_copy_row (P := Try.prog) wr.drew 22 22 3 5 bk 128 nn 128 ⟨bk, 384, none⟩ 128 128 c.vals.toArray 81 (b8s (c.written.take nn)) Try.underlying22 (by kernel_rfl) (Sat.get (q := Rk) h5.drew)
                (by rw [b8s_length, List.length_take, hxf.2.2.2]; show min nn 128 = min 128 nn; omega)
                (fun i u hu => by
                  have h9 := (cel_written h5.drew hxf).take nn
                  have e9 : (b8s c.written).take nn = b8s (c.written.take nn) := by simp [b8s]
                  rw [e9] at h9
                  exact h9.some_ _ _ hu)
                (by rw [b8s_length, List.length_take, hxf.2.2.2, List.size_toArray, Cel.vals_length hxf]; omega) (fun u hu => List.all_eq_true.1 (b8s_one _) u hu)
              have h6 := Sat.splice (E := E) (q := Rk) (g := bk) (t := 81) (cur := c.vals.toArray) h5.drew (splice c.vals 128 (b8s (c.written.take nn)))
              have hfd : (c.written.take nn ++ c.durable.drop nn).length = 128 := by rw [List.length_append, List.length_take, List.length_drop, hxf.2.2.2, hxf.2.1]; omega
              have hxf6 : ({ c with durable := c.written.take nn ++ c.durable.drop nn } : Cel).Fine := ⟨hxf.1, hfd, hxf.2.2.1, hxf.2.2.2⟩
              rw [crash_splice hxf hn8] at hcp h6
              generalize World.setRow wr.drew bk _ = w6 at hcp h6
              have h6 : Sat E w6 (HP.cel bk { c with durable := c.written.take nn ++ c.durable.drop nn } * Rk) := h6
              have hld := run_loadAgg agImg (by rw [b8s_length]; exact hfd) (cel_durable h6 hxf6)
              obtain ⟨w7, hs1, h7⟩ := cel_store (off := 0) (l := c.written.take nn ++ c.durable.drop nn) (c' := { c with read := c.written.take nn ++ c.durable.drop nn, durable := c.written.take nn ++ c.durable.drop nn }) h6 hxf6 hfd (by omega) (set_read hxf6 hfd)
              have hxf7 : ({ c with read := c.written.take nn ++ c.durable.drop nn, durable := c.written.take nn ++ c.durable.drop nn } : Cel).Fine := ⟨hfd, hfd, hxf.2.2.1, hxf.2.2.2⟩
              have c7 := cel_waits h7 hxf7
              have f7 := cel_thaw h7 512
              have HH := Aside.mk (hnext.out _ (by
                have h8 := cel_set_waits h7 hxf7 false
                have e8 : c.crashd (keepOf K f.name k) = { c with read := c.written.take nn ++ c.durable.drop nn, durable := c.written.take nn ++ c.durable.drop nn, waits := false } := by
                  unfold Cel.crashd
                  rw [hcw, hnn, Int.toNat_natCast]; rfl
                rw [e8]
                exact h8))
              generalize (b8s (c.written.take nn ++ c.durable.drop nn)).toArray = img at *
              generalize goInt (b8s (c.written.take nn)).length = gi at hcp
              clear hnext h5 h6 h7 hxf hxf6 hxf7 hcw hnn hfd
              go_wp2
              refine region_R [13] [] (fun _ => True) #[false, false, false, false, false, false, false, false, false, false, false, false, false, false] (by kernel_rfl) rfl rfl ?_
              refine wpR_rd 0 #[true, false, false, false, false, false, false, false, false, false, false, false, false, false] rfl onlyN_noPanic (by kernel_rfl) (fun K hK => ?_); (go_simp; try go_bits); refine hK _ ?_; clear hK K
              refine wpR_rd 1 #[true, true, false, false, false, false, false, false, false, false, false, false, false, false] rfl onlyN_noPanic (by kernel_rfl) (fun K hK => ?_); (go_simp; try go_bits); refine hK _ ?_; clear hK K
              refine wpR_rd 2 #[true, true, true, false, false, false, false, false, false, false, false, false, false, false] rfl onlyN_noPanic (by kernel_rfl) (fun K hK => ?_); (go_simp; try go_bits); refine hK _ ?_; clear hK K
              refine wpR_rd 3 #[true, true, true, true, false, false, false, false, false, false, false, false, false, false] rfl onlyN_noPanic (by kernel_rfl) (fun K hK => ?_); (go_simp; try go_bits); refine hK _ ?_; clear hK K
              refine wpR_rd 4 #[true, true, true, true, true, false, false, false, false, false, false, false, false, false] rfl onlyN_noPanic (by kernel_rfl) (fun K hK => ?_); (go_simp; try go_bits); refine hK _ ?_; clear hK K
              refine wpR_rd 5 #[true, true, true, true, true, true, false, false, false, false, false, false, false, false] rfl onlyN_noPanic (by kernel_rfl) (fun K hK => ?_); (go_simp; try go_bits); refine hK _ ?_; clear hK K
              refine wpR_rd 6 #[true, true, true, true, true, true, true, false, false, false, false, false, false, false] rfl onlyN_noPanic (by kernel_rfl) (fun K hK => ?_); (go_simp; try go_bits); refine hK _ ?_; clear hK K
              refine wpR_rd 7 #[true, true, true, true, true, true, true, true, false, false, false, false, false, false] rfl onlyN_noPanic (by kernel_rfl) (fun K hK => ?_); (go_simp; try go_bits); refine hK _ ?_; clear hK K
              refine wpR_rd 8 #[true, true, true, true, true, true, true, true, true, false, false, false, false, false] rfl onlyN_noPanic (by kernel_rfl) (fun K hK => ?_); (go_simp; try go_bits); refine hK _ ?_; clear hK K
              refine wpR_rd 9 #[true, true, true, true, true, true, true, true, true, true, false, false, false, false] rfl onlyN_noPanic (by kernel_rfl) (fun K hK => ?_); (go_simp; try go_bits); refine hK _ ?_; clear hK K
              refine wpR_rd 10 #[true, true, true, true, true, true, true, true, true, true, true, false, false, false] rfl onlyN_noPanic (by kernel_rfl) (fun K hK => ?_); (go_simp; try go_bits); refine hK _ ?_; clear hK K
              refine wpR_rd 11 #[true, true, true, true, true, true, true, true, true, true, true, true, false, false] rfl onlyN_noPanic (by kernel_rfl) (fun K hK => ?_); (go_simp; try go_bits); refine hK _ ?_; clear hK K
              refine wpR_rd 12 #[true, true, true, true, true, true, true, true, true, true, true, true, true, false] rfl onlyN_noPanic (by kernel_rfl) (fun K hK => ?_); (go_simp; try go_bits); refine hK _ ?_; clear hK K
              refine wpR_eff #[true, true, true, true, true, true, true, true, true, true, true, true, true, true] (i := 13) rfl (by kernel_rfl) (fun K hK => ?_)
              refine Eq.mpr (if_pos (by rfl)) ?_; refine wp_copy_run rfl rfl rfl hcp ?_; refine hK _ _ ?_; clear hK K
              simp only [Act.put, List.setIfInBounds_toArray, List.set_cons_zero, List.set_cons_succ]
              refine wpR_done (by kernel_rfl) ?_ _
              simp only [OnlyN]
              clear hcx hlk hcp cw c5
              go_wp2_with (first | (refine wpList_load_run rfl rfl rfl hld ?_) | (refine wpList_store_run rfl rfl rfl rfl rfl hs1 ?_))
              go_roundw
              case rel => exact ⟨k + 1, by go_num, by omega, HH⟩
              case measure => simp [intOf]; omega
            | false =>
              rw [hcw] at cw
              have hsy : c.crashd (keepOf K f.name k) = c := by simp [Cel.crashd, hcw]
              rw [hsy] at hnext
              have HH := Aside.mk (hnext.out _ h5)
              clear hnext h5 hxf hcw hsy hlk hnn hkr
              go_wp2
              go_roundw
              case rel => exact ⟨k + 1, by go_num, by omega, HH⟩
              case measure => simp [intOf]; omega
          · have hkn : k = f.cels.length := by have := HN.out; omega
            have HT : Aside (Sat E wr (HP.pt g (.mapIter (some m) clock (seen.push e.born) clock) * (HP.dk d A.room (-1) m es clock (seenMap es (seen.push e.born) (crashFil K) fs) * (HP.pt D (.deferred (some [])) * (HP.keeps b0 (keepOf K) * (HP.pt (b0 + 1) (.cells #[.map (some b0)] 83) * q)))))) := ⟨by
              have h7 := HR.out
              rw [hkn, mapPre_all] at h7
              obtain ⟨hback, hjf, hje, hel, hvB⟩ := HC.out
              have h8 := hback wr _ (by simpa [mapPre_all] using mapPre_fst (fun i c => c.crashd (keepOf K f.name i)) f.cels f.cels.length) h7
              have e8 : (seenMap es seen (crashFil K) fs).set j ⟨f.name, .slice B n cc, f.cels.mapIdx fun i x => (x.1, x.2.crashd (keepOf K f.name i))⟩ = seenMap es (seen.push e.born) (crashFil K) fs := by
                rw [← hvB]
                exact seenMap_next (g := crashFil K) HM.out.2.2.2.2 HV.out.2 hje hjf hel
              rw [e8] at h8
              exact h8.perm (HP.left_comm _ _ _)⟩
            have HLS : Aside ((leftL es (seen.push e.born)).length < (leftL es seen).length) := ⟨left_less HM.out.2.2.2.2 HC.out.2.2.2.1⟩
            clear HR HC HFine hkn
            go_wp2
            go_roundw
            case rel => exact ⟨seen.push e.born, clock, Nat.le_refl _, HT⟩
            case measure =>
              have h8 := HT.out.get
              rw [h8, HG1.out]
              exact HLS.out
end Go.Proofs.Ytgdcdcacccaanaa
