/- Texts of one claim, one behind the other: Laid6, GrpX, GrpZ, StpT. -/
import Derived.Test.YtnpinegpajbkeaaGreatDoorMe18
import Derived.Lay
set_option linter.unusedSimpArgs false
set_option linter.unusedVariables false
namespace Go.Proofs.YtnpinegpajbkeaaGreatDoor
open Go.ChangeShapes Go.WideShapes Go.ChangeAt Go.WideMaps Go.WideElems Go.RowKit HP
theorem quarter6_of_reads {W : World} (h : Lib.VarReads Tryz.prog W "dryrot/crc.quarter" Rows.laid_dryrot_crc_quarter) : Quarter W := by
  obtain ⟨g0, t0, cs0, f0, p0, hg0, ht0, hv0, hd0⟩ := h
  obtain rfl := Option.some.inj (gQuarter.symm.trans hg0)
  obtain rfl := Option.some.inj (tQuarter.symm.trans ht0)
  obtain ⟨xs, m1, rfl, hx1, hlen, hn3, hel⟩ := DataW.trod_array Tryz.underlying247 hd0
  have c3 : Tryz.prog.cellsOf 168 = 1 := by kernel_rfl
  simp only [Prod.mk.injEq, DataW.agg.injEq, Rows.laid_dryrot_crc_quarter] at hx1
  intro i hi
  have hi' := hel i hi
  rw [c3, Nat.mul_one] at hi'
  have hxl : i < xs.length := by omega
  rw [List.getElem?_eq_getElem hxl] at hi'
  obtain ⟨k, e1, e2, _⟩ := DataW.trod_int Tryz.underlying168 hi'
  have e3 : (xs.map (·.1))[i]? = some (DataW.lit (.int .u32 k)) := by
    rw [List.getElem?_map, List.getElem?_eq_getElem hxl]
    simp [e2]
  rw [← hx1.1] at e3
  have hk : k = quarterN i := by
    match i, hi with
    | 0, _ => simpa [quarterN] using e3.symm
    | 1, _ => simpa [quarterN] using e3.symm
    | 2, _ => simpa [quarterN] using e3.symm
    | 3, _ => simpa [quarterN] using e3.symm
  have e4 := World.var?_cell hg0 hv0 i
  have e5 : cs0.toList[i]? = some (.int .u32 k) := by
    have := congrArg (fun l => l[0]?) e1
    simpa [List.getElem?_take] using this
  rw [Array.getElem?_toList, hk] at e5
  rw [← e5, ← e4]
def laid6 : List (String × DataW Unit) := [("dryrot/crc.quarter", Rows.laid_dryrot_crc_quarter), ("math/bits.deBruijn32tab", Rows.laid_math_bits_deBruijn32tab), ("math/bits.deBruijn64tab", Rows.laid_math_bits_deBruijn64tab), ("internal/strconv.uint64pow10", Rows.laid_internal_strconv_uint64pow10), ("unicode/utf8.acceptRanges", Rows.laid_unicode_utf8_acceptRanges), ("unicode/utf8.first", Rows.laid_unicode_utf8_first)]
theorem door_met6 (os : Os) (args : Array Value) : laidMetH Tryz.prog laid6 ((World.laidAll Tryz.prog os laid6).forCall (fun _ _ => 0) ⟨#[], args, []⟩).memory := by
  rw [MakeChecks.laidMetH_plain _ _ _ (by kernel_rfl)]
  exact laidMet_laidAll _ (by kernel_rfl) (by kernel_rfl)
theorem laid6_reads {W : World} (h : laidMetH Tryz.prog laid6 W) : Quarter W ∧ Lib.TabIs Tryz.prog W "internal/strconv.uint64pow10" .u64 Lib.pow10Tab := by
  rw [MakeChecks.laidMetH_plain _ _ _ (by kernel_rfl)] at h
  obtain ⟨ps, hL, -⟩ := h
  exact ⟨quarter6_of_reads (Lib.LaidVars_reads hL _ _ (by simp [laid6])), pow10_of_reads (Lib.LaidVars_reads hL _ _ (by simp [laid6]))⟩
end Go.Proofs.YtnpinegpajbkeaaGreatDoor
namespace Go.Proofs.YtnpinegpajbkeaaGreatDoor
open Go.ChangeShapes Go.WideShapes Go.ChangeAt Go.RowKit HP
def rdGrp : Rd Sgp := rdMap (rdPair (rdInt .i64) (rdPair rdStr (rdPair (rdInt .i64) (rdPair (rdInt .i64) rdEnd)))) (fun x => (⟨x.1, x.2.1, x.2.2.1, x.2.2.2.1⟩ : Sgp)) (fun s => (s.kind, s.name, s.idx, s.gen, ())) (fun a => rfl)
theorem grp_ok {W : World} {g : Sgp} (h : rdGrp.ok W g) : wf64 g.kind ∧ g.name.size ≤ maxLen ∧ wf64 g.idx ∧ wf64 g.gen := ⟨wf64_of h.1, h.2.1, wf64_of h.2.2.1, wf64_of h.2.2.2.1⟩
end Go.Proofs.YtnpinegpajbkeaaGreatDoor
namespace Go.Proofs.YtnpinegpajbkeaaGreatDoor
open Go.ChangeShapes Go.WideShapes Go.ChangeAt Go.RowKit HP
def Sgp.sz (g : Sgp) : List Nat := [] ++ ([g.name.size] ++ ([] ++ ([] ++ [])))
theorem rdGrp_atZ : rdGrp.AtZ Sgp.sz Tryz.prog 37 :=
  rdStruct_atZ Tryz.underlying37 (total := 1 + (1 + (1 + (1 + 0)))) (by kernel_rfl) (rdPair_fsZ rfl (by kernel_rfl) (Rd.At.toZ (rdInt_at Tryz.underlying3)) (rdPair_fsZ rfl (by kernel_rfl) (rdStr_atZ Tryz.underlying9) (rdPair_fsZ rfl (by kernel_rfl) (Rd.At.toZ (rdInt_at Tryz.underlying3)) (rdPair_fsZ rfl (by kernel_rfl) (Rd.At.toZ (rdInt_at Tryz.underlying3)) (rdEnd_fsZ _))))) _ _ _
theorem rdGrps_atZ : (rdSl rdGrp).AtZ (fun s => s.cap * 40 :: s.l.flatMap Sgp.sz) Tryz.prog 35 := rdSl_atZ (n := 4) Tryz.underlying35 (by kernel_rfl) (by kernel_rfl) rdGrp_atZ
theorem grps_in {W : World} {s : Sl Sgp} (h : (rdSl rdGrp).ok W s) (hz : ∀ n ∈ s.cap * 40 :: s.l.flatMap Sgp.sz, n ≤ reachBytes) : GrpsIn (HP.old W) s := by
  have hr : reachBytes = 140737488351232 := by decide
  refine ⟨Nat.le_trans h.1 h.2.1, fun g hg => ⟨?_, (grp_ok (h.2.2.2 g hg)).2.2.1⟩, fun E w hw => Cells.carry (cs := s.l.flatMap Sgp.vals) h.2.2.1 (old_carry hw)⟩
  have := hz g.name.size (List.mem_cons_of_mem _ (List.mem_flatMap.2 ⟨g, hg, by simp [Sgp.sz]⟩))
  rw [hr] at this
  exact this
section
variable {P : Program} {t : TypeId}
end
end Go.Proofs.YtnpinegpajbkeaaGreatDoor
namespace Go.Proofs.YtnpinegpajbkeaaGreatDoor
open Go.ChangeShapes Go.WideShapes Go.ChangeAt Go.RowKit HP
theorem rdSteps_at : (rdSl rdStep).At Tryz.prog 22 := rdSl_at (n := 8) Tryz.underlying22 (by kernel_rfl) rdStep_at
structure StepsOk (W : World) (s : Sl StepV) : Prop where
  len : s.l.length ≤ s.cap
  cap : s.cap ≤ maxLen
  cells : Cells W s.A (s.l.flatMap StepV.vals)
  each : ∀ x ∈ s.l, x.Ok W
theorem steps_ok {W : World} {s : Sl StepV} (h : (rdSl rdStep).ok W s) : StepsOk W s := ⟨h.1, h.2.1, h.2.2.1, fun x hx => step_ok (h.2.2.2 x hx)⟩
theorem steps_old {W : World} {s : Sl StepV} (h : (rdSl rdStep).ok W s) : Steps (HP.old W) s :=
  ⟨Nat.le_trans (steps_ok h).len (steps_ok h).cap, fun x hx => ((steps_ok h).each x hx).wf, fun E w hw => ⟨(steps_ok h).cells.carry (old_carry hw), fun x hx => ⟨((steps_ok h).each x hx).b.2.2.1.carry (old_carry hw), ((steps_ok h).each x hx).kept.2.2.1.carry (old_carry hw)⟩⟩⟩
end Go.Proofs.YtnpinegpajbkeaaGreatDoor
