/- Texts of one claim, one behind the other: Laid6, GrpX. -/
import Derived.Test.YtnpinegpajbkeaaDoorNo8
import Derived.Lay
/- The listed tables of a scrub, six of them: what the condition gives a walk. -/
namespace Go.Proofs.YtnpinegpajbkeaaDoor
open Go.ChangeShapes Go.WideShapes Go.ChangeAt Go.WideMaps Go.WideElems Go.RowKit HP
set_option linter.unusedVariables false

theorem quarter6_of_reads {W : World} (h : Lib.VarReads Tryd.prog W "dryrot/crc.quarter" Rows.laid_dryrot_crc_quarter) : Quarter W := by
  obtain ⟨g0, t0, cs0, f0, p0, hg0, ht0, hv0, hd0⟩ := h
  obtain rfl := Option.some.inj (gQuarter.symm.trans hg0)
  obtain rfl := Option.some.inj (tQuarter.symm.trans ht0)
  obtain ⟨xs, m1, rfl, hx1, hlen, hn3, hel⟩ := DataW.trod_array Tryd.underlying191 hd0
  have c3 : Tryd.prog.cellsOf 155 = 1 := by kernel_rfl
  simp only [Prod.mk.injEq, DataW.agg.injEq, Rows.laid_dryrot_crc_quarter] at hx1
  intro i hi
  have hi' := hel i hi
  rw [c3, Nat.mul_one] at hi'
  have hxl : i < xs.length := by omega
  rw [List.getElem?_eq_getElem hxl] at hi'
  obtain ⟨k, e1, e2, _⟩ := DataW.trod_int Tryd.underlying155 hi'
  have e3 : (xs.map (·.1))[i]? = some (DataW.lit (.int .u32 k)) := by
    rw [List.getElem?_map, List.getElem?_eq_getElem hxl]
    simp [e2]
  rw [← hx1.1] at e3
  have hk : k = quarterN i := by
    match i, hi with
    | 0, _ => simpa [quarterN] using e3.symm
    | 1, _ => simpa [quarterN] using e3.symm
    | 2, _ => simpa [quarterN] using e3.symm
    | 3, _ => simpa [quarterN] using e3.symm
  have e4 := World.var?_cell hg0 hv0 i
  have e5 : cs0.toList[i]? = some (.int .u32 k) := by
    have := congrArg (fun l => l[0]?) e1
    simpa [List.getElem?_take] using this
  rw [Array.getElem?_toList, hk] at e5
  rw [← e5, ← e4]
def laid6 : List (String × DataW Unit) := [("dryrot/crc.quarter", Rows.laid_dryrot_crc_quarter), ("math/bits.deBruijn32tab", Rows.laid_math_bits_deBruijn32tab), ("math/bits.deBruijn64tab", Rows.laid_math_bits_deBruijn64tab), ("internal/strconv.uint64pow10", Rows.laid_internal_strconv_uint64pow10), ("unicode/utf8.acceptRanges", Rows.laid_unicode_utf8_acceptRanges), ("unicode/utf8.first", Rows.laid_unicode_utf8_first)]
theorem door_met6 (os : Os) (args : Array Value) : laidMetH Tryd.prog laid6 ((World.laidAll Tryd.prog os laid6).forCall (fun _ _ => 0) ⟨#[], args, []⟩).memory := by
  rw [MakeChecks.laidMetH_plain _ _ _ (by kernel_rfl)]
  exact laidMet_laidAll _ (by kernel_rfl) (by kernel_rfl)
theorem laid6_reads {W : World} (h : laidMetH Tryd.prog laid6 W) : Quarter W ∧ Lib.TabIs Tryd.prog W "internal/strconv.uint64pow10" .u64 Lib.pow10Tab := by
  rw [MakeChecks.laidMetH_plain _ _ _ (by kernel_rfl)] at h
  obtain ⟨ps, hL, -⟩ := h
  exact ⟨quarter6_of_reads (Lib.LaidVars_reads hL _ _ (by simp [laid6])), pow10_of_reads (Lib.LaidVars_reads hL _ _ (by simp [laid6]))⟩
end Go.Proofs.YtnpinegpajbkeaaDoor
/- A group as an argument. -/
namespace Go.Proofs.YtnpinegpajbkeaaDoor
open Go.ChangeShapes Go.WideShapes Go.ChangeAt Go.RowKit HP
set_option linter.unusedVariables false

def rdGrp : Rd Sgp := rdMap (rdPair (rdInt .i64) (rdPair rdStr (rdPair (rdInt .i64) (rdPair (rdInt .i64) rdEnd)))) (fun x => (⟨x.1, x.2.1, x.2.2.1, x.2.2.2.1⟩ : Sgp)) (fun s => (s.kind, s.name, s.idx, s.gen, ())) (fun a => rfl)
theorem rdGrp_at : rdGrp.At Tryd.prog 32 :=
  rdStruct_at Tryd.underlying32 (total := 1 + (1 + (1 + (1 + 0)))) (by kernel_rfl) (rdPair_fs rfl (by kernel_rfl) (rdInt_at Tryd.underlying3) (rdPair_fs rfl (by kernel_rfl) (rdStr_at Tryd.underlying9) (rdPair_fs rfl (by kernel_rfl) (rdInt_at Tryd.underlying3) (rdPair_fs rfl (by kernel_rfl) (rdInt_at Tryd.underlying3) (rdEnd_fs _))))) _ _ _
theorem rdGrp_cells (g : Sgp) : rdGrp.cells g = g.vals := rfl
theorem grp_ok {W : World} {g : Sgp} (h : rdGrp.ok W g) : wf64 g.kind ∧ g.name.size ≤ maxLen ∧ wf64 g.idx ∧ wf64 g.gen := ⟨wf64_of h.1, h.2.1, wf64_of h.2.2.1, wf64_of h.2.2.2.1⟩
end Go.Proofs.YtnpinegpajbkeaaDoor
