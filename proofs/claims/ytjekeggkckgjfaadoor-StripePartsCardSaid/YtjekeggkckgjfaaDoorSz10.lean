/- Texts of one claim, one behind the other: LaidU. -/
import Derived.Test.YtjekeggkckgjfaaDoorSz9
import Derived.Lib.LaidU8
import Derived.Lib.LaidTab
import Derived.Lay
/- The listed tables of a stripe: what the condition gives a walk. -/
namespace Go.Proofs.YtjekeggkckgjfaaDoor
open Go.ChangeShapes Go.WideShapes Go.ChangeAt Go.WideMaps Go.WideElems Go.RowKit HP
set_option linter.unusedVariables false

theorem quarterU_of_reads {W : World} (h : Lib.VarReads Tryd.prog W "dryrot/crc.quarter" Rows.laid_dryrot_crc_quarter) : Quarter W := by
  obtain ⟨g0, t0, cs0, f0, p0, hg0, ht0, hv0, hd0⟩ := h
  obtain rfl := Option.some.inj (gQuarter.symm.trans hg0)
  obtain rfl := Option.some.inj (tQuarter.symm.trans ht0)
  obtain ⟨xs, m1, rfl, hx1, hlen, hn3, hel⟩ := DataW.trod_array Tryd.underlying213 hd0
  have c3 : Tryd.prog.cellsOf 173 = 1 := by kernel_rfl
  simp only [Prod.mk.injEq, DataW.agg.injEq, Rows.laid_dryrot_crc_quarter] at hx1
  intro i hi
  have hi' := hel i hi
  rw [c3, Nat.mul_one] at hi'
  have hxl : i < xs.length := by omega
  rw [List.getElem?_eq_getElem hxl] at hi'
  obtain ⟨k, e1, e2, _⟩ := DataW.trod_int Tryd.underlying173 hi'
  have e3 : (xs.map (·.1))[i]? = some (DataW.lit (.int .u32 k)) := by
    rw [List.getElem?_map, List.getElem?_eq_getElem hxl]
    simp [e2]
  rw [← hx1.1] at e3
  have hk : k = quarterN i := by
    match i, hi with
    | 0, _ => simpa [quarterN] using e3.symm
    | 1, _ => simpa [quarterN] using e3.symm
    | 2, _ => simpa [quarterN] using e3.symm
    | 3, _ => simpa [quarterN] using e3.symm
  have e4 := World.var?_cell hg0 hv0 i
  have e5 : cs0.toList[i]? = some (.int .u32 k) := by
    have := congrArg (fun l => l[0]?) e1
    simpa [List.getElem?_take] using this
  rw [Array.getElem?_toList, hk] at e5
  rw [← e5, ← e4]
def laidU : List (String × DataW Unit) := [("dryrot/crc.quarter", Rows.laid_dryrot_crc_quarter), ("unicode/utf8.acceptRanges", Rows.laid_unicode_utf8_acceptRanges), ("unicode/utf8.first", Rows.laid_unicode_utf8_first)]
theorem door_metU (os : Os) (args : Array Value) : laidMetH Tryd.prog laidU ((World.laidAll Tryd.prog os laidU).forCall (fun _ _ => 0) ⟨#[], args, []⟩).memory := by
  rw [MakeChecks.laidMetH_plain _ _ _ (by kernel_rfl)]
  exact laidMet_laidAll _ (by kernel_rfl) (by kernel_rfl)
theorem laidU_reads {W : World} (h : laidMetH Tryd.prog laidU W) : Quarter W := by
  rw [MakeChecks.laidMetH_plain _ _ _ (by kernel_rfl)] at h
  obtain ⟨ps, hL, -⟩ := h
  exact quarterU_of_reads (Lib.LaidVars_reads hL _ _ (by simp [laidU]))
end Go.Proofs.YtjekeggkckgjfaaDoor
