/- Texts of one claim, one behind the other: AnchX. -/
import Derived.Test.YtnllmkpbnccllaaDoorAy6
/- An anchor as an argument. -/
namespace Go.Proofs.YtnllmkpbnccllaaDoor
open Go.ChangeShapes Go.WideShapes Go.ChangeAt Go.RowKit HP
set_option linter.unusedVariables false

def rdAnch : Rd Anch := rdMap (rdPair (rdInt .i64) (rdPair (rdInt .i64) (rdPair (rdInt .i64) (rdPair (rdInt .i64) (rdPair (rdInt .i64) (rdPair (rdInt .i64) (rdPair (rdInt .i64) (rdPair (rdInt .i64) (rdPair (rdInt .i64) (rdPair (rdInt .i64) rdEnd)))))))))) (fun x => (⟨x.1, x.2.1, x.2.2.1, x.2.2.2.1, x.2.2.2.2.1, x.2.2.2.2.2.1, x.2.2.2.2.2.2.1, x.2.2.2.2.2.2.2.1, x.2.2.2.2.2.2.2.2.1, x.2.2.2.2.2.2.2.2.2.1⟩ : Anch)) (fun s => (s.seq, s.gen, s.lsn, s.seg, s.ext, s.flo, s.new, s.keep, s.next, s.cur, ())) (fun a => rfl)
theorem rdAnch_at : rdAnch.At Tryd.prog 71 :=
  rdStruct_at Tryd.underlying71 (total := 1 + (1 + (1 + (1 + (1 + (1 + (1 + (1 + (1 + (1 + 0)))))))))) (by kernel_rfl) (rdPair_fs rfl (by kernel_rfl) (rdInt_at Tryd.underlying3) (rdPair_fs rfl (by kernel_rfl) (rdInt_at Tryd.underlying3) (rdPair_fs rfl (by kernel_rfl) (rdInt_at Tryd.underlying3) (rdPair_fs rfl (by kernel_rfl) (rdInt_at Tryd.underlying3) (rdPair_fs rfl (by kernel_rfl) (rdInt_at Tryd.underlying3) (rdPair_fs rfl (by kernel_rfl) (rdInt_at Tryd.underlying3) (rdPair_fs rfl (by kernel_rfl) (rdInt_at Tryd.underlying3) (rdPair_fs rfl (by kernel_rfl) (rdInt_at Tryd.underlying3) (rdPair_fs rfl (by kernel_rfl) (rdInt_at Tryd.underlying3) (rdPair_fs rfl (by kernel_rfl) (rdInt_at Tryd.underlying3) (rdEnd_fs _))))))))))) _ _ _
theorem anch_ok {W : World} {a : Anch} (h : rdAnch.ok W a) : a.Ok := by
  obtain ⟨h0, h1, h2, h3, h4, h5, h6, h7, h8, h9, -⟩ := h
  exact ⟨wf64_of h0, wf64_of h1, wf64_of h2, wf64_of h3, wf64_of h4, wf64_of h5, wf64_of h6, wf64_of h7, wf64_of h8, wf64_of h9⟩
end Go.Proofs.YtnllmkpbnccllaaDoor
