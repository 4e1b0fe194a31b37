/- DiskStays of dryrotlaw03: for every input it returns true, and the input reads as it did. Conditions: none. -/
import Derived.Test.YtgdcdcacccaanaaStaysW
namespace Go.Proofs.Ytgdcdcacccaanaa
open Go.ChangeShapes Go.WideShapes Go.ChangeAt Go.RowKit HP
set_option linter.unusedVariables false

theorem old_carry {E : Env} {W w : World} (h : Sat E w (HP.old W)) : ∀ k, k < W.heap.size → w.heap[k]? = W.heap[k]? := fun k hk => Sat.old_block (p := HP.emp) (by rw [HP.mul_emp]; exact h) k hk
theorem rdB_at : (rdSl (rdInt .u8)).At Try.prog 22 := rdSl_at (n := 1) Try.underlying22 (by kernel_rfl) (rdInt_at Try.underlying5)
theorem rdSteps_at : (rdSl rdStep).At Try.prog 23 := rdSl_at (n := 8) Try.underlying23 (by kernel_rfl) rdStep_at
structure StepsOk (W : World) (s : Sl StepV) : Prop where
  len : s.l.length ≤ s.cap
  cap : s.cap ≤ maxLen
  cells : Cells W s.A (s.l.flatMap StepV.vals)
  each : ∀ x ∈ s.l, x.Ok W
theorem steps_ok {W : World} {s : Sl StepV} (h : (rdSl rdStep).ok W s) : StepsOk W s := ⟨h.1, h.2.1, h.2.2.1, fun x hx => step_ok (h.2.2.2 x hx)⟩
set_option maxRecDepth 100000 in
theorem stays_lifted (os : Os) (started : os.Started) (H : Type) (enc : TypeId × Value → H) :
    ReturnsInHanded {} Try.checked os 3 .any (Rows.diskStaysSpec.pre6 enc Try.prog Try.f3 Rows.diskStaysRow.domain false) (Rows.diskStaysSpec.post enc Try.prog Try.f3 false true false false) := by
  refine returnsInHanded_of_change (C := Try.checked) own started (by kernel_rfl) Try.func3
    (ChangeSpec.witness6 (enc := enc) (C := Try.checked) false ⟨#[], #[.slice none 0 0, .slice none 0 0, .slice none 0 0, .slice none 0 0], []⟩ 8 (by kernel_rfl) (by kernel_rfl) (by kernel_rfl) (by kernel_rfl)) ?_
  intro W base args ds gs before hval0 hW _ _
  have hval : ∀ (j : Nat) t v, Try.f3.params[j]? = some t → args[j]? = some v → Value.okWide Try.prog W .any base t v := hval0
  have hW' := hW
  obtain ⟨p, q, hA0, hV, rfl, _, _⟩ := hW
  have hA : DataW.TrodAll enc Try.prog W 0 (fun _ => true) true Try.f3.params.toList args.toList ds p := hA0
  rw [Try.params3] at hA hval
  obtain ⟨v0, v1, v2, v3, d0, d1, d2, d3, p0, p1, p2, p3, rfl, rfl, rfl, h0, h1, h2, h3⟩ := trodAll_four hA
  obtain ⟨rfl, rfl⟩ := trodVars_none hV
  obtain ⟨s0, rfl, o0⟩ := sl_arg Try.underlying22 rdB_at (hval 0 _ v0 rfl rfl) h0
  obtain ⟨s1, rfl, o1⟩ := sl_arg Try.underlying22 rdB_at (hval 1 _ v1 rfl rfl) h1
  obtain ⟨s2, rfl, o2⟩ := sl_arg Try.underlying22 rdB_at (hval 2 _ v2 rfl rfl) h2
  obtain ⟨s3, rfl, o3⟩ := sl_arg Try.underlying23 rdSteps_at (hval 3 _ v3 rfl rfl) h3
  clear hA0 hval0
  have b0 := bytes_ok o0
  have b1 := bytes_ok o1
  have b2 := bytes_ok o2
  have b3 := steps_ok o3
  refine (stays_ok _ _ s0 s1 s2 s3 W b0.1 b1.1 (Nat.le_trans b3.len b3.cap) (Nat.le_trans b2.1 b2.2.1) b0.2.2.2 b1.2.2.2 (fun s hs => ⟨(b3.each s hs).b.1, (b3.each s hs).name, (b3.each s hs).op, (b3.each s hs).i⟩)
    (fun E w hw => ⟨b0.2.2.1.carry (old_carry hw), b1.2.2.1.carry (old_carry hw), b3.cells.carry (old_carry hw), fun s hs => (b3.each s hs).b.2.2.1.carry (old_carry hw)⟩) Sat.start).mono
    fun e W' ⟨he, hs⟩ => ⟨_, he, law_post laidOut (by kernel_rfl) (by kernel_rfl) Try.underlying4 rfl rfl hW' (Sat.old_below (p := HP.emp) ?_)⟩
  rw [HP.mul_emp]; exact hs

theorem DiskStays_proved : Rows.DiskStaysSaid :=
  OpenClaim.holds_of_wide 3 Try.f3 rfl rfl rfl rfl rfl rfl rfl ⟨rfl, rfl, rfl, rfl, rfl⟩ rfl rfl rfl rfl rfl (by kernel_rfl) Try.func3 (by kernel_rfl)
    (of_decide_eq_true (by kernel_rfl)) (by unfold Func.isWrapper; first | (rw [if_pos (by decide +kernel)]; kernel_rfl) | (rw [if_neg (by decide +kernel)]; exact ⟨rfl, rfl⟩))
    (fun os started H enc _ => stays_lifted os started H enc)
#print axioms DiskStays_proved
end Go.Proofs.Ytgdcdcacccaanaa
