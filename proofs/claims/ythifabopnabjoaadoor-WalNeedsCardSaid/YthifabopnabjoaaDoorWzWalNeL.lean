/- WalNeeds of dryrotlaw18: for every input it returns true, and the input reads as it did; the variables the card lists as the program's text lays them (the card ties them). -/
import Derived.Test.YthifabopnabjoaaDoorWz9
import Derived.Test.YthifabopnabjoaaDoorCards
import Derived.Test.YthifabopnabjoaaDoorTie
namespace Go.Proofs.YthifabopnabjoaaDoor
open Go.ChangeShapes Go.WideShapes Go.ChangeAt Go.RowKit HP
set_option linter.unusedVariables false

set_option maxRecDepth 100000 in
theorem walNeeds_lifted (os : Os) (started : os.Started) (H : Type) (enc : TypeId × Value → H) :
    ReturnsInHanded {} Tryd.checked os 3 .any (fun w args => (Rows.walNeedsSpec.pre enc Tryd.prog Tryd.f3 [] false w args ∧ laidMetH Tryd.prog laidN w) ∧ sizedMet enc Tryd.prog Tryd.f3 (OpenSpec.ofChange Rows.walNeedsSpec) false w args) (Rows.walNeedsSpec.post enc Tryd.prog Tryd.f3 false true false false) := by
  refine returnsInHanded_of_change_and (C := Tryd.checked) (X := fun w _ => laidMetH Tryd.prog laidN w) (fun _ _ _ hh h => h.of_heap hh) own started (by kernel_rfl) Tryd.func3
    (ChangeSpec.witness_shaped (enc := enc) (C := Tryd.checked) (os := os) (X := fun w _ => laidMetH Tryd.prog laidN w) false (World.doorLaid Tryd.prog 400 os) #[.int .i64 0, .int .i64 0, .slice none 0 0] 8 rfl (World.shaped_of_RefB (by kernel_rfl) (by kernel_rfl)) (by kernel_rfl) (by kernel_rfl) (by kernel_rfl) (door_metN os _)) ?_
  intro W base args ds gs before hval0 hW _ _ hL _
  have hval : ∀ (j : Nat) t v, Tryd.f3.params[j]? = some t → args[j]? = some v → Value.okWide Tryd.prog W .any base t v := hval0
  have hW' := hW
  obtain ⟨p, q, hA0, hV, rfl, _, _⟩ := hW
  have hA : DataW.TrodAll enc Tryd.prog W 0 (fun _ => true) true Tryd.f3.params.toList args.toList ds p := hA0
  rw [Tryd.params3] at hA hval
  obtain ⟨v0, v1, v2, d0, d1, d2, p0, p1, p2, rfl, rfl, rfl, h0, h1, h2⟩ := trodAll_three hA
  obtain ⟨rfl, rfl⟩ := trodVars_none hV
  obtain ⟨f0, rfl, z0⟩ := int_arg Tryd.underlying3 (hval 0 _ v0 rfl rfl) h0
  obtain ⟨f1, rfl, z1⟩ := int_arg Tryd.underlying3 (hval 1 _ v1 rfl rfl) h1
  obtain ⟨s2, rfl, o2⟩ := sl_arg Tryd.underlying22 rdB_at (hval 2 _ v2 rfl rfl) h2
  have b2 := bytes_ok o2
  clear hA0 hval0
  have hQ := laidN_reads hL
  refine (walNeeds_ok _ _ f0 f1 s2.A s2.l s2.l.length s2.cap W (wf64_of z0) (wf64_of z1) rfl b2.1 b2.2.1 b2.2.2.2 (fun w hw => ⟨quarter_old hQ.1 hw, tab_old hQ.2 hw⟩) (fun w hw => b2.2.2.1.carry (old_carry hw)) Sat.start).mono
    fun e W' ⟨he, hs⟩ => ⟨_, he, law_post laidOut (by kernel_rfl) (by kernel_rfl) Tryd.underlying4 rfl rfl hW' (Sat.old_below (p := HP.emp) ?_)⟩
  rw [HP.mul_emp]; exact hs
theorem WalNeeds_row : Rows.WalNeedsSaid :=
  OpenClaim.holds_of_wide 3 Tryd.f3 rfl rfl rfl rfl rfl rfl rfl ⟨rfl, rfl, rfl, rfl, rfl⟩ rfl rfl rfl rfl rfl (by kernel_rfl) Tryd.func3 (by kernel_rfl)
    (of_decide_eq_true (by kernel_rfl)) (by unfold Func.isWrapper; first | (rw [if_pos (by decide +kernel)]; kernel_rfl) | (rw [if_neg (by decide +kernel)]; exact ⟨rfl, rfl⟩))
    (fun os started H enc _ => walNeeds_lifted os started H enc)
theorem WalNeeds_proved : Rows.WalNeedsCardSaid :=
  Claim7.holds_tied_plain_at .later [] [.data, .data, .data, .data] true (true, "f70a67d59a9a59459a68245281991996c617fafe666dc1fe0662002a7150036b") false
    WalNeeds_row (fun _ h => by cases h) (by kernel_rfl) (fun _ h => by cases h) walNeeds_row_tie rfl ⟨rfl, rfl⟩ (by kernel_rfl) rfl
    (fun f fn hf hfn => by
      obtain rfl : f = 3 := Option.some.inj ((show Tryd.prog.funcNamed "dryrot/dryrotlaw18.WalNeeds" = some 3 by kernel_rfl).symm.trans hf) |>.symm
      obtain rfl : fn = Tryd.f3 := (Option.some.inj (Tryd.func3.symm.trans hfn)).symm
      exact ⟨by kernel_rfl, fun j t ht => by
        rw [Tryd.params3] at ht
        have hm : t ∈ [3, 22] := by
          have := Array.mem_of_getElem? ht
          simp at this ⊢
          omega
        have hall : ([3, 22].all fun u => !Tryd.prog.wantsStandIn u) = true := by kernel_rfl
        exact (show Tryd.prog.wantsStandIn t = false by simpa using List.all_eq_true.1 hall t hm)⟩)
    (by kernel_rfl)
#print axioms WalNeeds_proved
end Go.Proofs.YthifabopnabjoaaDoor
