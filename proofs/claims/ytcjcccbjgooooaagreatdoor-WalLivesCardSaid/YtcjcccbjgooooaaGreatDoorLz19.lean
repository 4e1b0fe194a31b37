/- Texts of one claim, one behind the other: WLvL. -/
import Derived.Test.YtcjcccbjgooooaaGreatDoorLz18
import Derived.Test.YtcjcccbjgooooaaGreatDoorCards
import Derived.Test.YtcjcccbjgooooaaGreatDoorTie
/- WalLives of dryrotlaw18: for every input it returns true, and the input reads as it did; the variables the card lists as the program's text lays them (the card ties them). -/
namespace Go.Proofs.YtcjcccbjgooooaaGreatDoor
open Go.ChangeShapes Go.WideShapes Go.ChangeAt Go.RowKit HP
set_option linter.unusedVariables false

set_option maxRecDepth 100000 in
theorem walLives_lifted (os : Os) (started : os.Started) (H : Type) (enc : TypeId × Value → H) :
    ReturnsInHanded {} Tryz.checked os 3 .any (fun w args => (Rows.walLivesSpec.pre enc Tryz.prog Tryz.f3 [] false w args ∧ laidMetH Tryz.prog laidN w) ∧ sizedMet enc Tryz.prog Tryz.f3 (OpenSpec.ofChange Rows.walLivesSpec) false w args) (Rows.walLivesSpec.post enc Tryz.prog Tryz.f3 false true false false) := by
  refine returnsInHanded_of_change_and (C := Tryz.checked) (X := fun w _ => laidMetH Tryz.prog laidN w) (fun _ _ _ hh h => h.of_heap hh) own started (by kernel_rfl) Tryz.func3
    (ChangeSpec.witness_shaped (enc := enc) (C := Tryz.checked) (os := os) (X := fun w _ => laidMetH Tryz.prog laidN w) false (World.doorLaid Tryz.prog 400 os) #[.slice none 0 0, .slice none 0 0, .int .i64 0] 8 rfl (World.shaped_of_RefB (by kernel_rfl) (by kernel_rfl)) (by kernel_rfl) (by kernel_rfl) (by kernel_rfl) (door_metN os _)) ?_
  intro W base args ds gs before hval0 hW _ _ hL _
  have hval : ∀ (j : Nat) t v, Tryz.f3.params[j]? = some t → args[j]? = some v → Value.okWide Tryz.prog W .any base t v := hval0
  have hW' := hW
  obtain ⟨p, q, hA0, hV, rfl, _, _⟩ := hW
  have hA : DataW.TrodAll enc Tryz.prog W 0 (fun _ => true) true Tryz.f3.params.toList args.toList ds p := hA0
  rw [Tryz.params3] at hA hval
  obtain ⟨v0, v1, v2, d0, d1, d2, p0, p1, p2, rfl, rfl, rfl, h0, h1, h2⟩ := trodAll_three hA
  obtain ⟨rfl, rfl⟩ := trodVars_none hV
  obtain ⟨s0, rfl, o0⟩ := sl_arg Tryz.underlying22 rdSteps_at (hval 0 _ v0 rfl rfl) h0
  obtain ⟨s1, rfl, o1⟩ := sl_arg Tryz.underlying23 rdRecsZ_at (hval 1 _ v1 rfl rfl) h1
  obtain ⟨f2, rfl, z2⟩ := int_arg Tryz.underlying3 (hval 2 _ v2 rfl rfl) h2
  clear hA0 hval0
  have hQ := laidN_reads hL
  refine (walLives_ok _ _ s0 s1 f2 W (steps_old o0) (recs_inZ o1) (wf64_of z2) (fun E w hw => ⟨quarter_old hQ.1 hw, tab_old hQ.2 hw⟩) Sat.start).mono
    fun e W' ⟨he, hs⟩ => ⟨_, he, law_post laidOut (by kernel_rfl) (by kernel_rfl) Tryz.underlying4 rfl rfl hW' (Sat.old_below (p := HP.emp) ?_)⟩
  rw [HP.mul_emp]; exact hs
theorem WalLives_row : Rows.WalLivesSaid :=
  OpenClaim.holds_of_wide 3 Tryz.f3 rfl rfl rfl rfl rfl rfl rfl ⟨rfl, rfl, rfl, rfl, rfl⟩ rfl rfl rfl rfl rfl (by kernel_rfl) Tryz.func3 (by kernel_rfl)
    (of_decide_eq_true (by kernel_rfl)) (by unfold Func.isWrapper; first | (rw [if_pos (by decide +kernel)]; kernel_rfl) | (rw [if_neg (by decide +kernel)]; exact ⟨rfl, rfl⟩))
    (fun os started H enc _ => walLives_lifted os started H enc)
theorem WalLives_proved : Rows.WalLivesCardSaid :=
  Claim7.holds_tied_plain_at .later [] [.data, .data, .data, .data] true (true, "a0bb1289b8317428d862bc05eac266f707bb951ab12fa40a9df345fa3cf3b219") false
    WalLives_row (fun _ h => by cases h) (by kernel_rfl) (fun _ h => by cases h) walLives_row_tie rfl ⟨rfl, rfl⟩ (by kernel_rfl) rfl
    (fun f fn hf hfn => by
      obtain rfl : f = 3 := Option.some.inj ((show Tryz.prog.funcNamed "dryrot/dryrotlaw18.WalLives" = some 3 by kernel_rfl).symm.trans hf) |>.symm
      obtain rfl : fn = Tryz.f3 := (Option.some.inj (Tryz.func3.symm.trans hfn)).symm
      exact ⟨by kernel_rfl, fun j t ht => by
        rw [Tryz.params3] at ht
        have hm : t ∈ [22, 23, 3] := by simpa using Array.mem_of_getElem? ht
        have hall : ([22, 23, 3].all fun u => !Tryz.prog.wantsStandIn u) = true := by kernel_rfl
        exact (show Tryz.prog.wantsStandIn t = false by simpa using List.all_eq_true.1 hall t hm)⟩)
    (by kernel_rfl)
#print axioms WalLives_proved
end Go.Proofs.YtcjcccbjgooooaaGreatDoor
