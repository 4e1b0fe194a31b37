/- Texts of one claim, one behind the other: SavL. -/
import Derived.Test.YtanlgadijndmaaaDoorSv9
import Derived.Test.YtanlgadijndmaaaDoorCards
import Derived.Test.YtanlgadijndmaaaDoorTie
/- AnchorSaves of dryrotlaw17: for every input it returns true, and the input reads as it did; the variables the card lists as the program's text lays them (the card ties them). -/
namespace Go.Proofs.YtanlgadijndmaaaDoor
open Go.ChangeShapes Go.WideShapes Go.ChangeAt Go.RowKit HP
set_option linter.unusedVariables false

set_option maxRecDepth 100000 in
theorem anchorSaves_lifted (os : Os) (started : os.Started) (H : Type) (enc : TypeId × Value → H) :
    ReturnsInHanded {} Tryd.checked os 6 .any (fun w args => (Rows.anchorSavesSpec.pre enc Tryd.prog Tryd.f6 [] false w args ∧ laidMetH Tryd.prog laidAll w) ∧ sizedMet enc Tryd.prog Tryd.f6 (OpenSpec.ofChange Rows.anchorSavesSpec) false w args) (Rows.anchorSavesSpec.post enc Tryd.prog Tryd.f6 false true false false) := by
  refine returnsInHanded_of_change_and (C := Tryd.checked) (X := fun w _ => laidMetH Tryd.prog laidAll w) (fun _ _ _ hh h => h.of_heap hh) own started (by kernel_rfl) Tryd.func6
    (ChangeSpec.witness_shaped (enc := enc) (C := Tryd.checked) (os := os) (X := fun w _ => laidMetH Tryd.prog laidAll w) false (World.doorLaid Tryd.prog 400 os) #[.agg #[.int .i64 0, .int .i64 0, .int .i64 0, .int .i64 0, .int .i64 0, .int .i64 0, .int .i64 0, .int .i64 0, .int .i64 0, .int .i64 0], .bool false, .slice none 0 0, .int .i64 0] 8 rfl (World.shaped_of_RefB (by kernel_rfl) (by kernel_rfl)) (by kernel_rfl) (by kernel_rfl) (by kernel_rfl) (door_met os _)) ?_
  intro W base args ds gs before hval0 hW _ _ hL _
  have hval : ∀ (j : Nat) t v, Tryd.f6.params[j]? = some t → args[j]? = some v → Value.okWide Tryd.prog W .any base t v := hval0
  have hW' := hW
  obtain ⟨p, q, hA0, hV, rfl, _, _⟩ := hW
  have hA : DataW.TrodAll enc Tryd.prog W 0 (fun _ => true) true Tryd.f6.params.toList args.toList ds p := hA0
  rw [Tryd.params6] at hA hval
  obtain ⟨v0, v1, v2, v3, d0, d1, d2, d3, p0, p1, p2, p3, rfl, rfl, rfl, h0, h1, h2, h3⟩ := trodAll_four hA
  obtain ⟨rfl, rfl⟩ := trodVars_none hV
  obtain ⟨a0, rfl, o0⟩ := agg_arg Tryd.underlying34 rdAnch_at (hval 0 _ v0 rfl rfl) h0
  obtain ⟨f1, rfl⟩ := bool_arg Tryd.underlying4 (hval 1 _ v1 rfl rfl)
  obtain ⟨s2, rfl, o2⟩ := sl_arg Tryd.underlying47 rdIs_at (hval 2 _ v2 rfl rfl) h2
  have b2 := is_ok o2
  obtain ⟨f3, rfl, z3⟩ := int_arg Tryd.underlying3 (hval 3 _ v3 rfl rfl) h3
  clear hA0 hval0
  have hQ := quarter_of_laid hL
  refine (anchorSaves_ok _ _ a0 f1 s2 f3 W (anch_ok o0) (wf64_of z3) ⟨b2.1, b2.2.1⟩ (fun E w hw => ⟨quarter_old hQ hw, b2.2.2.1.carry (old_carry hw)⟩) Sat.start).mono
    fun e W' ⟨he, hs⟩ => ⟨_, he, law_post laidOut (by kernel_rfl) (by kernel_rfl) Tryd.underlying4 rfl rfl hW' (Sat.old_below (p := HP.emp) ?_)⟩
  rw [HP.mul_emp]; exact hs
theorem AnchorSaves_row : Rows.AnchorSavesSaid :=
  OpenClaim.holds_of_wide 6 Tryd.f6 rfl rfl rfl rfl rfl rfl rfl ⟨rfl, rfl, rfl, rfl, rfl⟩ rfl rfl rfl rfl rfl (by kernel_rfl) Tryd.func6 (by kernel_rfl)
    (of_decide_eq_true (by kernel_rfl)) (by unfold Func.isWrapper; first | (rw [if_pos (by decide +kernel)]; kernel_rfl) | (rw [if_neg (by decide +kernel)]; exact ⟨rfl, rfl⟩))
    (fun os started H enc _ => anchorSaves_lifted os started H enc)
theorem AnchorSaves_proved : Rows.AnchorSavesCardSaid :=
  Claim7.holds_tied_plain_at .later [] [.data] true (true, "6f89d6fff84cf049a176609c9330a35ed6fa9ddacef64f073cecf6be9a8cf87b") true
    AnchorSaves_row (fun _ h => by cases h) (by kernel_rfl) (fun _ h => by cases h) anchorSaves_row_tie rfl ⟨rfl, rfl⟩ (by kernel_rfl) rfl
    (fun f fn hf hfn => by
      obtain rfl : f = 6 := Option.some.inj ((show Tryd.prog.funcNamed "dryrot/dryrotlaw17.AnchorSaves" = some 6 by kernel_rfl).symm.trans hf) |>.symm
      obtain rfl : fn = Tryd.f6 := (Option.some.inj (Tryd.func6.symm.trans hfn)).symm
      exact ⟨by kernel_rfl, fun j t ht => by
        rw [Tryd.params6] at ht
        have hm : t ∈ [34, 4, 47, 3] := by
          have := Array.mem_of_getElem? ht
          simp at this ⊢
          omega
        have hall : ([34, 4, 47, 3].all fun u => !Tryd.prog.wantsStandIn u) = true := by kernel_rfl
        exact (show Tryd.prog.wantsStandIn t = false by simpa using List.all_eq_true.1 hall t hm)⟩)
    (by kernel_rfl)
#print axioms AnchorSaves_proved
end Go.Proofs.YtanlgadijndmaaaDoor
