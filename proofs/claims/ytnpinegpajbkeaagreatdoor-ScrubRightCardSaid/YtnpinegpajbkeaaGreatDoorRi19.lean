/- Texts of one claim, one behind the other: ScRiL. -/
import Derived.Test.YtnpinegpajbkeaaGreatDoorRi18
import Derived.Test.YtnpinegpajbkeaaGreatDoorCards
import Derived.Test.YtnpinegpajbkeaaGreatDoorTie
set_option linter.unusedSimpArgs false
set_option linter.unusedVariables false
namespace Go.Proofs.YtnpinegpajbkeaaGreatDoor
open Go.ChangeShapes Go.WideShapes Go.ChangeAt Go.RowKit HP
set_option maxRecDepth 100000 in
theorem scrubRight_lifted (os : Os) (started : os.Started) (H : Type) (enc : TypeId × Value → H) :
    ReturnsInHanded {} Tryz.checked os 6 .any (fun w args => (Rows.scrubRightSpec.pre enc Tryz.prog Tryz.f6 [] false w args ∧ laidMetH Tryz.prog laid6 w) ∧ sizedMet enc Tryz.prog Tryz.f6 (OpenSpec.ofChange Rows.scrubRightSpec) false w args) (Rows.scrubRightSpec.post enc Tryz.prog Tryz.f6 false true false false) := by
  refine returnsInHanded_of_change_and (C := Tryz.checked) (X := fun w _ => laidMetH Tryz.prog laid6 w) (fun _ _ _ hh h => h.of_heap hh) own started (by kernel_rfl) Tryz.func6
    (ChangeSpec.witness_shaped (enc := enc) (C := Tryz.checked) (os := os) (X := fun w _ => laidMetH Tryz.prog laid6 w) false (World.laidAll Tryz.prog os laid6) #[.slice none 0 0, .agg #[.int .i64 0, .string ⟨#[]⟩, .int .i64 0, .int .i64 0]] 8 (World.laidAll_os _ _ _) (World.shaped_of_ZipB (by kernel_rfl) (by kernel_rfl)) (by kernel_rfl) (by kernel_rfl) (by kernel_rfl) (door_met6 os _)) ?_
  intro W base args ds gs before hval0 hW _ hx2 hL _
  have hreach0 := hx2
  have hval : ∀ (j : Nat) t v, Tryz.f6.params[j]? = some t → args[j]? = some v → Value.okWide Tryz.prog W .any base t v := hval0
  have hW' := hW
  obtain ⟨p, q, hA0, hV, rfl, _, _⟩ := hW
  have hA : DataW.TrodAll enc Tryz.prog W 0 (fun _ => true) true Tryz.f6.params.toList args.toList ds p := hA0
  rw [Tryz.params6] at hA hval
  obtain ⟨v0, v1, d0, d1, p0, p1, rfl, rfl, rfl, h0, h1⟩ := trodAll_two hA
  obtain ⟨rfl, rfl⟩ := trodVars_none hV
  have hreach : ∀ n ∈ DataW.weightsEach Tryz.prog (Tryz.f6.params.toList ++ []) ([d0, d1] ++ []), n ≤ reachBytes := fun n hn => by simpa using List.all_eq_true.1 hreach0 n hn
  obtain ⟨s0, rfl, o0⟩ := sl_arg Tryz.underlying22 rdSteps_at (hval 0 _ v0 rfl rfl) h0
  obtain ⟨a1, rfl, o1, r1⟩ := agg_argZ Tryz.underlying37 rdGrp_atZ (hval 1 _ v1 rfl rfl) h1 (fun n hn => hreach n (weightsEach_mem (i := 1) (u := 37) (d := d1) rfl rfl hn))
  clear hA0 hval0
  have hQ := laid6_reads hL
  refine (scrubRight_ok _ _ s0 a1 W (steps_old o0) (by have := grp_sz r1; unfold maxLen; omega) (grp_ok o1).2.2.1 (fun E w hw => ⟨quarter_old hQ.1 hw, tab_old hQ.2 hw⟩) Sat.start).mono
    fun e W' ⟨he, hs⟩ => ⟨_, he, law_post laidOut (by kernel_rfl) (by kernel_rfl) Tryz.underlying4 rfl rfl hW' (Sat.old_below (p := HP.emp) ?_)⟩
  rw [HP.mul_emp]; exact hs
theorem ScrubRight_row : Rows.ScrubRightSaid :=
  OpenClaim.holds_of_wide 6 Tryz.f6 rfl rfl rfl rfl rfl rfl rfl ⟨rfl, rfl, rfl, rfl, rfl⟩ rfl rfl rfl rfl rfl (by kernel_rfl) Tryz.func6 (by kernel_rfl)
    (of_decide_eq_true (by kernel_rfl)) (by unfold Func.isWrapper; first | (rw [if_pos (by decide +kernel)]; kernel_rfl) | (rw [if_neg (by decide +kernel)]; exact ⟨rfl, rfl⟩))
    (fun os started H enc _ => scrubRight_lifted os started H enc)
theorem ScrubRight_proved : Rows.ScrubRightCardSaid :=
  Claim7.holds_tied_plain_at .later [] [.data, .data, .data, .data, .data, .pinned] true (true, "9220ad7653e8ec592318efea94a22e86f0e3c35c507f34b592eab532287fa5a1") true
    ScrubRight_row (fun _ h => by cases h) (by kernel_rfl) (fun _ h => by cases h) scrubRight_row_tie rfl ⟨rfl, rfl⟩ (by kernel_rfl) rfl
    (fun f fn hf hfn => by
      obtain rfl : f = 6 := Option.some.inj ((show Tryz.prog.funcNamed "dryrot/dryrotlaw20.ScrubRight" = some 6 by kernel_rfl).symm.trans hf) |>.symm
      obtain rfl : fn = Tryz.f6 := (Option.some.inj (Tryz.func6.symm.trans hfn)).symm
      exact ⟨by kernel_rfl, fun j t ht => by
        rw [Tryz.params6] at ht
        have hm : t ∈ [22, 37] := by simpa using Array.mem_of_getElem? ht
        have hall : ([22, 37].all fun u => !Tryz.prog.wantsStandIn u) = true := by kernel_rfl
        exact (show Tryz.prog.wantsStandIn t = false by simpa using List.all_eq_true.1 hall t hm)⟩)
    (by kernel_rfl)
#print axioms ScrubRight_proved
end Go.Proofs.YtnpinegpajbkeaaGreatDoor
