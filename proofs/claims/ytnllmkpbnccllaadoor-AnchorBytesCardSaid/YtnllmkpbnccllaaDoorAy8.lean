/- Texts of one claim, one behind the other: AnchYL. -/
import Derived.Test.YtnllmkpbnccllaaDoorAy7
import Derived.Test.YtnllmkpbnccllaaDoorCards
import Derived.Test.YtnllmkpbnccllaaDoorTie
/- AnchorBytes of dryrotlaw17: for every input it returns true, and the input reads as it did; the variables the card lists as the program's text lays them (the card ties them). -/
namespace Go.Proofs.YtnllmkpbnccllaaDoor
open Go.ChangeShapes Go.WideShapes Go.ChangeAt Go.RowKit HP
set_option linter.unusedVariables false

set_option maxRecDepth 100000 in
theorem anchorBytes_lifted (os : Os) (started : os.Started) (H : Type) (enc : TypeId × Value → H) :
    ReturnsInHanded {} Tryd.checked os 9 .any (fun w args => (Rows.anchorBytesSpec.pre enc Tryd.prog Tryd.f9 [] false w args ∧ laidMetH Tryd.prog laidAll w) ∧ sizedMet enc Tryd.prog Tryd.f9 (OpenSpec.ofChange Rows.anchorBytesSpec) false w args) (Rows.anchorBytesSpec.post enc Tryd.prog Tryd.f9 false true false false) := by
  refine returnsInHanded_of_change_and (C := Tryd.checked) (X := fun w _ => laidMetH Tryd.prog laidAll w) (fun _ _ _ hh h => h.of_heap hh) own started (by kernel_rfl) Tryd.func9
    (ChangeSpec.witness_shaped (enc := enc) (C := Tryd.checked) (os := os) (X := fun w _ => laidMetH Tryd.prog laidAll w) false (World.doorLaid Tryd.prog 400 os) #[.agg #[.int .i64 0, .int .i64 0, .int .i64 0, .int .i64 0, .int .i64 0, .int .i64 0, .int .i64 0, .int .i64 0, .int .i64 0, .int .i64 0], .slice none 0 0] 8 rfl (World.shaped_of_RefB (by kernel_rfl) (by kernel_rfl)) (by kernel_rfl) (by kernel_rfl) (by kernel_rfl) (door_met os _)) ?_
  intro W base args ds gs before hval0 hW _ _ hL _
  have hval : ∀ (j : Nat) t v, Tryd.f9.params[j]? = some t → args[j]? = some v → Value.okWide Tryd.prog W .any base t v := hval0
  have hW' := hW
  obtain ⟨p, q, hA0, hV, rfl, _, _⟩ := hW
  have hA : DataW.TrodAll enc Tryd.prog W 0 (fun _ => true) true Tryd.f9.params.toList args.toList ds p := hA0
  rw [Tryd.params9] at hA hval
  obtain ⟨v0, v1, d0, d1, p0, p1, rfl, rfl, rfl, h0, h1⟩ := trodAll_two hA
  obtain ⟨rfl, rfl⟩ := trodVars_none hV
  obtain ⟨a0, rfl, o0⟩ := agg_arg Tryd.underlying71 rdAnch_at (hval 0 _ v0 rfl rfl) h0
  obtain ⟨s1, rfl, o1⟩ := sl_arg Tryd.underlying22 rdB_at (hval 1 _ v1 rfl rfl) h1
  have b1 := bytes_ok o1
  clear hA0 hval0
  have hQ := quarter_of_laid hL
  refine (anchorBytes_ok _ _ a0 s1.A s1.l s1.l.length s1.cap W (anch_ok o0) rfl b1.1 b1.2.1 b1.2.2.2 (fun w hw => quarter_old hQ hw) (fun w hw => b1.2.2.1.carry (old_carry hw)) Sat.start).mono
    fun e W' ⟨he, hs⟩ => ⟨_, he, law_post laidOut (by kernel_rfl) (by kernel_rfl) Tryd.underlying4 rfl rfl hW' (Sat.old_below (p := HP.emp) ?_)⟩
  rw [HP.mul_emp]; exact hs
theorem AnchorBytes_row : Rows.AnchorBytesSaid :=
  OpenClaim.holds_of_wide 9 Tryd.f9 rfl rfl rfl rfl rfl rfl rfl ⟨rfl, rfl, rfl, rfl, rfl⟩ rfl rfl rfl rfl rfl (by kernel_rfl) Tryd.func9 (by kernel_rfl)
    (of_decide_eq_true (by kernel_rfl)) (by unfold Func.isWrapper; first | (rw [if_pos (by decide +kernel)]; kernel_rfl) | (rw [if_neg (by decide +kernel)]; exact ⟨rfl, rfl⟩))
    (fun os started H enc _ => anchorBytes_lifted os started H enc)
theorem AnchorBytes_proved : Rows.AnchorBytesCardSaid :=
  Claim7.holds_tied_plain_at .later [] [.data] true (true, "d7a0cbd7e10e445eb51f9ce550078d89171518ce833393235c22cd29b9249b59") false
    AnchorBytes_row (fun _ h => by cases h) (by kernel_rfl) (fun _ h => by cases h) anchorBytes_row_tie rfl ⟨rfl, rfl⟩ (by kernel_rfl) rfl
    (fun f fn hf hfn => by
      obtain rfl : f = 9 := Option.some.inj ((show Tryd.prog.funcNamed "dryrot/dryrotlaw17.AnchorBytes" = some 9 by kernel_rfl).symm.trans hf) |>.symm
      obtain rfl : fn = Tryd.f9 := (Option.some.inj (Tryd.func9.symm.trans hfn)).symm
      exact ⟨by kernel_rfl, fun j t ht => by
        rw [Tryd.params9] at ht
        have hm : t ∈ [71, 22] := by
          have := Array.mem_of_getElem? ht
          simp at this ⊢
          omega
        have hall : ([71, 22].all fun u => !Tryd.prog.wantsStandIn u) = true := by kernel_rfl
        exact (show Tryd.prog.wantsStandIn t = false by simpa using List.all_eq_true.1 hall t hm)⟩)
    (by kernel_rfl)
#print axioms AnchorBytes_proved
end Go.Proofs.YtnllmkpbnccllaaDoor
