/- PairHalf of dryrotlaw05: for every input it returns true, and the input reads as it did; the variables the card lists as the program's text lays them (the card ties them). -/
import Derived.Test.YtanlgadijndmaaaDoorPh2
import Derived.Test.YtanlgadijndmaaaDoorCards
import Derived.Test.YtanlgadijndmaaaDoorTie
namespace Go.Proofs.YtanlgadijndmaaaDoor
open Go.ChangeShapes Go.WideShapes Go.ChangeAt Go.RowKit HP
set_option linter.unusedVariables false

set_option maxRecDepth 100000 in
theorem pairHalf_lifted (os : Os) (started : os.Started) (H : Type) (enc : TypeId × Value → H) :
    ReturnsInHanded {} Tryd.checked os 7 .any (fun w args => (Rows.pairHalfSpec.pre enc Tryd.prog Tryd.f7 [] false w args ∧ laidMetH Tryd.prog laidAll w) ∧ sizedMet enc Tryd.prog Tryd.f7 (OpenSpec.ofChange Rows.pairHalfSpec) false w args) (Rows.pairHalfSpec.post enc Tryd.prog Tryd.f7 false true false false) := by
  refine returnsInHanded_of_change_and (C := Tryd.checked) (X := fun w _ => laidMetH Tryd.prog laidAll w) (fun _ _ _ hh h => h.of_heap hh) own started (by kernel_rfl) Tryd.func7
    (ChangeSpec.witness_shaped (enc := enc) (C := Tryd.checked) (os := os) (X := fun w _ => laidMetH Tryd.prog laidAll w) false (World.doorLaid Tryd.prog 400 os) #[.slice none 0 0, .int .i64 0, .bool false, .slice none 0 0] 8 rfl (World.shaped_of_RefB (by kernel_rfl) (by kernel_rfl)) (by kernel_rfl) (by kernel_rfl) (by kernel_rfl) (door_met os _)) ?_
  intro W base args ds gs before hval0 hW _ _ hL _
  have hval : ∀ (j : Nat) t v, Tryd.f7.params[j]? = some t → args[j]? = some v → Value.okWide Tryd.prog W .any base t v := hval0
  have hW' := hW
  obtain ⟨p, q, hA0, hV, rfl, _, _⟩ := hW
  have hA : DataW.TrodAll enc Tryd.prog W 0 (fun _ => true) true Tryd.f7.params.toList args.toList ds p := hA0
  rw [Tryd.params7] at hA hval
  obtain ⟨v0, v1, v2, v3, d0, d1, d2, d3, p0, p1, p2, p3, rfl, rfl, rfl, h0, h1, h2, h3⟩ := trodAll_four hA
  obtain ⟨rfl, rfl⟩ := trodVars_none hV
  obtain ⟨s0, rfl, o0⟩ := sl_arg Tryd.underlying52 rdB_at (hval 0 _ v0 rfl rfl) h0
  have b0 := bytes_ok o0
  obtain ⟨f1, rfl, z1⟩ := int_arg Tryd.underlying3 (hval 1 _ v1 rfl rfl) h1
  obtain ⟨f2, rfl⟩ := bool_arg Tryd.underlying4 (hval 2 _ v2 rfl rfl)
  obtain ⟨s3, rfl, o3⟩ := sl_arg Tryd.underlying47 rdIs_at (hval 3 _ v3 rfl rfl) h3
  have b3 := is_ok o3
  clear hA0 hval0
  have hQ := quarter_of_laid hL
  refine (pairHalf_ok _ _ s0.A s0.l s0.l.length s0.cap f1 f2 s3 W rfl b0.1 b0.2.1 b0.2.2.2 ⟨b3.1, b3.2.1⟩ (fun E w hw => ⟨quarter_old hQ hw, b0.2.2.1.carry (old_carry hw), b3.2.2.1.carry (old_carry hw)⟩) Sat.start).mono
    fun e W' ⟨he, hs⟩ => ⟨_, he, law_post laidOut (by kernel_rfl) (by kernel_rfl) Tryd.underlying4 rfl rfl hW' (Sat.old_below (p := HP.emp) ?_)⟩
  rw [HP.mul_emp]; exact hs
theorem PairHalf_row : Rows.PairHalfSaid :=
  OpenClaim.holds_of_wide 7 Tryd.f7 rfl rfl rfl rfl rfl rfl rfl ⟨rfl, rfl, rfl, rfl, rfl⟩ rfl rfl rfl rfl rfl (by kernel_rfl) Tryd.func7 (by kernel_rfl)
    (of_decide_eq_true (by kernel_rfl)) (by unfold Func.isWrapper; first | (rw [if_pos (by decide +kernel)]; kernel_rfl) | (rw [if_neg (by decide +kernel)]; exact ⟨rfl, rfl⟩))
    (fun os started H enc _ => pairHalf_lifted os started H enc)
theorem PairHalf_proved : Rows.PairHalfCardSaid :=
  Claim7.holds_tied_plain_at .later [] [.data] true (true, "6f89d6fff84cf049a176609c9330a35ed6fa9ddacef64f073cecf6be9a8cf87b") true
    PairHalf_row (fun _ h => by cases h) (by kernel_rfl) (fun _ h => by cases h) pairHalf_row_tie rfl ⟨rfl, rfl⟩ (by kernel_rfl) rfl
    (fun f fn hf hfn => by
      obtain rfl : f = 7 := Option.some.inj ((show Tryd.prog.funcNamed "dryrot/dryrotlaw05.PairHalf" = some 7 by kernel_rfl).symm.trans hf) |>.symm
      obtain rfl : fn = Tryd.f7 := (Option.some.inj (Tryd.func7.symm.trans hfn)).symm
      exact ⟨by kernel_rfl, fun j t ht => by
        rw [Tryd.params7] at ht
        have hm : t ∈ [52, 3, 4, 47] := by
          have := Array.mem_of_getElem? ht
          simp at this ⊢
          omega
        have hall : ([52, 3, 4, 47].all fun u => !Tryd.prog.wantsStandIn u) = true := by kernel_rfl
        exact (show Tryd.prog.wantsStandIn t = false by simpa using List.all_eq_true.1 hall t hm)⟩)
    (by kernel_rfl)
#print axioms PairHalf_proved
end Go.Proofs.YtanlgadijndmaaaDoor
