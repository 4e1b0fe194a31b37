/- Texts of one claim, one behind the other: StOnL. -/
import Derived.Test.YtnpinegpajbkeaaDoorOn10
import Derived.Test.YtnpinegpajbkeaaDoorCards
import Derived.Test.YtnpinegpajbkeaaDoorTie
/- StripeOne of dryrotlaw06: for every input it returns true, and the input reads as it did; the variables the card lists as the program's text lays them (the card ties them). -/
namespace Go.Proofs.YtnpinegpajbkeaaDoor
open Go.ChangeShapes Go.WideShapes Go.ChangeAt Go.RowKit HP
set_option linter.unusedVariables false

set_option maxRecDepth 100000 in
theorem stripeOne_lifted (os : Os) (started : os.Started) (H : Type) (enc : TypeId × Value → H) :
    ReturnsInHanded {} Tryd.checked os 6 .any (fun w args => (Rows.stripeOneSpec.pre enc Tryd.prog Tryd.f6 [] false w args ∧ laidMetH Tryd.prog laidU w) ∧ sizedMet enc Tryd.prog Tryd.f6 (OpenSpec.ofChange Rows.stripeOneSpec) false w args) (Rows.stripeOneSpec.post enc Tryd.prog Tryd.f6 false true false false) := by
  refine returnsInHanded_of_change_and (C := Tryd.checked) (X := fun w _ => laidMetH Tryd.prog laidU w) (fun _ _ _ hh h => h.of_heap hh) own started (by kernel_rfl) Tryd.func6
    (ChangeSpec.witness_shaped (enc := enc) (C := Tryd.checked) (os := os) (X := fun w _ => laidMetH Tryd.prog laidU w) false (World.laidAll Tryd.prog os laidU) #[.slice none 0 0, .slice none 0 0] 8 (World.laidAll_os _ _ _) (World.shaped_of_ZipB (by kernel_rfl) (by kernel_rfl)) (by kernel_rfl) (by kernel_rfl) (by kernel_rfl) (door_metU os _)) ?_
  intro W base args ds gs before hval0 hW _ _ hL _
  have hval : ∀ (j : Nat) t v, Tryd.f6.params[j]? = some t → args[j]? = some v → Value.okWide Tryd.prog W .any base t v := hval0
  have hW' := hW
  obtain ⟨p, q, hA0, hV, rfl, _, _⟩ := hW
  have hA : DataW.TrodAll enc Tryd.prog W 0 (fun _ => true) true Tryd.f6.params.toList args.toList ds p := hA0
  rw [Tryd.params6] at hA hval
  obtain ⟨v0, v1, d0, d1, p0, p1, rfl, rfl, rfl, h0, h1⟩ := trodAll_two hA
  obtain ⟨rfl, rfl⟩ := trodVars_none hV
  obtain ⟨s0, rfl, o0⟩ := sl_arg Tryd.underlying47 rdB_at (hval 0 _ v0 rfl rfl) h0
  have b0 := bytes_ok o0
  obtain ⟨s1, rfl, o1⟩ := sl_arg Tryd.underlying48 rdIs_at (hval 1 _ v1 rfl rfl) h1
  have b1 := is_ok o1
  clear hA0 hval0
  have hQ := laidU_reads hL
  refine (stripeOne_ok _ _ s0.A s0.l s0.l.length s0.cap s1 W rfl b0.1 b0.2.1 b0.2.2.2 ⟨b1.1, b1.2.1⟩ (fun w hw => ⟨quarter_old hQ hw, b0.2.2.1.carry (old_carry hw), b1.2.2.1.carry (old_carry hw)⟩) Sat.start).mono
    fun e W' ⟨he, hs⟩ => ⟨_, he, law_post laidOut (by kernel_rfl) (by kernel_rfl) Tryd.underlying4 rfl rfl hW' (Sat.old_below (p := HP.emp) ?_)⟩
  rw [HP.mul_emp]; exact hs
theorem StripeOne_row : Rows.StripeOneSaid :=
  OpenClaim.holds_of_wide 6 Tryd.f6 rfl rfl rfl rfl rfl rfl rfl ⟨rfl, rfl, rfl, rfl, rfl⟩ rfl rfl rfl rfl rfl (by kernel_rfl) Tryd.func6 (by kernel_rfl)
    (of_decide_eq_true (by kernel_rfl)) (by unfold Func.isWrapper; first | (rw [if_pos (by decide +kernel)]; kernel_rfl) | (rw [if_neg (by decide +kernel)]; exact ⟨rfl, rfl⟩))
    (fun os started H enc _ => stripeOne_lifted os started H enc)
theorem StripeOne_proved : Rows.StripeOneCardSaid :=
  Claim7.holds_tied_plain_at .later [] [.data, .data, .pinned] true (true, "2cbda1e8b159bfcdbe2f0752d723988249ed65d4cdca883f26e2f684da767f5a") true
    StripeOne_row (fun _ h => by cases h) (by kernel_rfl) (fun _ h => by cases h) stripeOne_row_tie rfl ⟨rfl, rfl⟩ (by kernel_rfl) rfl
    (fun f fn hf hfn => by
      obtain rfl : f = 6 := Option.some.inj ((show Tryd.prog.funcNamed "dryrot/dryrotlaw06.StripeOne" = some 6 by kernel_rfl).symm.trans hf) |>.symm
      obtain rfl : fn = Tryd.f6 := (Option.some.inj (Tryd.func6.symm.trans hfn)).symm
      exact ⟨by kernel_rfl, fun j t ht => by
        rw [Tryd.params6] at ht
        have hm : t ∈ [47, 48] := by simpa using Array.mem_of_getElem? ht
        have hall : ([47, 48].all fun u => !Tryd.prog.wantsStandIn u) = true := by kernel_rfl
        exact (show Tryd.prog.wantsStandIn t = false by simpa using List.all_eq_true.1 hall t hm)⟩)
    (by kernel_rfl)
#print axioms StripeOne_proved
end Go.Proofs.YtnpinegpajbkeaaDoor
