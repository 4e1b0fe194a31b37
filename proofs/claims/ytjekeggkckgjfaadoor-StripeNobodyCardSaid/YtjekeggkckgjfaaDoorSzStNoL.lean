/- StripeNobody of dryrotlaw06: for every input it returns true, and the input reads as it did; the variables the card lists as the program's text lays them (the card ties them). -/
import Derived.Test.YtjekeggkckgjfaaDoorSz11
import Derived.Test.YtjekeggkckgjfaaDoorCards
import Derived.Test.YtjekeggkckgjfaaDoorTie
namespace Go.Proofs.YtjekeggkckgjfaaDoor
open Go.ChangeShapes Go.WideShapes Go.ChangeAt Go.RowKit HP
set_option linter.unusedVariables false
structure Do6 where
  op : Int
  i : Int
  gen : Int
  from_ : Int
  size : Int
  name : ByteArray
  b : Sl Int
  step : StepV
def rdDo6 : Rd Do6 := rdMap (rdPair (rdInt .i64) (rdPair (rdInt .i64) (rdPair (rdInt .i64) (rdPair (rdInt .i64) (rdPair (rdInt .i64) (rdPair rdStr (rdPair (rdSl (rdInt .u8)) (rdPair rdStep rdEnd))))))))
  (fun x => (⟨x.1, x.2.1, x.2.2.1, x.2.2.2.1, x.2.2.2.2.1, x.2.2.2.2.2.1, x.2.2.2.2.2.2.1, x.2.2.2.2.2.2.2.1⟩ : Do6)) (fun s => (s.op, s.i, s.gen, s.from_, s.size, s.name, s.b, s.step, ())) (fun a => rfl)
theorem rdDo6_at : rdDo6.At Tryd.prog 41 :=
  rdStruct_at Tryd.underlying41 (total := 1 + (1 + (1 + (1 + (1 + (1 + (1 + (8 + 0)))))))) (by kernel_rfl) (rdPair_fs rfl (by kernel_rfl) (rdInt_at Tryd.underlying3) (rdPair_fs rfl (by kernel_rfl) (rdInt_at Tryd.underlying3) (rdPair_fs rfl (by kernel_rfl) (rdInt_at Tryd.underlying3) (rdPair_fs rfl (by kernel_rfl) (rdInt_at Tryd.underlying3) (rdPair_fs rfl (by kernel_rfl) (rdInt_at Tryd.underlying3)
    (rdPair_fs rfl (by kernel_rfl) (rdStr_at Tryd.underlying9) (rdPair_fs rfl (by kernel_rfl) rdB_at (rdPair_fs rfl (by kernel_rfl) rdStep_at (rdEnd_fs _))))))))) _ _ _
set_option maxRecDepth 100000 in
theorem stripeNobody_lifted (os : Os) (started : os.Started) (H : Type) (enc : TypeId × Value → H) :
    ReturnsInHanded {} Tryd.checked os 5 .any (fun w args => (Rows.stripeNobodySpec.pre enc Tryd.prog Tryd.f5 [] false w args ∧ laidMetH Tryd.prog laidU w) ∧ sizedMet enc Tryd.prog Tryd.f5 (OpenSpec.ofChange Rows.stripeNobodySpec) false w args) (Rows.stripeNobodySpec.post enc Tryd.prog Tryd.f5 false true false false) := by
  refine returnsInHanded_of_change_and (C := Tryd.checked) (X := fun w _ => laidMetH Tryd.prog laidU w) (fun _ _ _ hh h => h.of_heap hh) own started (by kernel_rfl) Tryd.func5
    (ChangeSpec.witness_shaped (enc := enc) (C := Tryd.checked) (os := os) (X := fun w _ => laidMetH Tryd.prog laidU w) false (World.laidAll Tryd.prog os laidU) #[.agg #[.int .i64 0, .int .i64 0, .int .i64 0, .int .i64 0, .int .i64 0, .string ⟨#[]⟩, .slice none 0 0, .int .i64 0, .int .i64 0, .int .i64 0, .int .i64 0, .string ⟨#[]⟩, .slice none 0 0, .int .u8 0, .slice none 0 0]] 8 (World.laidAll_os _ _ _) (World.shaped_of_ZipB (by kernel_rfl) (by kernel_rfl)) (by kernel_rfl) (by kernel_rfl) (by kernel_rfl) (door_metU os _)) ?_
  intro W base args ds gs before hval0 hW _ _ hL _
  have hval : ∀ (j : Nat) t v, Tryd.f5.params[j]? = some t → args[j]? = some v → Value.okWide Tryd.prog W .any base t v := hval0
  have hW' := hW
  obtain ⟨p, q, hA0, hV, rfl, _, _⟩ := hW
  have hA : DataW.TrodAll enc Tryd.prog W 0 (fun _ => true) true Tryd.f5.params.toList args.toList ds p := hA0
  rw [Tryd.params5] at hA hval
  obtain ⟨v0, d0, rfl, rfl, h0⟩ := trodAll_one hA
  obtain ⟨rfl, rfl⟩ := trodVars_none hV
  obtain ⟨a0, rfl, o0⟩ := agg_arg Tryd.underlying41 rdDo6_at (hval 0 _ v0 rfl rfl) h0
  clear hA0 hval0
  have hQ := laidU_reads hL
  refine (stripeNobody_ok _ _ (.int .i64 a0.op) (.int .i64 a0.i) (.int .i64 a0.gen) (.int .i64 a0.from_) (.int .i64 a0.size) (.string a0.name) a0.b.val (.int .i64 a0.step.op) (.int .i64 a0.step.i) (.int .i64 a0.step.at_) (.int .i64 a0.step.n) (.string a0.step.name) a0.step.b.val (.int .u8 a0.step.mask) a0.step.kept.val W (fun w hw => quarter_old hQ hw) Sat.start).mono
    fun e W' ⟨he, hs⟩ => ⟨_, he, law_post laidOut (by kernel_rfl) (by kernel_rfl) Tryd.underlying4 rfl rfl hW' (Sat.old_below (p := HP.emp) ?_)⟩
  rw [HP.mul_emp]; exact hs
theorem StripeNobody_row : Rows.StripeNobodySaid :=
  OpenClaim.holds_of_wide 5 Tryd.f5 rfl rfl rfl rfl rfl rfl rfl ⟨rfl, rfl, rfl, rfl, rfl⟩ rfl rfl rfl rfl rfl (by kernel_rfl) Tryd.func5 (by kernel_rfl)
    (of_decide_eq_true (by kernel_rfl)) (by unfold Func.isWrapper; first | (rw [if_pos (by decide +kernel)]; kernel_rfl) | (rw [if_neg (by decide +kernel)]; exact ⟨rfl, rfl⟩))
    (fun os started H enc _ => stripeNobody_lifted os started H enc)
theorem StripeNobody_proved : Rows.StripeNobodyCardSaid :=
  Claim7.holds_tied_plain_at .later [] [.data, .data, .pinned] true (true, "3a41e77a71fd0ae4a6164257e498d13b61f909004396b166a91ca29da3340a97") false
    StripeNobody_row (fun _ h => by cases h) (by kernel_rfl) (fun _ h => by cases h) stripeNobody_row_tie rfl ⟨rfl, rfl⟩ (by kernel_rfl) rfl
    (fun f fn hf hfn => by
      obtain rfl : f = 5 := Option.some.inj ((show Tryd.prog.funcNamed "dryrot/dryrotlaw06.StripeNobody" = some 5 by kernel_rfl).symm.trans hf) |>.symm
      obtain rfl : fn = Tryd.f5 := (Option.some.inj (Tryd.func5.symm.trans hfn)).symm
      exact ⟨by kernel_rfl, fun j t ht => by
        rw [Tryd.params5] at ht
        have hm : t ∈ [41] := by
          have := Array.mem_of_getElem? ht
          simp at this ⊢
          omega
        have hall : ([41].all fun u => !Tryd.prog.wantsStandIn u) = true := by kernel_rfl
        exact (show Tryd.prog.wantsStandIn t = false by simpa using List.all_eq_true.1 hall t hm)⟩)
    (by kernel_rfl)
#print axioms StripeNobody_proved
end Go.Proofs.YtjekeggkckgjfaaDoor
