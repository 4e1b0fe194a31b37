/- Texts of one claim, one behind the other: NobodyL5. -/
import Derived.Test.YtnllmkpbnccllaaDoorPn6
import Derived.Test.YtnllmkpbnccllaaDoorCards
import Derived.Test.YtnllmkpbnccllaaDoorTie
/- PairNobody of dryrotlaw05: for every input it returns true, and the input reads as it did; the variables the card lists as the program's text lays them (the card ties them). -/
namespace Go.Proofs.YtnllmkpbnccllaaDoor
open Go.ChangeShapes Go.WideShapes Go.ChangeAt Go.RowKit HP
set_option linter.unusedVariables false
structure Do5 where
  op : Int
  i : Int
  gen : Int
  name : ByteArray
  b : Sl Int
  step : StepV
def rdDo5 : Rd Do5 := rdMap (rdPair (rdInt .i64) (rdPair (rdInt .i64) (rdPair (rdInt .i64) (rdPair rdStr (rdPair (rdSl (rdInt .u8)) (rdPair rdStep rdEnd))))))
  (fun x => (⟨x.1, x.2.1, x.2.2.1, x.2.2.2.1, x.2.2.2.2.1, x.2.2.2.2.2.1⟩ : Do5)) (fun s => (s.op, s.i, s.gen, s.name, s.b, s.step, ())) (fun a => rfl)
theorem rdDo5_at : rdDo5.At Tryd.prog 27 :=
  rdStruct_at Tryd.underlying27 (total := 1 + (1 + (1 + (1 + (1 + (8 + 0)))))) (by kernel_rfl) (rdPair_fs rfl (by kernel_rfl) (rdInt_at Tryd.underlying3) (rdPair_fs rfl (by kernel_rfl) (rdInt_at Tryd.underlying3) (rdPair_fs rfl (by kernel_rfl) (rdInt_at Tryd.underlying3)
    (rdPair_fs rfl (by kernel_rfl) (rdStr_at Tryd.underlying9) (rdPair_fs rfl (by kernel_rfl) rdB_at (rdPair_fs rfl (by kernel_rfl) rdStep_at (rdEnd_fs _))))))) _ _ _
set_option maxRecDepth 100000 in
theorem pairNobody_lifted (os : Os) (started : os.Started) (H : Type) (enc : TypeId × Value → H) :
    ReturnsInHanded {} Tryd.checked os 3 .any (fun w args => (Rows.pairNobodySpec.pre enc Tryd.prog Tryd.f3 [] false w args ∧ laidMetH Tryd.prog laidAll w) ∧ sizedMet enc Tryd.prog Tryd.f3 (OpenSpec.ofChange Rows.pairNobodySpec) false w args) (Rows.pairNobodySpec.post enc Tryd.prog Tryd.f3 false true false false) := by
  refine returnsInHanded_of_change_and (C := Tryd.checked) (X := fun w _ => laidMetH Tryd.prog laidAll w) (fun _ _ _ hh h => h.of_heap hh) own started (by kernel_rfl) Tryd.func3
    (ChangeSpec.witness_shaped (enc := enc) (C := Tryd.checked) (os := os) (X := fun w _ => laidMetH Tryd.prog laidAll w) false (World.doorLaid Tryd.prog 400 os) #[.agg #[.int .i64 0, .int .i64 0, .int .i64 0, .string ⟨#[]⟩, .slice none 0 0, .int .i64 0, .int .i64 0, .int .i64 0, .int .i64 0, .string ⟨#[]⟩, .slice none 0 0, .int .u8 0, .slice none 0 0]] 8 rfl (World.shaped_of_RefB (by kernel_rfl) (by kernel_rfl)) (by kernel_rfl) (by kernel_rfl) (by kernel_rfl) (door_met os _)) ?_
  intro W base args ds gs before hval0 hW _ _ hL _
  have hval : ∀ (j : Nat) t v, Tryd.f3.params[j]? = some t → args[j]? = some v → Value.okWide Tryd.prog W .any base t v := hval0
  have hW' := hW
  obtain ⟨p, q, hA0, hV, rfl, _, _⟩ := hW
  have hA : DataW.TrodAll enc Tryd.prog W 0 (fun _ => true) true Tryd.f3.params.toList args.toList ds p := hA0
  rw [Tryd.params3] at hA hval
  obtain ⟨v0, d0, rfl, rfl, h0⟩ := trodAll_one hA
  obtain ⟨rfl, rfl⟩ := trodVars_none hV
  obtain ⟨a0, rfl, o0⟩ := agg_arg Tryd.underlying27 rdDo5_at (hval 0 _ v0 rfl rfl) h0
  clear hA0 hval0
  have hQ := quarter_of_laid hL
  refine (pairNobody_ok _ _ (.int .i64 a0.op) (.int .i64 a0.i) (.int .i64 a0.gen) (.string a0.name) a0.b.val (.int .i64 a0.step.op) (.int .i64 a0.step.i) (.int .i64 a0.step.at_) (.int .i64 a0.step.n) (.string a0.step.name) a0.step.b.val (.int .u8 a0.step.mask) a0.step.kept.val W (fun w hw => quarter_old hQ hw) Sat.start).mono
    fun e W' ⟨he, hs⟩ => ⟨_, he, law_post laidOut (by kernel_rfl) (by kernel_rfl) Tryd.underlying4 rfl rfl hW' (Sat.old_below (p := HP.emp) ?_)⟩
  rw [HP.mul_emp]; exact hs
theorem PairNobody_row : Rows.PairNobodySaid :=
  OpenClaim.holds_of_wide 3 Tryd.f3 rfl rfl rfl rfl rfl rfl rfl ⟨rfl, rfl, rfl, rfl, rfl⟩ rfl rfl rfl rfl rfl (by kernel_rfl) Tryd.func3 (by kernel_rfl)
    (of_decide_eq_true (by kernel_rfl)) (by unfold Func.isWrapper; first | (rw [if_pos (by decide +kernel)]; kernel_rfl) | (rw [if_neg (by decide +kernel)]; exact ⟨rfl, rfl⟩))
    (fun os started H enc _ => pairNobody_lifted os started H enc)
theorem PairNobody_proved : Rows.PairNobodyCardSaid :=
  Claim7.holds_tied_plain_at .later [] [.data] true (true, "d7a0cbd7e10e445eb51f9ce550078d89171518ce833393235c22cd29b9249b59") false
    PairNobody_row (fun _ h => by cases h) (by kernel_rfl) (fun _ h => by cases h) pairNobody_row_tie rfl ⟨rfl, rfl⟩ (by kernel_rfl) rfl
    (fun f fn hf hfn => by
      obtain rfl : f = 3 := Option.some.inj ((show Tryd.prog.funcNamed "dryrot/dryrotlaw05.PairNobody" = some 3 by kernel_rfl).symm.trans hf) |>.symm
      obtain rfl : fn = Tryd.f3 := (Option.some.inj (Tryd.func3.symm.trans hfn)).symm
      exact ⟨by kernel_rfl, fun j t ht => by
        rw [Tryd.params3] at ht
        have hm : t ∈ [27] := by
          have := Array.mem_of_getElem? ht
          simp at this ⊢
          omega
        have hall : ([27].all fun u => !Tryd.prog.wantsStandIn u) = true := by kernel_rfl
        exact (show Tryd.prog.wantsStandIn t = false by simpa using List.all_eq_true.1 hall t hm)⟩)
    (by kernel_rfl)
#print axioms PairNobody_proved
end Go.Proofs.YtnllmkpbnccllaaDoor
