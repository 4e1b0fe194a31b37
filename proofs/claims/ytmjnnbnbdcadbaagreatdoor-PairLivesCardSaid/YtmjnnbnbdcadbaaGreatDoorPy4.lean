/- A pair's calls as a law's argument. -/
import Derived.Test.YtmjnnbnbdcadbaaGreatDoorPy3
import Derived.Test.YtmjnnbnbdcadbaaGreatDoorCards
import Derived.Test.YtmjnnbnbdcadbaaGreatDoorTie
namespace Go.Proofs.YtmjnnbnbdcadbaaGreatDoor
open Go.ChangeShapes Go.WideShapes Go.ChangeAt Go.RowKit HP
set_option linter.unusedVariables false

def rdDo : Rd DoV := rdMap (rdPair (rdInt .i64) (rdPair (rdInt .i64) (rdPair (rdInt .i64) (rdPair rdStr (rdPair (rdSl (rdInt .u8)) (rdPair rdStep rdEnd))))))
  (fun x => (⟨x.1, x.2.1, x.2.2.1, x.2.2.2.1, x.2.2.2.2.1, x.2.2.2.2.2.1⟩ : DoV)) (fun s => (s.op, s.i, s.gen, s.name, s.b, s.s, ())) (fun a => rfl)
def DoV.sz (k : DoV) : List Nat := [] ++ ([] ++ ([] ++ ([k.name.size] ++ ((k.b.cap * 1 :: k.b.l.flatMap fun _ => []) ++ ([] ++ [])))))
theorem rdDo_atZ : rdDo.AtZ DoV.sz Tryz.prog 45 :=
  rdStruct_atZ Tryz.underlying45 (total := 1 + (1 + (1 + (1 + (1 + (8 + 0)))))) (by kernel_rfl) (rdPair_fsZ rfl (by kernel_rfl) (Rd.At.toZ (rdInt_at Tryz.underlying3)) (rdPair_fsZ rfl (by kernel_rfl) (Rd.At.toZ (rdInt_at Tryz.underlying3)) (rdPair_fsZ rfl (by kernel_rfl) (Rd.At.toZ (rdInt_at Tryz.underlying3))
    (rdPair_fsZ rfl (by kernel_rfl) (rdStr_atZ Tryz.underlying9) (rdPair_fsZ rfl (by kernel_rfl) (rdSl_atZ (n := 1) (b := 1) Tryz.underlying34 (by kernel_rfl) (by kernel_rfl) (Rd.At.toZ (rdInt_at Tryz.underlying5))) (rdPair_fsZ rfl (by kernel_rfl) (Rd.At.toZ rdStep_at) (rdEnd_fsZ _))))))) _ _ _
theorem rdDos_atZ : (rdSl rdDo).AtZ (fun s => s.cap * 168 :: s.l.flatMap DoV.sz) Tryz.prog 43 := rdSl_atZ (n := 13) Tryz.underlying43 (by kernel_rfl) (by kernel_rfl) rdDo_atZ
theorem dos_in {W : World} {s : Sl DoV} (h : (rdSl rdDo).ok W s) (hz : ∀ n ∈ s.cap * 168 :: s.l.flatMap DoV.sz, n ≤ reachBytes) : DosIn (HP.old W) s := by
  have hr : reachBytes = 140737488351232 := by decide
  have hk : ∀ k ∈ s.l, wf64 k.op ∧ wf64 k.i ∧ wf64 k.gen ∧ (k.b.l.length ≤ k.b.cap ∧ k.b.cap ≤ maxLen ∧ Cells W k.b.A (b8s k.b.l) ∧ Bytes k.b.l) ∧ k.s.Ok W := fun k hk => by
    obtain ⟨h1, h2, h3, h4, h5, h6, -⟩ := h.2.2.2 k hk
    exact ⟨wf64_of h1, wf64_of h2, wf64_of h3, bytes_ok h5, step_ok h6⟩
  have hs : ∀ k ∈ s.l, k.name.size ≤ 140737488351232 ∧ k.b.cap ≤ 140737488351232 := fun k hk => by
    have f : ∀ n ∈ k.sz, n ≤ reachBytes := fun n hn => hz n (List.mem_cons_of_mem _ (List.mem_flatMap.2 ⟨k, hk, hn⟩))
    rw [hr] at f
    refine ⟨f _ (by simp [DoV.sz]), ?_⟩
    have := f (k.b.cap * 1) (by simp [DoV.sz])
    omega
  exact ⟨Nat.le_trans h.1 h.2.1, fun k hm => ⟨(hk k hm).1, (hk k hm).2.1, (hk k hm).2.2.1, (hs k hm).1, (hk k hm).2.2.2.1.1, (hs k hm).2, (hk k hm).2.2.2.1.2.2.2, (hk k hm).2.2.2.2.wf⟩,
    fun E w hw => ⟨Cells.carry (cs := s.l.flatMap DoV.vals) h.2.2.1 (old_carry hw), fun k hm => ⟨(hk k hm).2.2.2.1.2.2.1.carry (old_carry hw), (hk k hm).2.2.2.2.b.2.2.1.carry (old_carry hw), (hk k hm).2.2.2.2.kept.2.2.1.carry (old_carry hw)⟩⟩⟩
end Go.Proofs.YtmjnnbnbdcadbaaGreatDoor
/- PairLives of dryrotlaw05: for every input it returns true, and the input reads as it did; the variables the card lists as the program's text lays them (the card ties them). -/
namespace Go.Proofs.YtmjnnbnbdcadbaaGreatDoor
open Go.ChangeShapes Go.WideShapes Go.ChangeAt Go.RowKit HP
set_option linter.unusedVariables false

set_option maxRecDepth 100000 in
theorem pairLives_lifted (os : Os) (started : os.Started) (H : Type) (enc : TypeId × Value → H) :
    ReturnsInHanded {} Tryz.checked os 4 .any (fun w args => (Rows.pairLivesSpec.pre enc Tryz.prog Tryz.f4 [] false w args ∧ laidMetH Tryz.prog laidAll w) ∧ sizedMet enc Tryz.prog Tryz.f4 (OpenSpec.ofChange Rows.pairLivesSpec) false w args) (Rows.pairLivesSpec.post enc Tryz.prog Tryz.f4 false true false false) := by
  refine returnsInHanded_of_change_and (C := Tryz.checked) (X := fun w _ => laidMetH Tryz.prog laidAll w) (fun _ _ _ hh h => h.of_heap hh) own started (by kernel_rfl) Tryz.func4
    (ChangeSpec.witness_shaped (enc := enc) (C := Tryz.checked) (os := os) (X := fun w _ => laidMetH Tryz.prog laidAll w) false (World.doorLaid Tryz.prog 400 os) #[.slice none 0 0, .slice none 0 0] 8 rfl (World.shaped_of_RefB (by kernel_rfl) (by kernel_rfl)) (by kernel_rfl) (by kernel_rfl) (by kernel_rfl) (door_met os _)) ?_
  intro W base args ds gs before hval0 hW _ hx2 hL _
  have hreach0 := hx2
  have hval : ∀ (j : Nat) t v, Tryz.f4.params[j]? = some t → args[j]? = some v → Value.okWide Tryz.prog W .any base t v := hval0
  have hW' := hW
  obtain ⟨p, q, hA0, hV, rfl, _, _⟩ := hW
  have hA : DataW.TrodAll enc Tryz.prog W 0 (fun _ => true) true Tryz.f4.params.toList args.toList ds p := hA0
  rw [Tryz.params4] at hA hval
  obtain ⟨v0, v1, d0, d1, p0, p1, rfl, rfl, rfl, h0, h1⟩ := trodAll_two hA
  obtain ⟨rfl, rfl⟩ := trodVars_none hV
  have hreach : ∀ n ∈ DataW.weightsEach Tryz.prog (Tryz.f4.params.toList ++ []) ([d0, d1] ++ []), n ≤ reachBytes := fun n hn => by simpa using List.all_eq_true.1 hreach0 n hn
  obtain ⟨s0, rfl, o0⟩ := sl_arg Tryz.underlying22 rdSteps_at (hval 0 _ v0 rfl rfl) h0
  obtain ⟨s1, rfl, o1, r1⟩ := sl_argZ Tryz.underlying43 rdDos_atZ (hval 1 _ v1 rfl rfl) h1 (fun n hn => hreach n (weightsEach_mem (i := 1) (u := 43) (d := d1) rfl rfl hn))
  clear hA0 hval0
  have hQ := quarter_of_laid hL
  refine (pairLives_ok _ _ s0 s1 W (steps_old o0) (dos_in o1 r1) (fun E w hw => quarter_old hQ hw) Sat.start).mono
    fun e W' ⟨he, hs⟩ => ⟨_, he, law_post laidOut (by kernel_rfl) (by kernel_rfl) Tryz.underlying4 rfl rfl hW' (Sat.old_below (p := HP.emp) ?_)⟩
  rw [HP.mul_emp]; exact hs
theorem PairLives_row : Rows.PairLivesSaid :=
  OpenClaim.holds_of_wide 4 Tryz.f4 rfl rfl rfl rfl rfl rfl rfl ⟨rfl, rfl, rfl, rfl, rfl⟩ rfl rfl rfl rfl rfl (by kernel_rfl) Tryz.func4 (by kernel_rfl)
    (of_decide_eq_true (by kernel_rfl)) (by unfold Func.isWrapper; first | (rw [if_pos (by decide +kernel)]; kernel_rfl) | (rw [if_neg (by decide +kernel)]; exact ⟨rfl, rfl⟩))
    (fun os started H enc _ => pairLives_lifted os started H enc)
theorem PairLives_proved : Rows.PairLivesCardSaid :=
  Claim7.holds_tied_plain_at .later [] [.data] true (true, "4858241f7f7c6e52d070b244e54d2024bf1628111bb27d6d425133298bdd941f") false
    PairLives_row (fun _ h => by cases h) (by kernel_rfl) (fun _ h => by cases h) pairLives_row_tie rfl ⟨rfl, rfl⟩ (by kernel_rfl) rfl
    (fun f fn hf hfn => by
      obtain rfl : f = 4 := Option.some.inj ((show Tryz.prog.funcNamed "dryrot/dryrotlaw05.PairLives" = some 4 by kernel_rfl).symm.trans hf) |>.symm
      obtain rfl : fn = Tryz.f4 := (Option.some.inj (Tryz.func4.symm.trans hfn)).symm
      exact ⟨by kernel_rfl, fun j t ht => by
        rw [Tryz.params4] at ht
        have hm : t ∈ [22, 43] := by simpa using Array.mem_of_getElem? ht
        have hall : ([22, 43].all fun u => !Tryz.prog.wantsStandIn u) = true := by kernel_rfl
        exact (show Tryz.prog.wantsStandIn t = false by simpa using List.all_eq_true.1 hall t hm)⟩)
    (by kernel_rfl)
#print axioms PairLives_proved
end Go.Proofs.YtmjnnbnbdcadbaaGreatDoor
