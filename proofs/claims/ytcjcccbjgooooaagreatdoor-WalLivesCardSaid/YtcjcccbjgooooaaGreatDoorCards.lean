/-
  DERIVED. GIVEN WITH THE SEED: THE CARDS: each row of YtcjcccbjgooooaaGreatDoorRows.lean that lists a variable, with what it lists TIED to the program's text (the seventh form; the later family's looks); each row that meets fmt, with fmt's text TOLD by the authors' own Lean function (tested against real Go, not proved from fmt's source: count such statements apart). THE CARD IS WHAT COUNTS. Prove the row's statement (the work); the ties are given (YtcjcccbjgooooaaGreatDoorTie.lean); close each card by the builder's one call (the guide's Derived/Test/ToyasCard.lean, 'card_holds'). Laid BY PROGRAM, IN A SANDBOX (cutbox-door.mjs). By AI agents, Wed Nov 11 2026. No macro, syntax, notation, axiom, sorry.
-/
import Derived.Test.YtcjcccbjgooooaaGreatDoorRows
import GoSem.ClaimSeven
namespace Go.Proofs.YtcjcccbjgooooaaGreatDoor
namespace Rows

/-- THE TIED CARD OF 'dryrotlaw18.WalLives'. -/
def walLivesCard : Claim7 := { stood := { row := walLivesRow, standIns := [], harness := (true, "a0bb1289b8317428d862bc05eac266f707bb951ab12fa40a9df345fa3cf3b219"), looks := false }, kinds := [], alts := [], laidByText := true, laidKinds := [.data, .data, .data, .data], laidTests := true, laidLooks := .later }
def WalLivesCardSaid : Prop := Claim7.holds Tryz.pinned (.plain (OpenSpec.ofChange walLivesSpec)) walLivesCard

/-- THE TIED CARD OF 'dryrotlaw06.StripeLives'. -/
def stripeLivesCard : Claim7 := { stood := { row := stripeLivesRow, standIns := [], harness := (true, "a0bb1289b8317428d862bc05eac266f707bb951ab12fa40a9df345fa3cf3b219"), looks := false }, kinds := [], alts := [], laidByText := true, laidKinds := [.data, .data, .pinned], laidTests := true, laidLooks := .later }
def StripeLivesCardSaid : Prop := Claim7.holds Tryz.pinned (.plain (OpenSpec.ofChange stripeLivesSpec)) stripeLivesCard

/-- THE SECOND FORM's CARD OF 'dryrotlaw18.WalLives'. -/
def walLivesUptoCard : Claim7 := { stood := { row := walLivesUptoRow, standIns := [], harness := (true, "a0bb1289b8317428d862bc05eac266f707bb951ab12fa40a9df345fa3cf3b219"), looks := false }, kinds := [], alts := [], laidByText := true, laidKinds := [.data, .data, .data, .data], laidTests := true, laidLooks := .later }
def WalLivesUptoCardSaid : Prop := Claim7.holds Tryz.pinned (.plain (OpenSpec.upto walLivesSpec)) walLivesUptoCard

/-- THE SECOND FORM's CARD OF 'dryrotlaw06.StripeLives'. -/
def stripeLivesUptoCard : Claim7 := { stood := { row := stripeLivesUptoRow, standIns := [], harness := (true, "a0bb1289b8317428d862bc05eac266f707bb951ab12fa40a9df345fa3cf3b219"), looks := false }, kinds := [], alts := [], laidByText := true, laidKinds := [.data, .data, .pinned], laidTests := true, laidLooks := .later }
def StripeLivesUptoCardSaid : Prop := Claim7.holds Tryz.pinned (.plain (OpenSpec.upto stripeLivesSpec)) stripeLivesUptoCard
end Rows
end Go.Proofs.YtcjcccbjgooooaaGreatDoor
