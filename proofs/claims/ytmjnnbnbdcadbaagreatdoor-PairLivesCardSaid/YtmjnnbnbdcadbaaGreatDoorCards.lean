/-
  DERIVED. GIVEN WITH THE SEED: THE CARDS: each row of YtmjnnbnbdcadbaaGreatDoorRows.lean that lists a variable, with what it lists TIED to the program's text (the seventh form; the later family's looks); each row that meets fmt, with fmt's text TOLD by the authors' own Lean function (tested against real Go, not proved from fmt's source: count such statements apart). THE CARD IS WHAT COUNTS. Prove the row's statement (the work); the ties are given (YtmjnnbnbdcadbaaGreatDoorTie.lean); close each card by the builder's one call (the guide's Derived/Test/ToyasCard.lean, 'card_holds'). Laid BY PROGRAM, IN A SANDBOX (cutbox-door.mjs). By AI agents, Wed Nov 11 2026. No macro, syntax, notation, axiom, sorry.
-/
import Derived.Test.YtmjnnbnbdcadbaaGreatDoorRows
import GoSem.ClaimSeven
namespace Go.Proofs.YtmjnnbnbdcadbaaGreatDoor
namespace Rows

/-- THE TIED CARD OF 'dryrotlaw17.AnchorLives'. -/
def anchorLivesCard : Claim7 := { stood := { row := anchorLivesRow, standIns := [], harness := (true, "4858241f7f7c6e52d070b244e54d2024bf1628111bb27d6d425133298bdd941f"), looks := false }, kinds := [], alts := [], laidByText := true, laidKinds := [.data], laidTests := true, laidLooks := .later }
def AnchorLivesCardSaid : Prop := Claim7.holds Tryz.pinned (.plain (OpenSpec.ofChange anchorLivesSpec)) anchorLivesCard

/-- THE TIED CARD OF 'dryrotlaw05.PairLives'. -/
def pairLivesCard : Claim7 := { stood := { row := pairLivesRow, standIns := [], harness := (true, "4858241f7f7c6e52d070b244e54d2024bf1628111bb27d6d425133298bdd941f"), looks := false }, kinds := [], alts := [], laidByText := true, laidKinds := [.data], laidTests := true, laidLooks := .later }
def PairLivesCardSaid : Prop := Claim7.holds Tryz.pinned (.plain (OpenSpec.ofChange pairLivesSpec)) pairLivesCard

/-- THE TIED CARD OF 'dryrotlaw18.WalLives'. -/
def walLivesCard : Claim7 := { stood := { row := walLivesRow, standIns := [], harness := (true, "4858241f7f7c6e52d070b244e54d2024bf1628111bb27d6d425133298bdd941f"), looks := false }, kinds := [], alts := [], laidByText := true, laidKinds := [.data, .data, .data, .data], laidTests := true, laidLooks := .later }
def WalLivesCardSaid : Prop := Claim7.holds Tryz.pinned (.plain (OpenSpec.ofChange walLivesSpec)) walLivesCard

/-- THE TIED CARD OF 'dryrotlaw06.StripeLives'. -/
def stripeLivesCard : Claim7 := { stood := { row := stripeLivesRow, standIns := [], harness := (true, "4858241f7f7c6e52d070b244e54d2024bf1628111bb27d6d425133298bdd941f"), looks := false }, kinds := [], alts := [], laidByText := true, laidKinds := [.data, .data, .pinned], laidTests := true, laidLooks := .later }
def StripeLivesCardSaid : Prop := Claim7.holds Tryz.pinned (.plain (OpenSpec.ofChange stripeLivesSpec)) stripeLivesCard

/-- THE SECOND FORM's CARD OF 'dryrotlaw17.AnchorLives'. -/
def anchorLivesUptoCard : Claim7 := { stood := { row := anchorLivesUptoRow, standIns := [], harness := (true, "4858241f7f7c6e52d070b244e54d2024bf1628111bb27d6d425133298bdd941f"), looks := false }, kinds := [], alts := [], laidByText := true, laidKinds := [.data], laidTests := true, laidLooks := .later }
def AnchorLivesUptoCardSaid : Prop := Claim7.holds Tryz.pinned (.plain (OpenSpec.upto anchorLivesSpec)) anchorLivesUptoCard

/-- THE SECOND FORM's CARD OF 'dryrotlaw05.PairLives'. -/
def pairLivesUptoCard : Claim7 := { stood := { row := pairLivesUptoRow, standIns := [], harness := (true, "4858241f7f7c6e52d070b244e54d2024bf1628111bb27d6d425133298bdd941f"), looks := false }, kinds := [], alts := [], laidByText := true, laidKinds := [.data], laidTests := true, laidLooks := .later }
def PairLivesUptoCardSaid : Prop := Claim7.holds Tryz.pinned (.plain (OpenSpec.upto pairLivesSpec)) pairLivesUptoCard

/-- THE SECOND FORM's CARD OF 'dryrotlaw18.WalLives'. -/
def walLivesUptoCard : Claim7 := { stood := { row := walLivesUptoRow, standIns := [], harness := (true, "4858241f7f7c6e52d070b244e54d2024bf1628111bb27d6d425133298bdd941f"), looks := false }, kinds := [], alts := [], laidByText := true, laidKinds := [.data, .data, .data, .data], laidTests := true, laidLooks := .later }
def WalLivesUptoCardSaid : Prop := Claim7.holds Tryz.pinned (.plain (OpenSpec.upto walLivesSpec)) walLivesUptoCard

/-- THE SECOND FORM's CARD OF 'dryrotlaw06.StripeLives'. -/
def stripeLivesUptoCard : Claim7 := { stood := { row := stripeLivesUptoRow, standIns := [], harness := (true, "4858241f7f7c6e52d070b244e54d2024bf1628111bb27d6d425133298bdd941f"), looks := false }, kinds := [], alts := [], laidByText := true, laidKinds := [.data, .data, .pinned], laidTests := true, laidLooks := .later }
def StripeLivesUptoCardSaid : Prop := Claim7.holds Tryz.pinned (.plain (OpenSpec.upto stripeLivesSpec)) stripeLivesUptoCard
end Rows
end Go.Proofs.YtmjnnbnbdcadbaaGreatDoor
