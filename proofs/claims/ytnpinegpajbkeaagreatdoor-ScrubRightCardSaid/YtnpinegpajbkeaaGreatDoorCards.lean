/-
  DERIVED. GIVEN WITH THE SEED: THE CARDS: each row of YtnpinegpajbkeaaGreatDoorRows.lean that lists a variable, with what it lists TIED to the program's text (the seventh form; the later family's looks); each row that meets fmt, with fmt's text TOLD by the authors' own Lean function (tested against real Go, not proved from fmt's source: count such statements apart). THE CARD IS WHAT COUNTS. Prove the row's statement (the work); the ties are given (YtnpinegpajbkeaaGreatDoorTie.lean); close each card by the builder's one call (the guide's Derived/Test/ToyasCard.lean, 'card_holds'). Laid BY PROGRAM, IN A SANDBOX (cutbox-door.mjs). By AI agents, Wed Nov 11 2026. No macro, syntax, notation, axiom, sorry.
-/
import Derived.Test.YtnpinegpajbkeaaGreatDoorRows
import GoSem.ClaimSeven
namespace Go.Proofs.YtnpinegpajbkeaaGreatDoor
namespace Rows

/-- THE TIED CARD OF 'dryrotlaw20.ScrubGroups'. -/
def scrubGroupsCard : Claim7 := { stood := { row := scrubGroupsRow, standIns := [], harness := (true, "9220ad7653e8ec592318efea94a22e86f0e3c35c507f34b592eab532287fa5a1"), looks := true }, kinds := [], alts := [], laidByText := true, laidKinds := [.data, .data, .data], laidTests := true, laidLooks := .later }
def ScrubGroupsCardSaid : Prop := Claim7.holds Tryz.pinned (.plain (OpenSpec.ofChange scrubGroupsSpec)) scrubGroupsCard

/-- THE TIED CARD OF 'dryrotlaw06.StripeLives'. -/
def stripeLivesCard : Claim7 := { stood := { row := stripeLivesRow, standIns := [], harness := (true, "9220ad7653e8ec592318efea94a22e86f0e3c35c507f34b592eab532287fa5a1"), looks := true }, kinds := [], alts := [], laidByText := true, laidKinds := [.data, .data, .pinned], laidTests := true, laidLooks := .later }
def StripeLivesCardSaid : Prop := Claim7.holds Tryz.pinned (.plain (OpenSpec.ofChange stripeLivesSpec)) stripeLivesCard

/-- THE TIED CARD OF 'dryrotlaw20.ScrubMends'. -/
def scrubMendsCard : Claim7 := { stood := { row := scrubMendsRow, standIns := [], harness := (true, "9220ad7653e8ec592318efea94a22e86f0e3c35c507f34b592eab532287fa5a1"), looks := true }, kinds := [], alts := [], laidByText := true, laidKinds := [.data, .data, .data, .data, .data, .pinned], laidTests := true, laidLooks := .later }
def ScrubMendsCardSaid : Prop := Claim7.holds Tryz.pinned (.plain (OpenSpec.ofChange scrubMendsSpec)) scrubMendsCard

/-- THE TIED CARD OF 'dryrotlaw20.ScrubRight'. -/
def scrubRightCard : Claim7 := { stood := { row := scrubRightRow, standIns := [], harness := (true, "9220ad7653e8ec592318efea94a22e86f0e3c35c507f34b592eab532287fa5a1"), looks := true }, kinds := [], alts := [], laidByText := true, laidKinds := [.data, .data, .data, .data, .data, .pinned], laidTests := true, laidLooks := .later }
def ScrubRightCardSaid : Prop := Claim7.holds Tryz.pinned (.plain (OpenSpec.ofChange scrubRightSpec)) scrubRightCard

/-- THE SECOND FORM's CARD OF 'dryrotlaw20.ScrubGroups'. -/
def scrubGroupsUptoCard : Claim7 := { stood := { row := scrubGroupsUptoRow, standIns := [], harness := (true, "9220ad7653e8ec592318efea94a22e86f0e3c35c507f34b592eab532287fa5a1"), looks := true }, kinds := [], alts := [], laidByText := true, laidKinds := [.data, .data, .data], laidTests := true, laidLooks := .later }
def ScrubGroupsUptoCardSaid : Prop := Claim7.holds Tryz.pinned (.plain (OpenSpec.upto scrubGroupsSpec)) scrubGroupsUptoCard

/-- THE SECOND FORM's CARD OF 'dryrotlaw06.StripeLives'. -/
def stripeLivesUptoCard : Claim7 := { stood := { row := stripeLivesUptoRow, standIns := [], harness := (true, "9220ad7653e8ec592318efea94a22e86f0e3c35c507f34b592eab532287fa5a1"), looks := true }, kinds := [], alts := [], laidByText := true, laidKinds := [.data, .data, .pinned], laidTests := true, laidLooks := .later }
def StripeLivesUptoCardSaid : Prop := Claim7.holds Tryz.pinned (.plain (OpenSpec.upto stripeLivesSpec)) stripeLivesUptoCard

/-- THE SECOND FORM's CARD OF 'dryrotlaw20.ScrubMends'. -/
def scrubMendsUptoCard : Claim7 := { stood := { row := scrubMendsUptoRow, standIns := [], harness := (true, "9220ad7653e8ec592318efea94a22e86f0e3c35c507f34b592eab532287fa5a1"), looks := true }, kinds := [], alts := [], laidByText := true, laidKinds := [.data, .data, .data, .data, .data, .pinned], laidTests := true, laidLooks := .later }
def ScrubMendsUptoCardSaid : Prop := Claim7.holds Tryz.pinned (.plain (OpenSpec.upto scrubMendsSpec)) scrubMendsUptoCard

/-- THE SECOND FORM's CARD OF 'dryrotlaw20.ScrubRight'. -/
def scrubRightUptoCard : Claim7 := { stood := { row := scrubRightUptoRow, standIns := [], harness := (true, "9220ad7653e8ec592318efea94a22e86f0e3c35c507f34b592eab532287fa5a1"), looks := true }, kinds := [], alts := [], laidByText := true, laidKinds := [.data, .data, .data, .data, .data, .pinned], laidTests := true, laidLooks := .later }
def ScrubRightUptoCardSaid : Prop := Claim7.holds Tryz.pinned (.plain (OpenSpec.upto scrubRightSpec)) scrubRightUptoCard
end Rows
end Go.Proofs.YtnpinegpajbkeaaGreatDoor
