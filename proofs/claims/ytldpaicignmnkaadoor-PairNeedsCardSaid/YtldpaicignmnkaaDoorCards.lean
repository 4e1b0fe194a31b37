/-
  DERIVED. GIVEN WITH THE SEED: THE CARDS: each row of YtldpaicignmnkaaDoorRows.lean that lists a variable, with what it lists TIED to the program's text (the seventh form; the later family's looks); each row that meets fmt, with fmt's text TOLD by the authors' own Lean function (tested against real Go, not proved from fmt's source: count such statements apart). THE CARD IS WHAT COUNTS. Prove the row's statement (the work); the ties are given (YtldpaicignmnkaaDoorTie.lean); close each card by the builder's one call (the guide's Derived/Test/ToyasCard.lean, 'card_holds'). Laid BY PROGRAM, IN A SANDBOX (cutbox-door.mjs). By AI agents, Wed Nov 11 2026. No macro, syntax, notation, axiom, sorry.
-/
import Derived.Test.YtldpaicignmnkaaDoorRows
import GoSem.ClaimSeven
namespace Go.Proofs.YtldpaicignmnkaaDoor
namespace Rows

/-- THE TIED CARD OF 'dryrotlaw05.PairNeeds'. -/
def pairNeedsCard : Claim7 := { stood := { row := pairNeedsRow, standIns := [], harness := (true, "76a30ed8439902e23614b6b20b37f95e92dff7668830da6f6c9a8939baa34f57"), looks := false }, kinds := [], alts := [], laidByText := true, laidKinds := [.data], laidTests := true, laidLooks := .later }
def PairNeedsCardSaid : Prop := Claim7.holds Tryd.pinned (.plain (OpenSpec.ofChange pairNeedsSpec)) pairNeedsCard

/-- THE TIED CARD OF 'dryrotlaw05.PairNewer'. -/
def pairNewerCard : Claim7 := { stood := { row := pairNewerRow, standIns := [], harness := (true, "76a30ed8439902e23614b6b20b37f95e92dff7668830da6f6c9a8939baa34f57"), looks := false }, kinds := [], alts := [], laidByText := true, laidKinds := [.data], laidTests := true, laidLooks := .later }
def PairNewerCardSaid : Prop := Claim7.holds Tryd.pinned (.plain (OpenSpec.ofChange pairNewerSpec)) pairNewerCard

/-- THE TIED CARD OF 'dryrotlaw05.PairNobody'. -/
def pairNobodyCard : Claim7 := { stood := { row := pairNobodyRow, standIns := [], harness := (true, "76a30ed8439902e23614b6b20b37f95e92dff7668830da6f6c9a8939baa34f57"), looks := false }, kinds := [], alts := [], laidByText := true, laidKinds := [.data], laidTests := true, laidLooks := .later }
def PairNobodyCardSaid : Prop := Claim7.holds Tryd.pinned (.plain (OpenSpec.ofChange pairNobodySpec)) pairNobodyCard

/-- THE TIED CARD OF 'dryrotlaw05.PairLost'. -/
def pairLostCard : Claim7 := { stood := { row := pairLostRow, standIns := [], harness := (true, "76a30ed8439902e23614b6b20b37f95e92dff7668830da6f6c9a8939baa34f57"), looks := false }, kinds := [], alts := [], laidByText := true, laidKinds := [.data], laidTests := true, laidLooks := .later }
def PairLostCardSaid : Prop := Claim7.holds Tryd.pinned (.plain (OpenSpec.ofChange pairLostSpec)) pairLostCard

/-- THE TIED CARD OF 'dryrotlaw05.PairHalf'. -/
def pairHalfCard : Claim7 := { stood := { row := pairHalfRow, standIns := [], harness := (true, "76a30ed8439902e23614b6b20b37f95e92dff7668830da6f6c9a8939baa34f57"), looks := false }, kinds := [], alts := [], laidByText := true, laidKinds := [.data], laidTests := true, laidLooks := .later }
def PairHalfCardSaid : Prop := Claim7.holds Tryd.pinned (.plain (OpenSpec.ofChange pairHalfSpec)) pairHalfCard

/-- THE SECOND FORM's CARD OF 'dryrotlaw05.PairNeeds'. -/
def pairNeedsUptoCard : Claim7 := { stood := { row := pairNeedsUptoRow, standIns := [], harness := (true, "76a30ed8439902e23614b6b20b37f95e92dff7668830da6f6c9a8939baa34f57"), looks := false }, kinds := [], alts := [], laidByText := true, laidKinds := [.data], laidTests := true, laidLooks := .later }
def PairNeedsUptoCardSaid : Prop := Claim7.holds Tryd.pinned (.plain (OpenSpec.upto pairNeedsSpec)) pairNeedsUptoCard

/-- THE SECOND FORM's CARD OF 'dryrotlaw05.PairNewer'. -/
def pairNewerUptoCard : Claim7 := { stood := { row := pairNewerUptoRow, standIns := [], harness := (true, "76a30ed8439902e23614b6b20b37f95e92dff7668830da6f6c9a8939baa34f57"), looks := false }, kinds := [], alts := [], laidByText := true, laidKinds := [.data], laidTests := true, laidLooks := .later }
def PairNewerUptoCardSaid : Prop := Claim7.holds Tryd.pinned (.plain (OpenSpec.upto pairNewerSpec)) pairNewerUptoCard

/-- THE SECOND FORM's CARD OF 'dryrotlaw05.PairNobody'. -/
def pairNobodyUptoCard : Claim7 := { stood := { row := pairNobodyUptoRow, standIns := [], harness := (true, "76a30ed8439902e23614b6b20b37f95e92dff7668830da6f6c9a8939baa34f57"), looks := false }, kinds := [], alts := [], laidByText := true, laidKinds := [.data], laidTests := true, laidLooks := .later }
def PairNobodyUptoCardSaid : Prop := Claim7.holds Tryd.pinned (.plain (OpenSpec.upto pairNobodySpec)) pairNobodyUptoCard

/-- THE SECOND FORM's CARD OF 'dryrotlaw05.PairLost'. -/
def pairLostUptoCard : Claim7 := { stood := { row := pairLostUptoRow, standIns := [], harness := (true, "76a30ed8439902e23614b6b20b37f95e92dff7668830da6f6c9a8939baa34f57"), looks := false }, kinds := [], alts := [], laidByText := true, laidKinds := [.data], laidTests := true, laidLooks := .later }
def PairLostUptoCardSaid : Prop := Claim7.holds Tryd.pinned (.plain (OpenSpec.upto pairLostSpec)) pairLostUptoCard

/-- THE SECOND FORM's CARD OF 'dryrotlaw05.PairHalf'. -/
def pairHalfUptoCard : Claim7 := { stood := { row := pairHalfUptoRow, standIns := [], harness := (true, "76a30ed8439902e23614b6b20b37f95e92dff7668830da6f6c9a8939baa34f57"), looks := false }, kinds := [], alts := [], laidByText := true, laidKinds := [.data], laidTests := true, laidLooks := .later }
def PairHalfUptoCardSaid : Prop := Claim7.holds Tryd.pinned (.plain (OpenSpec.upto pairHalfSpec)) pairHalfUptoCard
end Rows
end Go.Proofs.YtldpaicignmnkaaDoor
