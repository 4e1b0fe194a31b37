/-
  DERIVED. GIVEN WITH THE SEED: THE CARDS: each row of YthifabopnabjoaaDoorRows.lean that lists a variable, with what it lists TIED to the program's text (the seventh form; the later family's looks); each row that meets fmt, with fmt's text TOLD by the authors' own Lean function (tested against real Go, not proved from fmt's source: count such statements apart). THE CARD IS WHAT COUNTS. Prove the row's statement (the work); the ties are given (YthifabopnabjoaaDoorTie.lean); close each card by the builder's one call (the guide's Derived/Test/ToyasCard.lean, 'card_holds'). Laid BY PROGRAM, IN A SANDBOX (cutbox-door.mjs). By AI agents, Wed Nov 11 2026. No macro, syntax, notation, axiom, sorry.
-/
import Derived.Test.YthifabopnabjoaaDoorRows
import GoSem.ClaimSeven
namespace Go.Proofs.YthifabopnabjoaaDoor
namespace Rows

/-- THE TIED CARD OF 'dryrotlaw18.WalNeeds'. -/
def walNeedsCard : Claim7 := { stood := { row := walNeedsRow, standIns := [], harness := (true, "f70a67d59a9a59459a68245281991996c617fafe666dc1fe0662002a7150036b"), looks := false }, kinds := [], alts := [], laidByText := true, laidKinds := [.data, .data, .data, .data], laidTests := true, laidLooks := .later }
def WalNeedsCardSaid : Prop := Claim7.holds Tryd.pinned (.plain (OpenSpec.ofChange walNeedsSpec)) walNeedsCard

/-- THE TIED CARD OF 'dryrotlaw18.WalNobody'. -/
def walNobodyCard : Claim7 := { stood := { row := walNobodyRow, standIns := [], harness := (true, "f70a67d59a9a59459a68245281991996c617fafe666dc1fe0662002a7150036b"), looks := false }, kinds := [], alts := [], laidByText := true, laidKinds := [.data, .data, .data, .data], laidTests := true, laidLooks := .later }
def WalNobodyCardSaid : Prop := Claim7.holds Tryd.pinned (.plain (OpenSpec.ofChange walNobodySpec)) walNobodyCard

/-- THE TIED CARD OF 'dryrotlaw18.WalCuts'. -/
def walCutsCard : Claim7 := { stood := { row := walCutsRow, standIns := [], harness := (true, "f70a67d59a9a59459a68245281991996c617fafe666dc1fe0662002a7150036b"), looks := false }, kinds := [], alts := [], laidByText := true, laidKinds := [.data, .data, .data, .data], laidTests := true, laidLooks := .later }
def WalCutsCardSaid : Prop := Claim7.holds Tryd.pinned (.plain (OpenSpec.ofChange walCutsSpec)) walCutsCard

/-- THE TIED CARD OF 'dryrotlaw18.WalStays'. -/
def walStaysCard : Claim7 := { stood := { row := walStaysRow, standIns := [], harness := (true, "f70a67d59a9a59459a68245281991996c617fafe666dc1fe0662002a7150036b"), looks := false }, kinds := [], alts := [], laidByText := true, laidKinds := [.data, .data, .data, .data], laidTests := true, laidLooks := .later }
def WalStaysCardSaid : Prop := Claim7.holds Tryd.pinned (.plain (OpenSpec.ofChange walStaysSpec)) walStaysCard

/-- THE SECOND FORM's CARD OF 'dryrotlaw18.WalNeeds'. -/
def walNeedsUptoCard : Claim7 := { stood := { row := walNeedsUptoRow, standIns := [], harness := (true, "f70a67d59a9a59459a68245281991996c617fafe666dc1fe0662002a7150036b"), looks := false }, kinds := [], alts := [], laidByText := true, laidKinds := [.data, .data, .data, .data], laidTests := true, laidLooks := .later }
def WalNeedsUptoCardSaid : Prop := Claim7.holds Tryd.pinned (.plain (OpenSpec.upto walNeedsSpec)) walNeedsUptoCard

/-- THE SECOND FORM's CARD OF 'dryrotlaw18.WalNobody'. -/
def walNobodyUptoCard : Claim7 := { stood := { row := walNobodyUptoRow, standIns := [], harness := (true, "f70a67d59a9a59459a68245281991996c617fafe666dc1fe0662002a7150036b"), looks := false }, kinds := [], alts := [], laidByText := true, laidKinds := [.data, .data, .data, .data], laidTests := true, laidLooks := .later }
def WalNobodyUptoCardSaid : Prop := Claim7.holds Tryd.pinned (.plain (OpenSpec.upto walNobodySpec)) walNobodyUptoCard

/-- THE SECOND FORM's CARD OF 'dryrotlaw18.WalCuts'. -/
def walCutsUptoCard : Claim7 := { stood := { row := walCutsUptoRow, standIns := [], harness := (true, "f70a67d59a9a59459a68245281991996c617fafe666dc1fe0662002a7150036b"), looks := false }, kinds := [], alts := [], laidByText := true, laidKinds := [.data, .data, .data, .data], laidTests := true, laidLooks := .later }
def WalCutsUptoCardSaid : Prop := Claim7.holds Tryd.pinned (.plain (OpenSpec.upto walCutsSpec)) walCutsUptoCard

/-- THE SECOND FORM's CARD OF 'dryrotlaw18.WalStays'. -/
def walStaysUptoCard : Claim7 := { stood := { row := walStaysUptoRow, standIns := [], harness := (true, "f70a67d59a9a59459a68245281991996c617fafe666dc1fe0662002a7150036b"), looks := false }, kinds := [], alts := [], laidByText := true, laidKinds := [.data, .data, .data, .data], laidTests := true, laidLooks := .later }
def WalStaysUptoCardSaid : Prop := Claim7.holds Tryd.pinned (.plain (OpenSpec.upto walStaysSpec)) walStaysUptoCard
end Rows
end Go.Proofs.YthifabopnabjoaaDoor
