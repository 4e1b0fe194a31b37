/-
  DERIVED. GIVEN WITH THE SEED: THE CARDS: each row of YtnllmkpbnccllaaDoorRows.lean that lists a variable, with what it lists TIED to the program's text (the seventh form; the later family's looks); each row that meets fmt, with fmt's text TOLD by the authors' own Lean function (tested against real Go, not proved from fmt's source: count such statements apart). THE CARD IS WHAT COUNTS. Prove the row's statement (the work); the ties are given (YtnllmkpbnccllaaDoorTie.lean); close each card by the builder's one call (the guide's Derived/Test/ToyasCard.lean, 'card_holds'). Laid BY PROGRAM, IN A SANDBOX (cutbox-door.mjs). By AI agents, Wed Nov 11 2026. No macro, syntax, notation, axiom, sorry.
-/
import Derived.Test.YtnllmkpbnccllaaDoorRows
import GoSem.ClaimSeven
namespace Go.Proofs.YtnllmkpbnccllaaDoor
namespace Rows

/-- THE TIED CARD OF 'dryrotlaw05.PairNobody'. -/
def pairNobodyCard : Claim7 := { stood := { row := pairNobodyRow, standIns := [], harness := (true, "d7a0cbd7e10e445eb51f9ce550078d89171518ce833393235c22cd29b9249b59"), looks := false }, kinds := [], alts := [], laidByText := true, laidKinds := [.data], laidTests := true, laidLooks := .later }
def PairNobodyCardSaid : Prop := Claim7.holds Tryd.pinned (.plain (OpenSpec.ofChange pairNobodySpec)) pairNobodyCard

/-- THE TIED CARD OF 'dryrotlaw05.PairLost'. -/
def pairLostCard : Claim7 := { stood := { row := pairLostRow, standIns := [], harness := (true, "d7a0cbd7e10e445eb51f9ce550078d89171518ce833393235c22cd29b9249b59"), looks := false }, kinds := [], alts := [], laidByText := true, laidKinds := [.data], laidTests := true, laidLooks := .later }
def PairLostCardSaid : Prop := Claim7.holds Tryd.pinned (.plain (OpenSpec.ofChange pairLostSpec)) pairLostCard

/-- THE TIED CARD OF 'dryrotlaw05.PairHalf'. -/
def pairHalfCard : Claim7 := { stood := { row := pairHalfRow, standIns := [], harness := (true, "d7a0cbd7e10e445eb51f9ce550078d89171518ce833393235c22cd29b9249b59"), looks := false }, kinds := [], alts := [], laidByText := true, laidKinds := [.data], laidTests := true, laidLooks := .later }
def PairHalfCardSaid : Prop := Claim7.holds Tryd.pinned (.plain (OpenSpec.ofChange pairHalfSpec)) pairHalfCard

/-- THE TIED CARD OF 'dryrotlaw06.StripeNeeds'. -/
def stripeNeedsCard : Claim7 := { stood := { row := stripeNeedsRow, standIns := [], harness := (true, "d7a0cbd7e10e445eb51f9ce550078d89171518ce833393235c22cd29b9249b59"), looks := false }, kinds := [], alts := [], laidByText := true, laidKinds := [.data], laidTests := true, laidLooks := .later }
def StripeNeedsCardSaid : Prop := Claim7.holds Tryd.pinned (.plain (OpenSpec.ofChange stripeNeedsSpec)) stripeNeedsCard

/-- THE TIED CARD OF 'dryrotlaw06.StripeNobody'. -/
def stripeNobodyCard : Claim7 := { stood := { row := stripeNobodyRow, standIns := [], harness := (true, "d7a0cbd7e10e445eb51f9ce550078d89171518ce833393235c22cd29b9249b59"), looks := false }, kinds := [], alts := [], laidByText := true, laidKinds := [.data, .data, .pinned], laidTests := true, laidLooks := .later }
def StripeNobodyCardSaid : Prop := Claim7.holds Tryd.pinned (.plain (OpenSpec.ofChange stripeNobodySpec)) stripeNobodyCard

/-- THE TIED CARD OF 'dryrotlaw17.AnchorBack'. -/
def anchorBackCard : Claim7 := { stood := { row := anchorBackRow, standIns := [], harness := (true, "d7a0cbd7e10e445eb51f9ce550078d89171518ce833393235c22cd29b9249b59"), looks := false }, kinds := [], alts := [], laidByText := true, laidKinds := [.data], laidTests := true, laidLooks := .later }
def AnchorBackCardSaid : Prop := Claim7.holds Tryd.pinned (.plain (OpenSpec.ofChange anchorBackSpec)) anchorBackCard

/-- THE TIED CARD OF 'dryrotlaw17.AnchorBytes'. -/
def anchorBytesCard : Claim7 := { stood := { row := anchorBytesRow, standIns := [], harness := (true, "d7a0cbd7e10e445eb51f9ce550078d89171518ce833393235c22cd29b9249b59"), looks := false }, kinds := [], alts := [], laidByText := true, laidKinds := [.data], laidTests := true, laidLooks := .later }
def AnchorBytesCardSaid : Prop := Claim7.holds Tryd.pinned (.plain (OpenSpec.ofChange anchorBytesSpec)) anchorBytesCard

/-- THE TIED CARD OF 'dryrotlaw17.AnchorNames'. -/
def anchorNamesCard : Claim7 := { stood := { row := anchorNamesRow, standIns := [], harness := (true, "d7a0cbd7e10e445eb51f9ce550078d89171518ce833393235c22cd29b9249b59"), looks := false }, kinds := [], alts := [], laidByText := true, laidKinds := [.data, .data, .data, .data], laidTests := true, laidLooks := .later }
def AnchorNamesCardSaid : Prop := Claim7.holds Tryd.pinned (.plain (OpenSpec.ofChange anchorNamesSpec)) anchorNamesCard

/-- THE SECOND FORM's CARD OF 'dryrotlaw05.PairNobody'. -/
def pairNobodyUptoCard : Claim7 := { stood := { row := pairNobodyUptoRow, standIns := [], harness := (true, "d7a0cbd7e10e445eb51f9ce550078d89171518ce833393235c22cd29b9249b59"), looks := false }, kinds := [], alts := [], laidByText := true, laidKinds := [.data], laidTests := true, laidLooks := .later }
def PairNobodyUptoCardSaid : Prop := Claim7.holds Tryd.pinned (.plain (OpenSpec.upto pairNobodySpec)) pairNobodyUptoCard

/-- THE SECOND FORM's CARD OF 'dryrotlaw05.PairLost'. -/
def pairLostUptoCard : Claim7 := { stood := { row := pairLostUptoRow, standIns := [], harness := (true, "d7a0cbd7e10e445eb51f9ce550078d89171518ce833393235c22cd29b9249b59"), looks := false }, kinds := [], alts := [], laidByText := true, laidKinds := [.data], laidTests := true, laidLooks := .later }
def PairLostUptoCardSaid : Prop := Claim7.holds Tryd.pinned (.plain (OpenSpec.upto pairLostSpec)) pairLostUptoCard

/-- THE SECOND FORM's CARD OF 'dryrotlaw05.PairHalf'. -/
def pairHalfUptoCard : Claim7 := { stood := { row := pairHalfUptoRow, standIns := [], harness := (true, "d7a0cbd7e10e445eb51f9ce550078d89171518ce833393235c22cd29b9249b59"), looks := false }, kinds := [], alts := [], laidByText := true, laidKinds := [.data], laidTests := true, laidLooks := .later }
def PairHalfUptoCardSaid : Prop := Claim7.holds Tryd.pinned (.plain (OpenSpec.upto pairHalfSpec)) pairHalfUptoCard

/-- THE SECOND FORM's CARD OF 'dryrotlaw06.StripeNeeds'. -/
def stripeNeedsUptoCard : Claim7 := { stood := { row := stripeNeedsUptoRow, standIns := [], harness := (true, "d7a0cbd7e10e445eb51f9ce550078d89171518ce833393235c22cd29b9249b59"), looks := false }, kinds := [], alts := [], laidByText := true, laidKinds := [.data], laidTests := true, laidLooks := .later }
def StripeNeedsUptoCardSaid : Prop := Claim7.holds Tryd.pinned (.plain (OpenSpec.upto stripeNeedsSpec)) stripeNeedsUptoCard

/-- THE SECOND FORM's CARD OF 'dryrotlaw06.StripeNobody'. -/
def stripeNobodyUptoCard : Claim7 := { stood := { row := stripeNobodyUptoRow, standIns := [], harness := (true, "d7a0cbd7e10e445eb51f9ce550078d89171518ce833393235c22cd29b9249b59"), looks := false }, kinds := [], alts := [], laidByText := true, laidKinds := [.data, .data, .pinned], laidTests := true, laidLooks := .later }
def StripeNobodyUptoCardSaid : Prop := Claim7.holds Tryd.pinned (.plain (OpenSpec.upto stripeNobodySpec)) stripeNobodyUptoCard

/-- THE SECOND FORM's CARD OF 'dryrotlaw17.AnchorBack'. -/
def anchorBackUptoCard : Claim7 := { stood := { row := anchorBackUptoRow, standIns := [], harness := (true, "d7a0cbd7e10e445eb51f9ce550078d89171518ce833393235c22cd29b9249b59"), looks := false }, kinds := [], alts := [], laidByText := true, laidKinds := [.data], laidTests := true, laidLooks := .later }
def AnchorBackUptoCardSaid : Prop := Claim7.holds Tryd.pinned (.plain (OpenSpec.upto anchorBackSpec)) anchorBackUptoCard

/-- THE SECOND FORM's CARD OF 'dryrotlaw17.AnchorBytes'. -/
def anchorBytesUptoCard : Claim7 := { stood := { row := anchorBytesUptoRow, standIns := [], harness := (true, "d7a0cbd7e10e445eb51f9ce550078d89171518ce833393235c22cd29b9249b59"), looks := false }, kinds := [], alts := [], laidByText := true, laidKinds := [.data], laidTests := true, laidLooks := .later }
def AnchorBytesUptoCardSaid : Prop := Claim7.holds Tryd.pinned (.plain (OpenSpec.upto anchorBytesSpec)) anchorBytesUptoCard

/-- THE SECOND FORM's CARD OF 'dryrotlaw17.AnchorNames'. -/
def anchorNamesUptoCard : Claim7 := { stood := { row := anchorNamesUptoRow, standIns := [], harness := (true, "d7a0cbd7e10e445eb51f9ce550078d89171518ce833393235c22cd29b9249b59"), looks := false }, kinds := [], alts := [], laidByText := true, laidKinds := [.data, .data, .data, .data], laidTests := true, laidLooks := .later }
def AnchorNamesUptoCardSaid : Prop := Claim7.holds Tryd.pinned (.plain (OpenSpec.upto anchorNamesSpec)) anchorNamesUptoCard
end Rows
end Go.Proofs.YtnllmkpbnccllaaDoor
