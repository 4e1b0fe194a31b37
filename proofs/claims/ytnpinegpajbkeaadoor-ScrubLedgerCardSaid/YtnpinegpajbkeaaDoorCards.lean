/-
  DERIVED. GIVEN WITH THE SEED: THE CARDS: each row of YtnpinegpajbkeaaDoorRows.lean that lists a variable, with what it lists TIED to the program's text (the seventh form; the later family's looks); each row that meets fmt, with fmt's text TOLD by the authors' own Lean function (tested against real Go, not proved from fmt's source: count such statements apart). THE CARD IS WHAT COUNTS. Prove the row's statement (the work); the ties are given (YtnpinegpajbkeaaDoorTie.lean); close each card by the builder's one call (the guide's Derived/Test/ToyasCard.lean, 'card_holds'). Laid BY PROGRAM, IN A SANDBOX (cutbox-door.mjs). By AI agents, Wed Nov 11 2026. No macro, syntax, notation, axiom, sorry.
-/
import Derived.Test.YtnpinegpajbkeaaDoorRows
import GoSem.ClaimSeven
namespace Go.Proofs.YtnpinegpajbkeaaDoor
namespace Rows

/-- THE TIED CARD OF 'dryrotlaw20.ScrubLedger'. -/
def scrubLedgerCard : Claim7 := { stood := { row := scrubLedgerRow, standIns := [], harness := (true, "2cbda1e8b159bfcdbe2f0752d723988249ed65d4cdca883f26e2f684da767f5a"), looks := true }, kinds := [], alts := [], laidByText := true, laidKinds := [.data, .data, .data], laidTests := true, laidLooks := .later }
def ScrubLedgerCardSaid : Prop := Claim7.holds Tryd.pinned (.plain (OpenSpec.ofChange scrubLedgerSpec)) scrubLedgerCard

/-- THE TIED CARD OF 'dryrotlaw20.ScrubNotes'. -/
def scrubNotesCard : Claim7 := { stood := { row := scrubNotesRow, standIns := [], harness := (true, "2cbda1e8b159bfcdbe2f0752d723988249ed65d4cdca883f26e2f684da767f5a"), looks := true }, kinds := [], alts := [], laidByText := true, laidKinds := [.data, .data, .data], laidTests := true, laidLooks := .later }
def ScrubNotesCardSaid : Prop := Claim7.holds Tryd.pinned (.plain (OpenSpec.ofChange scrubNotesSpec)) scrubNotesCard

/-- THE TIED CARD OF 'dryrotlaw20.ScrubNobody'. -/
def scrubNobodyCard : Claim7 := { stood := { row := scrubNobodyRow, standIns := [], harness := (true, "2cbda1e8b159bfcdbe2f0752d723988249ed65d4cdca883f26e2f684da767f5a"), looks := true }, kinds := [], alts := [], laidByText := true, laidKinds := [.data, .data, .data, .data, .data, .pinned], laidTests := true, laidLooks := .later }
def ScrubNobodyCardSaid : Prop := Claim7.holds Tryd.pinned (.plain (OpenSpec.ofChange scrubNobodySpec)) scrubNobodyCard

/-- THE TIED CARD OF 'dryrotlaw06.StripeOne'. -/
def stripeOneCard : Claim7 := { stood := { row := stripeOneRow, standIns := [], harness := (true, "2cbda1e8b159bfcdbe2f0752d723988249ed65d4cdca883f26e2f684da767f5a"), looks := true }, kinds := [], alts := [], laidByText := true, laidKinds := [.data, .data, .pinned], laidTests := true, laidLooks := .later }
def StripeOneCardSaid : Prop := Claim7.holds Tryd.pinned (.plain (OpenSpec.ofChange stripeOneSpec)) stripeOneCard

/-- THE SECOND FORM's CARD OF 'dryrotlaw20.ScrubLedger'. -/
def scrubLedgerUptoCard : Claim7 := { stood := { row := scrubLedgerUptoRow, standIns := [], harness := (true, "2cbda1e8b159bfcdbe2f0752d723988249ed65d4cdca883f26e2f684da767f5a"), looks := true }, kinds := [], alts := [], laidByText := true, laidKinds := [.data, .data, .data], laidTests := true, laidLooks := .later }
def ScrubLedgerUptoCardSaid : Prop := Claim7.holds Tryd.pinned (.plain (OpenSpec.upto scrubLedgerSpec)) scrubLedgerUptoCard

/-- THE SECOND FORM's CARD OF 'dryrotlaw20.ScrubNotes'. -/
def scrubNotesUptoCard : Claim7 := { stood := { row := scrubNotesUptoRow, standIns := [], harness := (true, "2cbda1e8b159bfcdbe2f0752d723988249ed65d4cdca883f26e2f684da767f5a"), looks := true }, kinds := [], alts := [], laidByText := true, laidKinds := [.data, .data, .data], laidTests := true, laidLooks := .later }
def ScrubNotesUptoCardSaid : Prop := Claim7.holds Tryd.pinned (.plain (OpenSpec.upto scrubNotesSpec)) scrubNotesUptoCard

/-- THE SECOND FORM's CARD OF 'dryrotlaw20.ScrubNobody'. -/
def scrubNobodyUptoCard : Claim7 := { stood := { row := scrubNobodyUptoRow, standIns := [], harness := (true, "2cbda1e8b159bfcdbe2f0752d723988249ed65d4cdca883f26e2f684da767f5a"), looks := true }, kinds := [], alts := [], laidByText := true, laidKinds := [.data, .data, .data, .data, .data, .pinned], laidTests := true, laidLooks := .later }
def ScrubNobodyUptoCardSaid : Prop := Claim7.holds Tryd.pinned (.plain (OpenSpec.upto scrubNobodySpec)) scrubNobodyUptoCard

/-- THE SECOND FORM's CARD OF 'dryrotlaw06.StripeOne'. -/
def stripeOneUptoCard : Claim7 := { stood := { row := stripeOneUptoRow, standIns := [], harness := (true, "2cbda1e8b159bfcdbe2f0752d723988249ed65d4cdca883f26e2f684da767f5a"), looks := true }, kinds := [], alts := [], laidByText := true, laidKinds := [.data, .data, .pinned], laidTests := true, laidLooks := .later }
def StripeOneUptoCardSaid : Prop := Claim7.holds Tryd.pinned (.plain (OpenSpec.upto stripeOneSpec)) stripeOneUptoCard
end Rows
end Go.Proofs.YtnpinegpajbkeaaDoor
