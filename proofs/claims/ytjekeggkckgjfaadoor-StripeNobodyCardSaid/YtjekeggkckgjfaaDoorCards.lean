/-
  DERIVED. GIVEN WITH THE SEED: THE CARDS: each row of YtjekeggkckgjfaaDoorRows.lean that lists a variable, with what it lists TIED to the program's text (the seventh form; the later family's looks); each row that meets fmt, with fmt's text TOLD by the authors' own Lean function (tested against real Go, not proved from fmt's source: count such statements apart). THE CARD IS WHAT COUNTS. Prove the row's statement (the work); the ties are given (YtjekeggkckgjfaaDoorTie.lean); close each card by the builder's one call (the guide's Derived/Test/ToyasCard.lean, 'card_holds'). Laid BY PROGRAM, IN A SANDBOX (cutbox-door.mjs). By AI agents, Wed Nov 11 2026. No macro, syntax, notation, axiom, sorry.
-/
import Derived.Test.YtjekeggkckgjfaaDoorRows
import GoSem.ClaimSeven
namespace Go.Proofs.YtjekeggkckgjfaaDoor
namespace Rows

/-- THE TIED CARD OF 'dryrotlaw06.StripeNeeds'. -/
def stripeNeedsCard : Claim7 := { stood := { row := stripeNeedsRow, standIns := [], harness := (true, "3a41e77a71fd0ae4a6164257e498d13b61f909004396b166a91ca29da3340a97"), looks := false }, kinds := [], alts := [], laidByText := true, laidKinds := [.data], laidTests := true, laidLooks := .later }
def StripeNeedsCardSaid : Prop := Claim7.holds Tryd.pinned (.plain (OpenSpec.ofChange stripeNeedsSpec)) stripeNeedsCard

/-- THE TIED CARD OF 'dryrotlaw06.StripeParts'. -/
def stripePartsCard : Claim7 := { stood := { row := stripePartsRow, standIns := [], harness := (true, "3a41e77a71fd0ae4a6164257e498d13b61f909004396b166a91ca29da3340a97"), looks := false }, kinds := [], alts := [], laidByText := true, laidKinds := [.data, .data, .pinned], laidTests := true, laidLooks := .later }
def StripePartsCardSaid : Prop := Claim7.holds Tryd.pinned (.plain (OpenSpec.ofChange stripePartsSpec)) stripePartsCard

/-- THE TIED CARD OF 'dryrotlaw06.StripeNobody'. -/
def stripeNobodyCard : Claim7 := { stood := { row := stripeNobodyRow, standIns := [], harness := (true, "3a41e77a71fd0ae4a6164257e498d13b61f909004396b166a91ca29da3340a97"), looks := false }, kinds := [], alts := [], laidByText := true, laidKinds := [.data, .data, .pinned], laidTests := true, laidLooks := .later }
def StripeNobodyCardSaid : Prop := Claim7.holds Tryd.pinned (.plain (OpenSpec.ofChange stripeNobodySpec)) stripeNobodyCard

/-- THE TIED CARD OF 'dryrotlaw06.StripeTwo'. -/
def stripeTwoCard : Claim7 := { stood := { row := stripeTwoRow, standIns := [], harness := (true, "3a41e77a71fd0ae4a6164257e498d13b61f909004396b166a91ca29da3340a97"), looks := false }, kinds := [], alts := [], laidByText := true, laidKinds := [.data, .data, .pinned], laidTests := true, laidLooks := .later }
def StripeTwoCardSaid : Prop := Claim7.holds Tryd.pinned (.plain (OpenSpec.ofChange stripeTwoSpec)) stripeTwoCard

/-- THE TIED CARD OF 'dryrotlaw17.AnchorSaves'. -/
def anchorSavesCard : Claim7 := { stood := { row := anchorSavesRow, standIns := [], harness := (true, "3a41e77a71fd0ae4a6164257e498d13b61f909004396b166a91ca29da3340a97"), looks := false }, kinds := [], alts := [], laidByText := true, laidKinds := [.data], laidTests := true, laidLooks := .later }
def AnchorSavesCardSaid : Prop := Claim7.holds Tryd.pinned (.plain (OpenSpec.ofChange anchorSavesSpec)) anchorSavesCard

/-- THE TIED CARD OF 'dryrotlaw18.WalBack'. -/
def walBackCard : Claim7 := { stood := { row := walBackRow, standIns := [], harness := (true, "3a41e77a71fd0ae4a6164257e498d13b61f909004396b166a91ca29da3340a97"), looks := false }, kinds := [], alts := [], laidByText := true, laidKinds := [.data, .data, .data, .data], laidTests := true, laidLooks := .later }
def WalBackCardSaid : Prop := Claim7.holds Tryd.pinned (.plain (OpenSpec.ofChange walBackSpec)) walBackCard

/-- THE TIED CARD OF 'dryrotlaw06.StripeOne'. -/
def stripeOneCard : Claim7 := { stood := { row := stripeOneRow, standIns := [], harness := (true, "3a41e77a71fd0ae4a6164257e498d13b61f909004396b166a91ca29da3340a97"), looks := false }, kinds := [], alts := [], laidByText := true, laidKinds := [.data, .data, .pinned], laidTests := true, laidLooks := .later }
def StripeOneCardSaid : Prop := Claim7.holds Tryd.pinned (.plain (OpenSpec.ofChange stripeOneSpec)) stripeOneCard

/-- THE TIED CARD OF 'dryrotlaw05.PairHalf'. -/
def pairHalfCard : Claim7 := { stood := { row := pairHalfRow, standIns := [], harness := (true, "3a41e77a71fd0ae4a6164257e498d13b61f909004396b166a91ca29da3340a97"), looks := false }, kinds := [], alts := [], laidByText := true, laidKinds := [.data], laidTests := true, laidLooks := .later }
def PairHalfCardSaid : Prop := Claim7.holds Tryd.pinned (.plain (OpenSpec.ofChange pairHalfSpec)) pairHalfCard

/-- THE SECOND FORM's CARD OF 'dryrotlaw06.StripeNeeds'. -/
def stripeNeedsUptoCard : Claim7 := { stood := { row := stripeNeedsUptoRow, standIns := [], harness := (true, "3a41e77a71fd0ae4a6164257e498d13b61f909004396b166a91ca29da3340a97"), looks := false }, kinds := [], alts := [], laidByText := true, laidKinds := [.data], laidTests := true, laidLooks := .later }
def StripeNeedsUptoCardSaid : Prop := Claim7.holds Tryd.pinned (.plain (OpenSpec.upto stripeNeedsSpec)) stripeNeedsUptoCard

/-- THE SECOND FORM's CARD OF 'dryrotlaw06.StripeParts'. -/
def stripePartsUptoCard : Claim7 := { stood := { row := stripePartsUptoRow, standIns := [], harness := (true, "3a41e77a71fd0ae4a6164257e498d13b61f909004396b166a91ca29da3340a97"), looks := false }, kinds := [], alts := [], laidByText := true, laidKinds := [.data, .data, .pinned], laidTests := true, laidLooks := .later }
def StripePartsUptoCardSaid : Prop := Claim7.holds Tryd.pinned (.plain (OpenSpec.upto stripePartsSpec)) stripePartsUptoCard

/-- THE SECOND FORM's CARD OF 'dryrotlaw06.StripeNobody'. -/
def stripeNobodyUptoCard : Claim7 := { stood := { row := stripeNobodyUptoRow, standIns := [], harness := (true, "3a41e77a71fd0ae4a6164257e498d13b61f909004396b166a91ca29da3340a97"), looks := false }, kinds := [], alts := [], laidByText := true, laidKinds := [.data, .data, .pinned], laidTests := true, laidLooks := .later }
def StripeNobodyUptoCardSaid : Prop := Claim7.holds Tryd.pinned (.plain (OpenSpec.upto stripeNobodySpec)) stripeNobodyUptoCard

/-- THE SECOND FORM's CARD OF 'dryrotlaw06.StripeTwo'. -/
def stripeTwoUptoCard : Claim7 := { stood := { row := stripeTwoUptoRow, standIns := [], harness := (true, "3a41e77a71fd0ae4a6164257e498d13b61f909004396b166a91ca29da3340a97"), looks := false }, kinds := [], alts := [], laidByText := true, laidKinds := [.data, .data, .pinned], laidTests := true, laidLooks := .later }
def StripeTwoUptoCardSaid : Prop := Claim7.holds Tryd.pinned (.plain (OpenSpec.upto stripeTwoSpec)) stripeTwoUptoCard

/-- THE SECOND FORM's CARD OF 'dryrotlaw17.AnchorSaves'. -/
def anchorSavesUptoCard : Claim7 := { stood := { row := anchorSavesUptoRow, standIns := [], harness := (true, "3a41e77a71fd0ae4a6164257e498d13b61f909004396b166a91ca29da3340a97"), looks := false }, kinds := [], alts := [], laidByText := true, laidKinds := [.data], laidTests := true, laidLooks := .later }
def AnchorSavesUptoCardSaid : Prop := Claim7.holds Tryd.pinned (.plain (OpenSpec.upto anchorSavesSpec)) anchorSavesUptoCard

/-- THE SECOND FORM's CARD OF 'dryrotlaw18.WalBack'. -/
def walBackUptoCard : Claim7 := { stood := { row := walBackUptoRow, standIns := [], harness := (true, "3a41e77a71fd0ae4a6164257e498d13b61f909004396b166a91ca29da3340a97"), looks := false }, kinds := [], alts := [], laidByText := true, laidKinds := [.data, .data, .data, .data], laidTests := true, laidLooks := .later }
def WalBackUptoCardSaid : Prop := Claim7.holds Tryd.pinned (.plain (OpenSpec.upto walBackSpec)) walBackUptoCard

/-- THE SECOND FORM's CARD OF 'dryrotlaw06.StripeOne'. -/
def stripeOneUptoCard : Claim7 := { stood := { row := stripeOneUptoRow, standIns := [], harness := (true, "3a41e77a71fd0ae4a6164257e498d13b61f909004396b166a91ca29da3340a97"), looks := false }, kinds := [], alts := [], laidByText := true, laidKinds := [.data, .data, .pinned], laidTests := true, laidLooks := .later }
def StripeOneUptoCardSaid : Prop := Claim7.holds Tryd.pinned (.plain (OpenSpec.upto stripeOneSpec)) stripeOneUptoCard

/-- THE SECOND FORM's CARD OF 'dryrotlaw05.PairHalf'. -/
def pairHalfUptoCard : Claim7 := { stood := { row := pairHalfUptoRow, standIns := [], harness := (true, "3a41e77a71fd0ae4a6164257e498d13b61f909004396b166a91ca29da3340a97"), looks := false }, kinds := [], alts := [], laidByText := true, laidKinds := [.data], laidTests := true, laidLooks := .later }
def PairHalfUptoCardSaid : Prop := Claim7.holds Tryd.pinned (.plain (OpenSpec.upto pairHalfSpec)) pairHalfUptoCard
end Rows
end Go.Proofs.YtjekeggkckgjfaaDoor
