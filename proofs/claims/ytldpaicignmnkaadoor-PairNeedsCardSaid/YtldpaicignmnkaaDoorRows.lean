/-
  NARROWER THAN 'FOR EVERY INPUT', by the rows' own cells (each row's printed sentence says how): PairNeeds: laid · PairNewer: laid · PairNobody: laid · PairLost: laid · PairHalf: laid.
  DERIVED. THE GIVEN ROWS OF THIS SEAT. 5 by the template 'for every input the law returns true; each argument reads behind the call as it read before'; 0 by the template 'total and deterministic' (their statements: YtldpaicignmnkaaDoorTotals.lean).
  GIVEN WITH THE SEED: the statements are not yours to turn. If you find one false, say at which input.
  Laid BY PROGRAM, IN A SANDBOX (cutbox-rows.mjs): the forced cells as the released guide's own fill.sh prints them over the translation 4e75d670be859d09… (all of the seat's roots in one cut). By AI agents, Wed Nov 11 2026. No macro, syntax, notation, axiom, sorry.
-/
import Derived.Test.YtldpaicignmnkaaDoorChecked
import GoSem.Claim
import GoSem.ClaimJoined
import GoSem.ClaimMapViews
import Derived.JoinedTies
import Derived.KernelRfl
namespace Go.Proofs.YtldpaicignmnkaaDoor
/- THE CELL 'sum', in the pinned program and in every row, IS THE sha256 OF THE DUMP (.gsa) THAT YtldpaicignmnkaaDoorProg.lean LOADS. Nothing in Lean hashes anything: it is a label: what it is worth is what the hold of that sum in a sandbox is worth. -/
noncomputable def Tryd.pinned : Pinned := { name := "ytldpaicignmnkaadoor", sum := "4e75d670be859d0989eef15c3ebcc79330acf56d95958eab9cf82f01a6f4fb85", checked := Tryd.checked }
namespace Rows
def none {H : Type} : Left H := { results := [], args := [] }

/- WHAT THE LISTED PACKAGE-LEVEL VARIABLES READ AS WHEN THE CALL BEGINS. Each datum BY PROGRAM (the guide's laid-datum.mjs) off the statement by which the dump's own 'gosem.cut.vars' lays the variable. In a bare row this is a premise. The card (YtldpaicignmnkaaDoorCards.lean) ties it to the program's text. -/
def laid_dryrot_crc_quarter {H : Type} : DataW H := .agg [.lit (.int .u32 0), .lit (.int .u32 1098587580), .lit (.int .u32 2197175160), .lit (.int .u32 3280807620)]

/-- 'dryrotlaw05.PairNeeds': WHATEVER THE INPUT: true; the input reads as it did. -/
def pairNeedsSpec : ChangeSpec := { name := "pairNeeds", fn := fun _ => fun
  | [d1, d2] => { results := [.lit (.bool true)], args := [d1, d2] }
  | _ => none }
def pairNeedsRow : OpenClaim := { program := "ytldpaicignmnkaadoor", sum := "4e75d670be859d0989eef15c3ebcc79330acf56d95958eab9cf82f01a6f4fb85", func := "dryrot/dryrotlaw05.PairNeeds", spec := "pairNeeds", unfollowed := true, recurses := true, named := ["dryrot/crc.quarter"], plainKeys := false, apart := false, laid := [("dryrot/crc.quarter", laid_dryrot_crc_quarter)] }
def PairNeedsSaid : Prop := pairNeedsRow.holds Tryd.pinned (OpenSpec.ofChange pairNeedsSpec)

/-- ITS FALSE NEIGHBOUR: 'it returns false'. Refute it at one input. -/
def pairNeedsWrong : ChangeSpec := { name := "pairNeeds", fn := fun _ => fun
  | [d1, d2] => { results := [.lit (.bool false)], args := [d1, d2] }
  | _ => none }
def PairNeedsWrongFalsely : Prop := pairNeedsRow.holds Tryd.pinned (OpenSpec.ofChange pairNeedsWrong)

/-- 'dryrotlaw05.PairNewer': WHATEVER THE INPUT: true; the input reads as it did. -/
def pairNewerSpec : ChangeSpec := { name := "pairNewer", fn := fun _ => fun
  | [d1, d2, d3] => { results := [.lit (.bool true)], args := [d1, d2, d3] }
  | _ => none }
def pairNewerRow : OpenClaim := { program := "ytldpaicignmnkaadoor", sum := "4e75d670be859d0989eef15c3ebcc79330acf56d95958eab9cf82f01a6f4fb85", func := "dryrot/dryrotlaw05.PairNewer", spec := "pairNewer", unfollowed := true, recurses := true, named := ["dryrot/crc.quarter"], plainKeys := false, apart := false, laid := [("dryrot/crc.quarter", laid_dryrot_crc_quarter)] }
def PairNewerSaid : Prop := pairNewerRow.holds Tryd.pinned (OpenSpec.ofChange pairNewerSpec)

/-- ITS FALSE NEIGHBOUR: 'it returns false'. Refute it at one input. -/
def pairNewerWrong : ChangeSpec := { name := "pairNewer", fn := fun _ => fun
  | [d1, d2, d3] => { results := [.lit (.bool false)], args := [d1, d2, d3] }
  | _ => none }
def PairNewerWrongFalsely : Prop := pairNewerRow.holds Tryd.pinned (OpenSpec.ofChange pairNewerWrong)

/-- 'dryrotlaw05.PairNobody': WHATEVER THE INPUT: true; the input reads as it did. -/
def pairNobodySpec : ChangeSpec := { name := "pairNobody", fn := fun _ => fun
  | [d] => { results := [.lit (.bool true)], args := [d] }
  | _ => none }
def pairNobodyRow : OpenClaim := { program := "ytldpaicignmnkaadoor", sum := "4e75d670be859d0989eef15c3ebcc79330acf56d95958eab9cf82f01a6f4fb85", func := "dryrot/dryrotlaw05.PairNobody", spec := "pairNobody", unfollowed := true, recurses := true, named := ["dryrot/crc.quarter"], plainKeys := false, apart := false, laid := [("dryrot/crc.quarter", laid_dryrot_crc_quarter)] }
def PairNobodySaid : Prop := pairNobodyRow.holds Tryd.pinned (OpenSpec.ofChange pairNobodySpec)

/-- ITS FALSE NEIGHBOUR: 'it returns false'. Refute it at one input. -/
def pairNobodyWrong : ChangeSpec := { name := "pairNobody", fn := fun _ => fun
  | [d] => { results := [.lit (.bool false)], args := [d] }
  | _ => none }
def PairNobodyWrongFalsely : Prop := pairNobodyRow.holds Tryd.pinned (OpenSpec.ofChange pairNobodyWrong)

/-- 'dryrotlaw05.PairLost': WHATEVER THE INPUT: true; the input reads as it did. -/
def pairLostSpec : ChangeSpec := { name := "pairLost", fn := fun _ => fun
  | [d1, d2, d3, d4, d5] => { results := [.lit (.bool true)], args := [d1, d2, d3, d4, d5] }
  | _ => none }
def pairLostRow : OpenClaim := { program := "ytldpaicignmnkaadoor", sum := "4e75d670be859d0989eef15c3ebcc79330acf56d95958eab9cf82f01a6f4fb85", func := "dryrot/dryrotlaw05.PairLost", spec := "pairLost", unfollowed := true, recurses := true, named := ["dryrot/crc.quarter"], plainKeys := false, apart := false, laid := [("dryrot/crc.quarter", laid_dryrot_crc_quarter)] }
def PairLostSaid : Prop := pairLostRow.holds Tryd.pinned (OpenSpec.ofChange pairLostSpec)

/-- ITS FALSE NEIGHBOUR: 'it returns false'. Refute it at one input. -/
def pairLostWrong : ChangeSpec := { name := "pairLost", fn := fun _ => fun
  | [d1, d2, d3, d4, d5] => { results := [.lit (.bool false)], args := [d1, d2, d3, d4, d5] }
  | _ => none }
def PairLostWrongFalsely : Prop := pairLostRow.holds Tryd.pinned (OpenSpec.ofChange pairLostWrong)

/-- 'dryrotlaw05.PairHalf': WHATEVER THE INPUT: true; the input reads as it did. -/
def pairHalfSpec : ChangeSpec := { name := "pairHalf", fn := fun _ => fun
  | [d1, d2, d3, d4] => { results := [.lit (.bool true)], args := [d1, d2, d3, d4] }
  | _ => none }
def pairHalfRow : OpenClaim := { program := "ytldpaicignmnkaadoor", sum := "4e75d670be859d0989eef15c3ebcc79330acf56d95958eab9cf82f01a6f4fb85", func := "dryrot/dryrotlaw05.PairHalf", spec := "pairHalf", unfollowed := true, recurses := true, named := ["dryrot/crc.quarter"], plainKeys := false, apart := false, laid := [("dryrot/crc.quarter", laid_dryrot_crc_quarter)] }
def PairHalfSaid : Prop := pairHalfRow.holds Tryd.pinned (OpenSpec.ofChange pairHalfSpec)

/-- ITS FALSE NEIGHBOUR: 'it returns false'. Refute it at one input. -/
def pairHalfWrong : ChangeSpec := { name := "pairHalf", fn := fun _ => fun
  | [d1, d2, d3, d4] => { results := [.lit (.bool false)], args := [d1, d2, d3, d4] }
  | _ => none }
def PairHalfWrongFalsely : Prop := pairHalfRow.holds Tryd.pinned (OpenSpec.ofChange pairHalfWrong)

/- THE SECOND FORM. 'bulk': how many values and letters a reading holds, each counted each time it is reached (what is shared counts as often as it is met; a slice's spare places count too). A statement '..UptoSaid' is the law's where the arguments, and the package variables that the reading takes, are together of bulk at most 1048576: NARROWER than '..Said'. Prove '..Said' where nothing that the law and all that it calls make is longer than what came in: it says more and counts as full. Else prove '..UptoSaid'. A law counts once. -/
mutual
def uptoBulk {H : Type} : DataW H → Nat
  | .lit (.string bytes) => bytes.length + 1
  | .lit _ => 1
  | .nil => 1
  | .ptr d => uptoBulk d + 1
  | .slice elems spare => uptoBulkAll elems + uptoBulkAll spare + 1
  | .agg parts => uptoBulkAll parts + 1
  | .iface _ d => uptoBulk d + 1
  | .map entries => uptoBulkEntries entries + 1
  | .held _ => 1
def uptoBulkAll {H : Type} : List (DataW H) → Nat
  | [] => 0
  | d :: r => uptoBulk d + uptoBulkAll r
def uptoBulkEntries {H : Type} : List (Lit × DataW H) → Nat
  | [] => 0
  | x :: r => uptoBulkEntry x + uptoBulkEntries r
def uptoBulkEntry {H : Type} : Lit × DataW H → Nat
  | (.string bytes, d) => bytes.length + uptoBulk d + 1
  | (_, d) => uptoBulk d + 1
 end
def uptoSmall : (H : Type) → List (DataW H) → Bool := fun _ ds => decide (uptoBulkAll ds ≤ 1048576)
def OpenSpec.upto (s : _root_.Go.ChangeSpec) : _root_.Go.OpenSpec := { _root_.Go.OpenSpec.ofChange s with cond := some uptoSmall }

/-- 'dryrotlaw05.PairNeeds', WHERE WHAT IT READS IS OF BULK AT MOST 1048576: true; the input reads as it did. -/
def pairNeedsUptoRow : OpenClaim := { program := "ytldpaicignmnkaadoor", sum := "4e75d670be859d0989eef15c3ebcc79330acf56d95958eab9cf82f01a6f4fb85", func := "dryrot/dryrotlaw05.PairNeeds", spec := "pairNeeds", unfollowed := true, recurses := true, named := ["dryrot/crc.quarter"], plainKeys := false, apart := false, laid := [("dryrot/crc.quarter", laid_dryrot_crc_quarter)], narrowed := true }
def PairNeedsUptoSaid : Prop := pairNeedsUptoRow.holds Tryd.pinned (OpenSpec.upto pairNeedsSpec)

/-- 'dryrotlaw05.PairNewer', WHERE WHAT IT READS IS OF BULK AT MOST 1048576: true; the input reads as it did. -/
def pairNewerUptoRow : OpenClaim := { program := "ytldpaicignmnkaadoor", sum := "4e75d670be859d0989eef15c3ebcc79330acf56d95958eab9cf82f01a6f4fb85", func := "dryrot/dryrotlaw05.PairNewer", spec := "pairNewer", unfollowed := true, recurses := true, named := ["dryrot/crc.quarter"], plainKeys := false, apart := false, laid := [("dryrot/crc.quarter", laid_dryrot_crc_quarter)], narrowed := true }
def PairNewerUptoSaid : Prop := pairNewerUptoRow.holds Tryd.pinned (OpenSpec.upto pairNewerSpec)

/-- 'dryrotlaw05.PairNobody', WHERE WHAT IT READS IS OF BULK AT MOST 1048576: true; the input reads as it did. -/
def pairNobodyUptoRow : OpenClaim := { program := "ytldpaicignmnkaadoor", sum := "4e75d670be859d0989eef15c3ebcc79330acf56d95958eab9cf82f01a6f4fb85", func := "dryrot/dryrotlaw05.PairNobody", spec := "pairNobody", unfollowed := true, recurses := true, named := ["dryrot/crc.quarter"], plainKeys := false, apart := false, laid := [("dryrot/crc.quarter", laid_dryrot_crc_quarter)], narrowed := true }
def PairNobodyUptoSaid : Prop := pairNobodyUptoRow.holds Tryd.pinned (OpenSpec.upto pairNobodySpec)

/-- 'dryrotlaw05.PairLost', WHERE WHAT IT READS IS OF BULK AT MOST 1048576: true; the input reads as it did. -/
def pairLostUptoRow : OpenClaim := { program := "ytldpaicignmnkaadoor", sum := "4e75d670be859d0989eef15c3ebcc79330acf56d95958eab9cf82f01a6f4fb85", func := "dryrot/dryrotlaw05.PairLost", spec := "pairLost", unfollowed := true, recurses := true, named := ["dryrot/crc.quarter"], plainKeys := false, apart := false, laid := [("dryrot/crc.quarter", laid_dryrot_crc_quarter)], narrowed := true }
def PairLostUptoSaid : Prop := pairLostUptoRow.holds Tryd.pinned (OpenSpec.upto pairLostSpec)

/-- 'dryrotlaw05.PairHalf', WHERE WHAT IT READS IS OF BULK AT MOST 1048576: true; the input reads as it did. -/
def pairHalfUptoRow : OpenClaim := { program := "ytldpaicignmnkaadoor", sum := "4e75d670be859d0989eef15c3ebcc79330acf56d95958eab9cf82f01a6f4fb85", func := "dryrot/dryrotlaw05.PairHalf", spec := "pairHalf", unfollowed := true, recurses := true, named := ["dryrot/crc.quarter"], plainKeys := false, apart := false, laid := [("dryrot/crc.quarter", laid_dryrot_crc_quarter)], narrowed := true }
def PairHalfUptoSaid : Prop := pairHalfUptoRow.holds Tryd.pinned (OpenSpec.upto pairHalfSpec)

end Rows
end Go.Proofs.YtldpaicignmnkaaDoor
