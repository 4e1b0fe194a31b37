/-
  NARROWER THAN 'FOR EVERY INPUT', by the rows' own cells (each row's printed sentence says how): PostingsSeeks: loops · PostingsSets: loops.
  DERIVED. THE GIVEN ROWS OF THIS SEAT. 7 by the template 'for every input the law returns true; each argument reads behind the call as it read before'; 0 by the template 'total and deterministic' (their statements: YtdcmanihihlaiaaTotals.lean).
  GIVEN WITH THE SEED: the statements are not yours to turn. If you find one false, say at which input.
  Laid BY PROGRAM, IN A SANDBOX (cutbox-rows.mjs): the forced cells as the released guide's own fill.sh prints them over the translation 20ca6b7749ddfced… (all of the seat's roots in one cut). By AI agents, Wed Nov 11 2026. No macro, syntax, notation, axiom, sorry.
-/
import Derived.Test.YtdcmanihihlaiaaChecked
import GoSem.Claim
import GoSem.ClaimJoined
import GoSem.ClaimMapViews
import Derived.JoinedTies
import Derived.KernelRfl
namespace Go.Proofs.Ytdcmanihihlaiaa
/- THE CELL 'sum', in the pinned program and in every row, IS THE sha256 OF THE DUMP (.gsa) THAT YtdcmanihihlaiaaProg.lean LOADS. Nothing in Lean hashes anything: it is a label: what it is worth is what the hold of that sum in a sandbox is worth. -/
noncomputable def Try.pinned : Pinned := { name := "ytdcmanihihlaiaa", sum := "20ca6b7749ddfcedf06a5f26a53dcd5e073adea628328800f1feac66efedbd28", checked := Try.checked }
namespace Rows
def none {H : Type} : Left H := { results := [], args := [] }

/-- 'dryrotlaw25.PostingsOnce': WHATEVER THE INPUT: true; the input reads as it did. -/
def postingsOnceSpec : ChangeSpec := { name := "postingsOnce", fn := fun _ => fun
  | [d] => { results := [.lit (.bool true)], args := [d] }
  | _ => none }
def postingsOnceRow : OpenClaim := { program := "ytdcmanihihlaiaa", sum := "20ca6b7749ddfcedf06a5f26a53dcd5e073adea628328800f1feac66efedbd28", func := "dryrot/dryrotlaw25.PostingsOnce", spec := "postingsOnce", unfollowed := true, recurses := true, apart := false }
def PostingsOnceSaid : Prop := postingsOnceRow.holds Try.pinned (OpenSpec.ofChange postingsOnceSpec)

/-- ITS FALSE NEIGHBOUR: 'it returns false'. Refute it at one input. -/
def postingsOnceWrong : ChangeSpec := { name := "postingsOnce", fn := fun _ => fun
  | [d] => { results := [.lit (.bool false)], args := [d] }
  | _ => none }
def PostingsOnceWrongFalsely : Prop := postingsOnceRow.holds Try.pinned (OpenSpec.ofChange postingsOnceWrong)

/-- 'dryrotlaw25.PostingsPack': WHATEVER THE INPUT: true; the input reads as it did. -/
def postingsPackSpec : ChangeSpec := { name := "postingsPack", fn := fun _ => fun
  | [d1, d2] => { results := [.lit (.bool true)], args := [d1, d2] }
  | _ => none }
def postingsPackRow : OpenClaim := { program := "ytdcmanihihlaiaa", sum := "20ca6b7749ddfcedf06a5f26a53dcd5e073adea628328800f1feac66efedbd28", func := "dryrot/dryrotlaw25.PostingsPack", spec := "postingsPack", unfollowed := true, recurses := true, apart := false }
def PostingsPackSaid : Prop := postingsPackRow.holds Try.pinned (OpenSpec.ofChange postingsPackSpec)

/-- ITS FALSE NEIGHBOUR: 'it returns false'. Refute it at one input. -/
def postingsPackWrong : ChangeSpec := { name := "postingsPack", fn := fun _ => fun
  | [d1, d2] => { results := [.lit (.bool false)], args := [d1, d2] }
  | _ => none }
def PostingsPackWrongFalsely : Prop := postingsPackRow.holds Try.pinned (OpenSpec.ofChange postingsPackWrong)

/-- 'dryrotlaw25.PostingsBack': WHATEVER THE INPUT: true; the input reads as it did. -/
def postingsBackSpec : ChangeSpec := { name := "postingsBack", fn := fun _ => fun
  | [d] => { results := [.lit (.bool true)], args := [d] }
  | _ => none }
def postingsBackRow : OpenClaim := { program := "ytdcmanihihlaiaa", sum := "20ca6b7749ddfcedf06a5f26a53dcd5e073adea628328800f1feac66efedbd28", func := "dryrot/dryrotlaw25.PostingsBack", spec := "postingsBack", unfollowed := true, recurses := true, apart := false }
def PostingsBackSaid : Prop := postingsBackRow.holds Try.pinned (OpenSpec.ofChange postingsBackSpec)

/-- ITS FALSE NEIGHBOUR: 'it returns false'. Refute it at one input. -/
def postingsBackWrong : ChangeSpec := { name := "postingsBack", fn := fun _ => fun
  | [d] => { results := [.lit (.bool false)], args := [d] }
  | _ => none }
def PostingsBackWrongFalsely : Prop := postingsBackRow.holds Try.pinned (OpenSpec.ofChange postingsBackWrong)

/-- 'dryrotlaw25.PostingsNobody': WHATEVER THE INPUT: true; the input reads as it did. -/
def postingsNobodySpec : ChangeSpec := { name := "postingsNobody", fn := fun _ => fun
  | [d] => { results := [.lit (.bool true)], args := [d] }
  | _ => none }
def postingsNobodyRow : OpenClaim := { program := "ytdcmanihihlaiaa", sum := "20ca6b7749ddfcedf06a5f26a53dcd5e073adea628328800f1feac66efedbd28", func := "dryrot/dryrotlaw25.PostingsNobody", spec := "postingsNobody", unfollowed := true, recurses := true, apart := false }
def PostingsNobodySaid : Prop := postingsNobodyRow.holds Try.pinned (OpenSpec.ofChange postingsNobodySpec)

/-- ITS FALSE NEIGHBOUR: 'it returns false'. Refute it at one input. -/
def postingsNobodyWrong : ChangeSpec := { name := "postingsNobody", fn := fun _ => fun
  | [d] => { results := [.lit (.bool false)], args := [d] }
  | _ => none }
def PostingsNobodyWrongFalsely : Prop := postingsNobodyRow.holds Try.pinned (OpenSpec.ofChange postingsNobodyWrong)

/-- 'dryrotlaw25.PostingsSeeks': WHATEVER THE INPUT: true; the input reads as it did. -/
def postingsSeeksSpec : ChangeSpec := { name := "postingsSeeks", fn := fun _ => fun
  | [d1, d2] => { results := [.lit (.bool true)], args := [d1, d2] }
  | _ => none }
def postingsSeeksRow : OpenClaim := { program := "ytdcmanihihlaiaa", sum := "20ca6b7749ddfcedf06a5f26a53dcd5e073adea628328800f1feac66efedbd28", func := "dryrot/dryrotlaw25.PostingsSeeks", spec := "postingsSeeks", unfollowed := true, recurses := true, loops := true, apart := false }
def PostingsSeeksSaid : Prop := postingsSeeksRow.holds Try.pinned (OpenSpec.ofChange postingsSeeksSpec)

/-- ITS FALSE NEIGHBOUR: 'it returns false'. Refute it at one input. -/
def postingsSeeksWrong : ChangeSpec := { name := "postingsSeeks", fn := fun _ => fun
  | [d1, d2] => { results := [.lit (.bool false)], args := [d1, d2] }
  | _ => none }
def PostingsSeeksWrongFalsely : Prop := postingsSeeksRow.holds Try.pinned (OpenSpec.ofChange postingsSeeksWrong)

/-- 'dryrotlaw25.PostingsSets': WHATEVER THE INPUT: true; the input reads as it did. -/
def postingsSetsSpec : ChangeSpec := { name := "postingsSets", fn := fun _ => fun
  | [d] => { results := [.lit (.bool true)], args := [d] }
  | _ => none }
def postingsSetsRow : OpenClaim := { program := "ytdcmanihihlaiaa", sum := "20ca6b7749ddfcedf06a5f26a53dcd5e073adea628328800f1feac66efedbd28", func := "dryrot/dryrotlaw25.PostingsSets", spec := "postingsSets", unfollowed := true, recurses := true, loops := true, apart := false }
def PostingsSetsSaid : Prop := postingsSetsRow.holds Try.pinned (OpenSpec.ofChange postingsSetsSpec)

/-- ITS FALSE NEIGHBOUR: 'it returns false'. Refute it at one input. -/
def postingsSetsWrong : ChangeSpec := { name := "postingsSets", fn := fun _ => fun
  | [d] => { results := [.lit (.bool false)], args := [d] }
  | _ => none }
def PostingsSetsWrongFalsely : Prop := postingsSetsRow.holds Try.pinned (OpenSpec.ofChange postingsSetsWrong)

/-- 'dryrotlaw25.PostingsParts': WHATEVER THE INPUT: true; the input reads as it did. -/
def postingsPartsSpec : ChangeSpec := { name := "postingsParts", fn := fun _ => fun
  | [d1, d2, d3] => { results := [.lit (.bool true)], args := [d1, d2, d3] }
  | _ => none }
def postingsPartsRow : OpenClaim := { program := "ytdcmanihihlaiaa", sum := "20ca6b7749ddfcedf06a5f26a53dcd5e073adea628328800f1feac66efedbd28", func := "dryrot/dryrotlaw25.PostingsParts", spec := "postingsParts", unfollowed := true, recurses := true, apart := false }
def PostingsPartsSaid : Prop := postingsPartsRow.holds Try.pinned (OpenSpec.ofChange postingsPartsSpec)

/-- ITS FALSE NEIGHBOUR: 'it returns false'. Refute it at one input. -/
def postingsPartsWrong : ChangeSpec := { name := "postingsParts", fn := fun _ => fun
  | [d1, d2, d3] => { results := [.lit (.bool false)], args := [d1, d2, d3] }
  | _ => none }
def PostingsPartsWrongFalsely : Prop := postingsPartsRow.holds Try.pinned (OpenSpec.ofChange postingsPartsWrong)

/- THE SECOND FORM. 'bulk': how many values and letters a reading holds, each counted each time it is reached (what is shared counts as often as it is met; a slice's spare places count too). A statement '..UptoSaid' is the law's where the arguments, and the package variables that the reading takes, are together of bulk at most 1048576: NARROWER than '..Said'. Prove '..Said' where nothing that the law and all that it calls make is longer than what came in: it says more and counts as full. Else prove '..UptoSaid'. A law counts once. -/
mutual
def uptoBulk {H : Type} : DataW H → Nat
  | .lit (.string bytes) => bytes.length + 1
  | .lit _ => 1
  | .nil => 1
  | .ptr d => uptoBulk d + 1
  | .slice elems spare => uptoBulkAll elems + uptoBulkAll spare + 1
  | .agg parts => uptoBulkAll parts + 1
  | .iface _ d => uptoBulk d + 1
  | .map entries => uptoBulkEntries entries + 1
  | .held _ => 1
def uptoBulkAll {H : Type} : List (DataW H) → Nat
  | [] => 0
  | d :: r => uptoBulk d + uptoBulkAll r
def uptoBulkEntries {H : Type} : List (Lit × DataW H) → Nat
  | [] => 0
  | x :: r => uptoBulkEntry x + uptoBulkEntries r
def uptoBulkEntry {H : Type} : Lit × DataW H → Nat
  | (.string bytes, d) => bytes.length + uptoBulk d + 1
  | (_, d) => uptoBulk d + 1
 end
def uptoSmall : (H : Type) → List (DataW H) → Bool := fun _ ds => decide (uptoBulkAll ds ≤ 1048576)
def OpenSpec.upto (s : _root_.Go.ChangeSpec) : _root_.Go.OpenSpec := { _root_.Go.OpenSpec.ofChange s with cond := some uptoSmall }

/-- 'dryrotlaw25.PostingsOnce', WHERE WHAT IT READS IS OF BULK AT MOST 1048576: true; the input reads as it did. -/
def postingsOnceUptoRow : OpenClaim := { program := "ytdcmanihihlaiaa", sum := "20ca6b7749ddfcedf06a5f26a53dcd5e073adea628328800f1feac66efedbd28", func := "dryrot/dryrotlaw25.PostingsOnce", spec := "postingsOnce", unfollowed := true, recurses := true, apart := false, narrowed := true }
def PostingsOnceUptoSaid : Prop := postingsOnceUptoRow.holds Try.pinned (OpenSpec.upto postingsOnceSpec)

/-- 'dryrotlaw25.PostingsPack', WHERE WHAT IT READS IS OF BULK AT MOST 1048576: true; the input reads as it did. -/
def postingsPackUptoRow : OpenClaim := { program := "ytdcmanihihlaiaa", sum := "20ca6b7749ddfcedf06a5f26a53dcd5e073adea628328800f1feac66efedbd28", func := "dryrot/dryrotlaw25.PostingsPack", spec := "postingsPack", unfollowed := true, recurses := true, apart := false, narrowed := true }
def PostingsPackUptoSaid : Prop := postingsPackUptoRow.holds Try.pinned (OpenSpec.upto postingsPackSpec)

/-- 'dryrotlaw25.PostingsBack', WHERE WHAT IT READS IS OF BULK AT MOST 1048576: true; the input reads as it did. -/
def postingsBackUptoRow : OpenClaim := { program := "ytdcmanihihlaiaa", sum := "20ca6b7749ddfcedf06a5f26a53dcd5e073adea628328800f1feac66efedbd28", func := "dryrot/dryrotlaw25.PostingsBack", spec := "postingsBack", unfollowed := true, recurses := true, apart := false, narrowed := true }
def PostingsBackUptoSaid : Prop := postingsBackUptoRow.holds Try.pinned (OpenSpec.upto postingsBackSpec)

/-- 'dryrotlaw25.PostingsNobody', WHERE WHAT IT READS IS OF BULK AT MOST 1048576: true; the input reads as it did. -/
def postingsNobodyUptoRow : OpenClaim := { program := "ytdcmanihihlaiaa", sum := "20ca6b7749ddfcedf06a5f26a53dcd5e073adea628328800f1feac66efedbd28", func := "dryrot/dryrotlaw25.PostingsNobody", spec := "postingsNobody", unfollowed := true, recurses := true, apart := false, narrowed := true }
def PostingsNobodyUptoSaid : Prop := postingsNobodyUptoRow.holds Try.pinned (OpenSpec.upto postingsNobodySpec)

/-- 'dryrotlaw25.PostingsSeeks', WHERE WHAT IT READS IS OF BULK AT MOST 1048576: true; the input reads as it did. -/
def postingsSeeksUptoRow : OpenClaim := { program := "ytdcmanihihlaiaa", sum := "20ca6b7749ddfcedf06a5f26a53dcd5e073adea628328800f1feac66efedbd28", func := "dryrot/dryrotlaw25.PostingsSeeks", spec := "postingsSeeks", unfollowed := true, recurses := true, loops := true, apart := false, narrowed := true }
def PostingsSeeksUptoSaid : Prop := postingsSeeksUptoRow.holds Try.pinned (OpenSpec.upto postingsSeeksSpec)

/-- 'dryrotlaw25.PostingsSets', WHERE WHAT IT READS IS OF BULK AT MOST 1048576: true; the input reads as it did. -/
def postingsSetsUptoRow : OpenClaim := { program := "ytdcmanihihlaiaa", sum := "20ca6b7749ddfcedf06a5f26a53dcd5e073adea628328800f1feac66efedbd28", func := "dryrot/dryrotlaw25.PostingsSets", spec := "postingsSets", unfollowed := true, recurses := true, loops := true, apart := false, narrowed := true }
def PostingsSetsUptoSaid : Prop := postingsSetsUptoRow.holds Try.pinned (OpenSpec.upto postingsSetsSpec)

/-- 'dryrotlaw25.PostingsParts', WHERE WHAT IT READS IS OF BULK AT MOST 1048576: true; the input reads as it did. -/
def postingsPartsUptoRow : OpenClaim := { program := "ytdcmanihihlaiaa", sum := "20ca6b7749ddfcedf06a5f26a53dcd5e073adea628328800f1feac66efedbd28", func := "dryrot/dryrotlaw25.PostingsParts", spec := "postingsParts", unfollowed := true, recurses := true, apart := false, narrowed := true }
def PostingsPartsUptoSaid : Prop := postingsPartsUptoRow.holds Try.pinned (OpenSpec.upto postingsPartsSpec)

end Rows
end Go.Proofs.Ytdcmanihihlaiaa
