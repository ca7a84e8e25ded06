/-
  No cell of these rows narrows 'for every input' (looked for: loops, veiled, ifaces, maps, wideKeys, modest, calm, conditions, laid).
  DERIVED. THE GIVEN ROWS OF THIS SEAT. 7 by the template 'for every input the law returns true; each argument reads behind the call as it read before'; 0 by the template 'total and deterministic' (their statements: YtgiokbhedblkfaaTotals.lean).
  GIVEN WITH THE SEED: the statements are not yours to turn. If you find one false, say at which input.
  Laid BY PROGRAM, IN A SANDBOX (cutbox-rows.mjs): the forced cells as the released guide's own fill.sh prints them over the translation 817c507010b594ca… (all of the seat's roots in one cut). By AI agents, Wed Nov 11 2026. No macro, syntax, notation, axiom, sorry.
-/
import Derived.Test.YtgiokbhedblkfaaChecked
import GoSem.Claim
import GoSem.ClaimJoined
import GoSem.ClaimMapViews
import Derived.JoinedTies
import Derived.KernelRfl
namespace Go.Proofs.Ytgiokbhedblkfaa
/- THE CELL 'sum', in the pinned program and in every row, IS THE sha256 OF THE DUMP (.gsa) THAT YtgiokbhedblkfaaProg.lean LOADS. Nothing in Lean hashes anything: it is a label: what it is worth is what the hold of that sum in a sandbox is worth. -/
noncomputable def Try.pinned : Pinned := { name := "ytgiokbhedblkfaa", sum := "817c507010b594ca862a8ce576914692edf3ba54fdc96591d67899ca37741d72", checked := Try.checked }
namespace Rows
def none {H : Type} : Left H := { results := [], args := [] }

/-- 'cohortlaw11.ConfFresh': WHATEVER THE INPUT: true; the input reads as it did. -/
def confFreshSpec : ChangeSpec := { name := "confFresh", fn := fun _ => fun
  | [d] => { results := [.lit (.bool true)], args := [d] }
  | _ => none }
def confFreshRow : OpenClaim := { program := "ytgiokbhedblkfaa", sum := "817c507010b594ca862a8ce576914692edf3ba54fdc96591d67899ca37741d72", func := "cohort/cohortlaw11.ConfFresh", spec := "confFresh", unfollowed := true, recurses := true, apart := false }
def ConfFreshSaid : Prop := confFreshRow.holds Try.pinned (OpenSpec.ofChange confFreshSpec)

/-- ITS FALSE NEIGHBOUR: 'it returns false'. Refute it at one input. -/
def confFreshWrong : ChangeSpec := { name := "confFresh", fn := fun _ => fun
  | [d] => { results := [.lit (.bool false)], args := [d] }
  | _ => none }
def ConfFreshWrongFalsely : Prop := confFreshRow.holds Try.pinned (OpenSpec.ofChange confFreshWrong)

/-- 'cohortlaw11.ConfReads': WHATEVER THE INPUT: true; the input reads as it did. -/
def confReadsSpec : ChangeSpec := { name := "confReads", fn := fun _ => fun
  | [d1, d2] => { results := [.lit (.bool true)], args := [d1, d2] }
  | _ => none }
def confReadsRow : OpenClaim := { program := "ytgiokbhedblkfaa", sum := "817c507010b594ca862a8ce576914692edf3ba54fdc96591d67899ca37741d72", func := "cohort/cohortlaw11.ConfReads", spec := "confReads", unfollowed := true, recurses := true, apart := false }
def ConfReadsSaid : Prop := confReadsRow.holds Try.pinned (OpenSpec.ofChange confReadsSpec)

/-- ITS FALSE NEIGHBOUR: 'it returns false'. Refute it at one input. -/
def confReadsWrong : ChangeSpec := { name := "confReads", fn := fun _ => fun
  | [d1, d2] => { results := [.lit (.bool false)], args := [d1, d2] }
  | _ => none }
def ConfReadsWrongFalsely : Prop := confReadsRow.holds Try.pinned (OpenSpec.ofChange confReadsWrong)

/-- 'cohortlaw11.ConfOne': WHATEVER THE INPUT: true; the input reads as it did. -/
def confOneSpec : ChangeSpec := { name := "confOne", fn := fun _ => fun
  | [d1, d2] => { results := [.lit (.bool true)], args := [d1, d2] }
  | _ => none }
def confOneRow : OpenClaim := { program := "ytgiokbhedblkfaa", sum := "817c507010b594ca862a8ce576914692edf3ba54fdc96591d67899ca37741d72", func := "cohort/cohortlaw11.ConfOne", spec := "confOne", unfollowed := true, recurses := true, apart := false }
def ConfOneSaid : Prop := confOneRow.holds Try.pinned (OpenSpec.ofChange confOneSpec)

/-- ITS FALSE NEIGHBOUR: 'it returns false'. Refute it at one input. -/
def confOneWrong : ChangeSpec := { name := "confOne", fn := fun _ => fun
  | [d1, d2] => { results := [.lit (.bool false)], args := [d1, d2] }
  | _ => none }
def ConfOneWrongFalsely : Prop := confOneRow.holds Try.pinned (OpenSpec.ofChange confOneWrong)

/-- 'cohortlaw11.ConfBack': WHATEVER THE INPUT: true; the input reads as it did. -/
def confBackSpec : ChangeSpec := { name := "confBack", fn := fun _ => fun
  | [d1, d2, d3] => { results := [.lit (.bool true)], args := [d1, d2, d3] }
  | _ => none }
def confBackRow : OpenClaim := { program := "ytgiokbhedblkfaa", sum := "817c507010b594ca862a8ce576914692edf3ba54fdc96591d67899ca37741d72", func := "cohort/cohortlaw11.ConfBack", spec := "confBack", unfollowed := true, recurses := true, apart := false }
def ConfBackSaid : Prop := confBackRow.holds Try.pinned (OpenSpec.ofChange confBackSpec)

/-- ITS FALSE NEIGHBOUR: 'it returns false'. Refute it at one input. -/
def confBackWrong : ChangeSpec := { name := "confBack", fn := fun _ => fun
  | [d1, d2, d3] => { results := [.lit (.bool false)], args := [d1, d2, d3] }
  | _ => none }
def ConfBackWrongFalsely : Prop := confBackRow.holds Try.pinned (OpenSpec.ofChange confBackWrong)

/-- 'cohortlaw12.EventBack': WHATEVER THE INPUT: true; the input reads as it did. -/
def eventBackSpec : ChangeSpec := { name := "eventBack", fn := fun _ => fun
  | [d] => { results := [.lit (.bool true)], args := [d] }
  | _ => none }
def eventBackRow : OpenClaim := { program := "ytgiokbhedblkfaa", sum := "817c507010b594ca862a8ce576914692edf3ba54fdc96591d67899ca37741d72", func := "cohort/cohortlaw12.EventBack", spec := "eventBack", unfollowed := true, recurses := true, apart := false }
def EventBackSaid : Prop := eventBackRow.holds Try.pinned (OpenSpec.ofChange eventBackSpec)

/-- ITS FALSE NEIGHBOUR: 'it returns false'. Refute it at one input. -/
def eventBackWrong : ChangeSpec := { name := "eventBack", fn := fun _ => fun
  | [d] => { results := [.lit (.bool false)], args := [d] }
  | _ => none }
def EventBackWrongFalsely : Prop := eventBackRow.holds Try.pinned (OpenSpec.ofChange eventBackWrong)

/-- 'cohortlaw12.EventOne': WHATEVER THE INPUT: true; the input reads as it did. -/
def eventOneSpec : ChangeSpec := { name := "eventOne", fn := fun _ => fun
  | [d1, d2] => { results := [.lit (.bool true)], args := [d1, d2] }
  | _ => none }
def eventOneRow : OpenClaim := { program := "ytgiokbhedblkfaa", sum := "817c507010b594ca862a8ce576914692edf3ba54fdc96591d67899ca37741d72", func := "cohort/cohortlaw12.EventOne", spec := "eventOne", unfollowed := true, recurses := true, apart := false }
def EventOneSaid : Prop := eventOneRow.holds Try.pinned (OpenSpec.ofChange eventOneSpec)

/-- ITS FALSE NEIGHBOUR: 'it returns false'. Refute it at one input. -/
def eventOneWrong : ChangeSpec := { name := "eventOne", fn := fun _ => fun
  | [d1, d2] => { results := [.lit (.bool false)], args := [d1, d2] }
  | _ => none }
def EventOneWrongFalsely : Prop := eventOneRow.holds Try.pinned (OpenSpec.ofChange eventOneWrong)

/-- 'cohortlaw12.EventCut': WHATEVER THE INPUT: true; the input reads as it did. -/
def eventCutSpec : ChangeSpec := { name := "eventCut", fn := fun _ => fun
  | [d1, d2] => { results := [.lit (.bool true)], args := [d1, d2] }
  | _ => none }
def eventCutRow : OpenClaim := { program := "ytgiokbhedblkfaa", sum := "817c507010b594ca862a8ce576914692edf3ba54fdc96591d67899ca37741d72", func := "cohort/cohortlaw12.EventCut", spec := "eventCut", unfollowed := true, recurses := true, apart := false }
def EventCutSaid : Prop := eventCutRow.holds Try.pinned (OpenSpec.ofChange eventCutSpec)

/-- ITS FALSE NEIGHBOUR: 'it returns false'. Refute it at one input. -/
def eventCutWrong : ChangeSpec := { name := "eventCut", fn := fun _ => fun
  | [d1, d2] => { results := [.lit (.bool false)], args := [d1, d2] }
  | _ => none }
def EventCutWrongFalsely : Prop := eventCutRow.holds Try.pinned (OpenSpec.ofChange eventCutWrong)

/- THE SECOND FORM. 'bulk': how many values and letters a reading holds, each counted each time it is reached (what is shared counts as often as it is met; a slice's spare places count too). A statement '..UptoSaid' is the law's where the arguments, and the package variables that the reading takes, are together of bulk at most 1048576: NARROWER than '..Said'. Prove '..Said' where nothing that the law and all that it calls make is longer than what came in: it says more and counts as full. Else prove '..UptoSaid'. A law counts once. -/
mutual
def uptoBulk {H : Type} : DataW H → Nat
  | .lit (.string bytes) => bytes.length + 1
  | .lit _ => 1
  | .nil => 1
  | .ptr d => uptoBulk d + 1
  | .slice elems spare => uptoBulkAll elems + uptoBulkAll spare + 1
  | .agg parts => uptoBulkAll parts + 1
  | .iface _ d => uptoBulk d + 1
  | .map entries => uptoBulkEntries entries + 1
  | .held _ => 1
def uptoBulkAll {H : Type} : List (DataW H) → Nat
  | [] => 0
  | d :: r => uptoBulk d + uptoBulkAll r
def uptoBulkEntries {H : Type} : List (Lit × DataW H) → Nat
  | [] => 0
  | x :: r => uptoBulkEntry x + uptoBulkEntries r
def uptoBulkEntry {H : Type} : Lit × DataW H → Nat
  | (.string bytes, d) => bytes.length + uptoBulk d + 1
  | (_, d) => uptoBulk d + 1
 end
def uptoSmall : (H : Type) → List (DataW H) → Bool := fun _ ds => decide (uptoBulkAll ds ≤ 1048576)
def OpenSpec.upto (s : _root_.Go.ChangeSpec) : _root_.Go.OpenSpec := { _root_.Go.OpenSpec.ofChange s with cond := some uptoSmall }

/-- 'cohortlaw11.ConfFresh', WHERE WHAT IT READS IS OF BULK AT MOST 1048576: true; the input reads as it did. -/
def confFreshUptoRow : OpenClaim := { program := "ytgiokbhedblkfaa", sum := "817c507010b594ca862a8ce576914692edf3ba54fdc96591d67899ca37741d72", func := "cohort/cohortlaw11.ConfFresh", spec := "confFresh", unfollowed := true, recurses := true, apart := false, narrowed := true }
def ConfFreshUptoSaid : Prop := confFreshUptoRow.holds Try.pinned (OpenSpec.upto confFreshSpec)

/-- 'cohortlaw11.ConfReads', WHERE WHAT IT READS IS OF BULK AT MOST 1048576: true; the input reads as it did. -/
def confReadsUptoRow : OpenClaim := { program := "ytgiokbhedblkfaa", sum := "817c507010b594ca862a8ce576914692edf3ba54fdc96591d67899ca37741d72", func := "cohort/cohortlaw11.ConfReads", spec := "confReads", unfollowed := true, recurses := true, apart := false, narrowed := true }
def ConfReadsUptoSaid : Prop := confReadsUptoRow.holds Try.pinned (OpenSpec.upto confReadsSpec)

/-- 'cohortlaw11.ConfOne', WHERE WHAT IT READS IS OF BULK AT MOST 1048576: true; the input reads as it did. -/
def confOneUptoRow : OpenClaim := { program := "ytgiokbhedblkfaa", sum := "817c507010b594ca862a8ce576914692edf3ba54fdc96591d67899ca37741d72", func := "cohort/cohortlaw11.ConfOne", spec := "confOne", unfollowed := true, recurses := true, apart := false, narrowed := true }
def ConfOneUptoSaid : Prop := confOneUptoRow.holds Try.pinned (OpenSpec.upto confOneSpec)

/-- 'cohortlaw11.ConfBack', WHERE WHAT IT READS IS OF BULK AT MOST 1048576: true; the input reads as it did. -/
def confBackUptoRow : OpenClaim := { program := "ytgiokbhedblkfaa", sum := "817c507010b594ca862a8ce576914692edf3ba54fdc96591d67899ca37741d72", func := "cohort/cohortlaw11.ConfBack", spec := "confBack", unfollowed := true, recurses := true, apart := false, narrowed := true }
def ConfBackUptoSaid : Prop := confBackUptoRow.holds Try.pinned (OpenSpec.upto confBackSpec)

/-- 'cohortlaw12.EventBack', WHERE WHAT IT READS IS OF BULK AT MOST 1048576: true; the input reads as it did. -/
def eventBackUptoRow : OpenClaim := { program := "ytgiokbhedblkfaa", sum := "817c507010b594ca862a8ce576914692edf3ba54fdc96591d67899ca37741d72", func := "cohort/cohortlaw12.EventBack", spec := "eventBack", unfollowed := true, recurses := true, apart := false, narrowed := true }
def EventBackUptoSaid : Prop := eventBackUptoRow.holds Try.pinned (OpenSpec.upto eventBackSpec)

/-- 'cohortlaw12.EventOne', WHERE WHAT IT READS IS OF BULK AT MOST 1048576: true; the input reads as it did. -/
def eventOneUptoRow : OpenClaim := { program := "ytgiokbhedblkfaa", sum := "817c507010b594ca862a8ce576914692edf3ba54fdc96591d67899ca37741d72", func := "cohort/cohortlaw12.EventOne", spec := "eventOne", unfollowed := true, recurses := true, apart := false, narrowed := true }
def EventOneUptoSaid : Prop := eventOneUptoRow.holds Try.pinned (OpenSpec.upto eventOneSpec)

/-- 'cohortlaw12.EventCut', WHERE WHAT IT READS IS OF BULK AT MOST 1048576: true; the input reads as it did. -/
def eventCutUptoRow : OpenClaim := { program := "ytgiokbhedblkfaa", sum := "817c507010b594ca862a8ce576914692edf3ba54fdc96591d67899ca37741d72", func := "cohort/cohortlaw12.EventCut", spec := "eventCut", unfollowed := true, recurses := true, apart := false, narrowed := true }
def EventCutUptoSaid : Prop := eventCutUptoRow.holds Try.pinned (OpenSpec.upto eventCutSpec)

end Rows
end Go.Proofs.Ytgiokbhedblkfaa
