/-
  No cell of these rows narrows 'for every input' (looked for: loops, veiled, ifaces, maps, wideKeys, modest, calm, conditions, laid).
  DERIVED. THE GIVEN ROWS OF THIS SEAT. 12 by the template 'for every input the law returns true; each argument reads behind the call as it read before'; 0 by the template 'total and deterministic' (their statements: YtodplmpjmbncdaaTotals.lean).
  GIVEN WITH THE SEED: the statements are not yours to turn. If you find one false, say at which input.
  Laid BY PROGRAM, IN A SANDBOX (cutbox-rows.mjs): the forced cells as the released guide's own fill.sh prints them over the translation 37c16e85c74a136b… (all of the seat's roots in one cut). By AI agents, Wed Nov 11 2026. No macro, syntax, notation, axiom, sorry.
-/
import Derived.Test.YtodplmpjmbncdaaChecked
import GoSem.Claim
import GoSem.ClaimJoined
import GoSem.ClaimMapViews
import Derived.JoinedTies
import Derived.KernelRfl
namespace Go.Proofs.Ytodplmpjmbncdaa
/- THE CELL 'sum', in the pinned program and in every row, IS THE sha256 OF THE DUMP (.gsa) THAT YtodplmpjmbncdaaProg.lean LOADS. Nothing in Lean hashes anything: it is a label: what it is worth is what the hold of that sum in a sandbox is worth. -/
noncomputable def Try.pinned : Pinned := { name := "ytodplmpjmbncdaa", sum := "37c16e85c74a136b9fb98dbfb231033c963362675c339c1a6de6a522f8f6977c", checked := Try.checked }
namespace Rows
def none {H : Type} : Left H := { results := [], args := [] }

/-- 'cohortlaw01.NumParts': WHATEVER THE INPUT: true; the input reads as it did. -/
def numPartsSpec : ChangeSpec := { name := "numParts", fn := fun _ => fun
  | [d1, d2] => { results := [.lit (.bool true)], args := [d1, d2] }
  | _ => none }
def numPartsRow : OpenClaim := { program := "ytodplmpjmbncdaa", sum := "37c16e85c74a136b9fb98dbfb231033c963362675c339c1a6de6a522f8f6977c", func := "cohort/cohortlaw01.NumParts", spec := "numParts", plainKeys := false, apart := false }
def NumPartsSaid : Prop := numPartsRow.holds Try.pinned (OpenSpec.ofChange numPartsSpec)

/-- ITS FALSE NEIGHBOUR: 'it returns false'. Refute it at one input. -/
def numPartsWrong : ChangeSpec := { name := "numParts", fn := fun _ => fun
  | [d1, d2] => { results := [.lit (.bool false)], args := [d1, d2] }
  | _ => none }
def NumPartsWrongFalsely : Prop := numPartsRow.holds Try.pinned (OpenSpec.ofChange numPartsWrong)

/-- 'cohortlaw01.NumUp': WHATEVER THE INPUT: true; the input reads as it did. -/
def numUpSpec : ChangeSpec := { name := "numUp", fn := fun _ => fun
  | [d1, d2] => { results := [.lit (.bool true)], args := [d1, d2] }
  | _ => none }
def numUpRow : OpenClaim := { program := "ytodplmpjmbncdaa", sum := "37c16e85c74a136b9fb98dbfb231033c963362675c339c1a6de6a522f8f6977c", func := "cohort/cohortlaw01.NumUp", spec := "numUp", plainKeys := false, apart := false }
def NumUpSaid : Prop := numUpRow.holds Try.pinned (OpenSpec.ofChange numUpSpec)

/-- ITS FALSE NEIGHBOUR: 'it returns false'. Refute it at one input. -/
def numUpWrong : ChangeSpec := { name := "numUp", fn := fun _ => fun
  | [d1, d2] => { results := [.lit (.bool false)], args := [d1, d2] }
  | _ => none }
def NumUpWrongFalsely : Prop := numUpRow.holds Try.pinned (OpenSpec.ofChange numUpWrong)

/-- 'cohortlaw20.ReconEach': WHATEVER THE INPUT: true; the input reads as it did. -/
def reconEachSpec : ChangeSpec := { name := "reconEach", fn := fun _ => fun
  | [d1, d2] => { results := [.lit (.bool true)], args := [d1, d2] }
  | _ => none }
def reconEachRow : OpenClaim := { program := "ytodplmpjmbncdaa", sum := "37c16e85c74a136b9fb98dbfb231033c963362675c339c1a6de6a522f8f6977c", func := "cohort/cohortlaw20.ReconEach", spec := "reconEach", unfollowed := true, recurses := true, plainKeys := false, apart := false }
def ReconEachSaid : Prop := reconEachRow.holds Try.pinned (OpenSpec.ofChange reconEachSpec)

/-- ITS FALSE NEIGHBOUR: 'it returns false'. Refute it at one input. -/
def reconEachWrong : ChangeSpec := { name := "reconEach", fn := fun _ => fun
  | [d1, d2] => { results := [.lit (.bool false)], args := [d1, d2] }
  | _ => none }
def ReconEachWrongFalsely : Prop := reconEachRow.holds Try.pinned (OpenSpec.ofChange reconEachWrong)

/-- 'cohortlaw20.ReconStill': WHATEVER THE INPUT: true; the input reads as it did. -/
def reconStillSpec : ChangeSpec := { name := "reconStill", fn := fun _ => fun
  | [d] => { results := [.lit (.bool true)], args := [d] }
  | _ => none }
def reconStillRow : OpenClaim := { program := "ytodplmpjmbncdaa", sum := "37c16e85c74a136b9fb98dbfb231033c963362675c339c1a6de6a522f8f6977c", func := "cohort/cohortlaw20.ReconStill", spec := "reconStill", unfollowed := true, recurses := true, plainKeys := false, apart := false }
def ReconStillSaid : Prop := reconStillRow.holds Try.pinned (OpenSpec.ofChange reconStillSpec)

/-- ITS FALSE NEIGHBOUR: 'it returns false'. Refute it at one input. -/
def reconStillWrong : ChangeSpec := { name := "reconStill", fn := fun _ => fun
  | [d] => { results := [.lit (.bool false)], args := [d] }
  | _ => none }
def ReconStillWrongFalsely : Prop := reconStillRow.holds Try.pinned (OpenSpec.ofChange reconStillWrong)

/-- 'cohortlaw16.InstEnds': WHATEVER THE INPUT: true; the input reads as it did. -/
def instEndsSpec : ChangeSpec := { name := "instEnds", fn := fun _ => fun
  | [d1, d2, d3, d4, d5] => { results := [.lit (.bool true)], args := [d1, d2, d3, d4, d5] }
  | _ => none }
def instEndsRow : OpenClaim := { program := "ytodplmpjmbncdaa", sum := "37c16e85c74a136b9fb98dbfb231033c963362675c339c1a6de6a522f8f6977c", func := "cohort/cohortlaw16.InstEnds", spec := "instEnds", plainKeys := false, apart := false }
def InstEndsSaid : Prop := instEndsRow.holds Try.pinned (OpenSpec.ofChange instEndsSpec)

/-- ITS FALSE NEIGHBOUR: 'it returns false'. Refute it at one input. -/
def instEndsWrong : ChangeSpec := { name := "instEnds", fn := fun _ => fun
  | [d1, d2, d3, d4, d5] => { results := [.lit (.bool false)], args := [d1, d2, d3, d4, d5] }
  | _ => none }
def InstEndsWrongFalsely : Prop := instEndsRow.holds Try.pinned (OpenSpec.ofChange instEndsWrong)

/-- 'cohortlaw16.InstGoes': WHATEVER THE INPUT: true; the input reads as it did. -/
def instGoesSpec : ChangeSpec := { name := "instGoes", fn := fun _ => fun
  | [d1, d2, d3, d4, d5] => { results := [.lit (.bool true)], args := [d1, d2, d3, d4, d5] }
  | _ => none }
def instGoesRow : OpenClaim := { program := "ytodplmpjmbncdaa", sum := "37c16e85c74a136b9fb98dbfb231033c963362675c339c1a6de6a522f8f6977c", func := "cohort/cohortlaw16.InstGoes", spec := "instGoes", plainKeys := false, apart := false }
def InstGoesSaid : Prop := instGoesRow.holds Try.pinned (OpenSpec.ofChange instGoesSpec)

/-- ITS FALSE NEIGHBOUR: 'it returns false'. Refute it at one input. -/
def instGoesWrong : ChangeSpec := { name := "instGoes", fn := fun _ => fun
  | [d1, d2, d3, d4, d5] => { results := [.lit (.bool false)], args := [d1, d2, d3, d4, d5] }
  | _ => none }
def InstGoesWrongFalsely : Prop := instGoesRow.holds Try.pinned (OpenSpec.ofChange instGoesWrong)

/-- 'cohortlaw01.NumBytes': WHATEVER THE INPUT: true; the input reads as it did. -/
def numBytesSpec : ChangeSpec := { name := "numBytes", fn := fun _ => fun
  | [d1, d2, d3, d4] => { results := [.lit (.bool true)], args := [d1, d2, d3, d4] }
  | _ => none }
def numBytesRow : OpenClaim := { program := "ytodplmpjmbncdaa", sum := "37c16e85c74a136b9fb98dbfb231033c963362675c339c1a6de6a522f8f6977c", func := "cohort/cohortlaw01.NumBytes", spec := "numBytes", plainKeys := false, apart := false }
def NumBytesSaid : Prop := numBytesRow.holds Try.pinned (OpenSpec.ofChange numBytesSpec)

/-- ITS FALSE NEIGHBOUR: 'it returns false'. Refute it at one input. -/
def numBytesWrong : ChangeSpec := { name := "numBytes", fn := fun _ => fun
  | [d1, d2, d3, d4] => { results := [.lit (.bool false)], args := [d1, d2, d3, d4] }
  | _ => none }
def NumBytesWrongFalsely : Prop := numBytesRow.holds Try.pinned (OpenSpec.ofChange numBytesWrong)

/-- 'cohortlaw01.NumBack': WHATEVER THE INPUT: true; the input reads as it did. -/
def numBackSpec : ChangeSpec := { name := "numBack", fn := fun _ => fun
  | [d1, d2, d3, d4] => { results := [.lit (.bool true)], args := [d1, d2, d3, d4] }
  | _ => none }
def numBackRow : OpenClaim := { program := "ytodplmpjmbncdaa", sum := "37c16e85c74a136b9fb98dbfb231033c963362675c339c1a6de6a522f8f6977c", func := "cohort/cohortlaw01.NumBack", spec := "numBack", plainKeys := false, apart := false }
def NumBackSaid : Prop := numBackRow.holds Try.pinned (OpenSpec.ofChange numBackSpec)

/-- ITS FALSE NEIGHBOUR: 'it returns false'. Refute it at one input. -/
def numBackWrong : ChangeSpec := { name := "numBack", fn := fun _ => fun
  | [d1, d2, d3, d4] => { results := [.lit (.bool false)], args := [d1, d2, d3, d4] }
  | _ => none }
def NumBackWrongFalsely : Prop := numBackRow.holds Try.pinned (OpenSpec.ofChange numBackWrong)

/-- 'cohortlaw13.SplitExcess': WHATEVER THE INPUT: true; the input reads as it did. -/
def splitExcessSpec : ChangeSpec := { name := "splitExcess", fn := fun _ => fun
  | [d1, d2, d3] => { results := [.lit (.bool true)], args := [d1, d2, d3] }
  | _ => none }
def splitExcessRow : OpenClaim := { program := "ytodplmpjmbncdaa", sum := "37c16e85c74a136b9fb98dbfb231033c963362675c339c1a6de6a522f8f6977c", func := "cohort/cohortlaw13.SplitExcess", spec := "splitExcess", plainKeys := false, apart := false }
def SplitExcessSaid : Prop := splitExcessRow.holds Try.pinned (OpenSpec.ofChange splitExcessSpec)

/-- ITS FALSE NEIGHBOUR: 'it returns false'. Refute it at one input. -/
def splitExcessWrong : ChangeSpec := { name := "splitExcess", fn := fun _ => fun
  | [d1, d2, d3] => { results := [.lit (.bool false)], args := [d1, d2, d3] }
  | _ => none }
def SplitExcessWrongFalsely : Prop := splitExcessRow.holds Try.pinned (OpenSpec.ofChange splitExcessWrong)

/-- 'cohortlaw13.SplitWhole': WHATEVER THE INPUT: true; the input reads as it did. -/
def splitWholeSpec : ChangeSpec := { name := "splitWhole", fn := fun _ => fun
  | [d1, d2, d3] => { results := [.lit (.bool true)], args := [d1, d2, d3] }
  | _ => none }
def splitWholeRow : OpenClaim := { program := "ytodplmpjmbncdaa", sum := "37c16e85c74a136b9fb98dbfb231033c963362675c339c1a6de6a522f8f6977c", func := "cohort/cohortlaw13.SplitWhole", spec := "splitWhole", plainKeys := false, apart := false }
def SplitWholeSaid : Prop := splitWholeRow.holds Try.pinned (OpenSpec.ofChange splitWholeSpec)

/-- ITS FALSE NEIGHBOUR: 'it returns false'. Refute it at one input. -/
def splitWholeWrong : ChangeSpec := { name := "splitWhole", fn := fun _ => fun
  | [d1, d2, d3] => { results := [.lit (.bool false)], args := [d1, d2, d3] }
  | _ => none }
def SplitWholeWrongFalsely : Prop := splitWholeRow.holds Try.pinned (OpenSpec.ofChange splitWholeWrong)

/-- 'cohortlaw13.SplitLaunches': WHATEVER THE INPUT: true; the input reads as it did. -/
def splitLaunchesSpec : ChangeSpec := { name := "splitLaunches", fn := fun _ => fun
  | [d1, d2, d3] => { results := [.lit (.bool true)], args := [d1, d2, d3] }
  | _ => none }
def splitLaunchesRow : OpenClaim := { program := "ytodplmpjmbncdaa", sum := "37c16e85c74a136b9fb98dbfb231033c963362675c339c1a6de6a522f8f6977c", func := "cohort/cohortlaw13.SplitLaunches", spec := "splitLaunches", plainKeys := false, apart := false }
def SplitLaunchesSaid : Prop := splitLaunchesRow.holds Try.pinned (OpenSpec.ofChange splitLaunchesSpec)

/-- ITS FALSE NEIGHBOUR: 'it returns false'. Refute it at one input. -/
def splitLaunchesWrong : ChangeSpec := { name := "splitLaunches", fn := fun _ => fun
  | [d1, d2, d3] => { results := [.lit (.bool false)], args := [d1, d2, d3] }
  | _ => none }
def SplitLaunchesWrongFalsely : Prop := splitLaunchesRow.holds Try.pinned (OpenSpec.ofChange splitLaunchesWrong)

/-- 'cohortlaw18.LedgerTokens': WHATEVER THE INPUT: true; the input reads as it did. -/
def ledgerTokensSpec : ChangeSpec := { name := "ledgerTokens", fn := fun _ => fun
  | [d] => { results := [.lit (.bool true)], args := [d] }
  | _ => none }
def ledgerTokensRow : OpenClaim := { program := "ytodplmpjmbncdaa", sum := "37c16e85c74a136b9fb98dbfb231033c963362675c339c1a6de6a522f8f6977c", func := "cohort/cohortlaw18.LedgerTokens", spec := "ledgerTokens", unfollowed := true, recurses := true, plainKeys := false, apart := false }
def LedgerTokensSaid : Prop := ledgerTokensRow.holds Try.pinned (OpenSpec.ofChange ledgerTokensSpec)

/-- ITS FALSE NEIGHBOUR: 'it returns false'. Refute it at one input. -/
def ledgerTokensWrong : ChangeSpec := { name := "ledgerTokens", fn := fun _ => fun
  | [d] => { results := [.lit (.bool false)], args := [d] }
  | _ => none }
def LedgerTokensWrongFalsely : Prop := ledgerTokensRow.holds Try.pinned (OpenSpec.ofChange ledgerTokensWrong)

/- THE SECOND FORM. 'bulk': how many values and letters a reading holds, each counted each time it is reached (what is shared counts as often as it is met; a slice's spare places count too). A statement '..UptoSaid' is the law's where the arguments, and the package variables that the reading takes, are together of bulk at most 1048576: NARROWER than '..Said'. Prove '..Said' where nothing that the law and all that it calls make is longer than what came in: it says more and counts as full. Else prove '..UptoSaid'. A law counts once. -/
mutual
def uptoBulk {H : Type} : DataW H → Nat
  | .lit (.string bytes) => bytes.length + 1
  | .lit _ => 1
  | .nil => 1
  | .ptr d => uptoBulk d + 1
  | .slice elems spare => uptoBulkAll elems + uptoBulkAll spare + 1
  | .agg parts => uptoBulkAll parts + 1
  | .iface _ d => uptoBulk d + 1
  | .map entries => uptoBulkEntries entries + 1
  | .held _ => 1
def uptoBulkAll {H : Type} : List (DataW H) → Nat
  | [] => 0
  | d :: r => uptoBulk d + uptoBulkAll r
def uptoBulkEntries {H : Type} : List (Lit × DataW H) → Nat
  | [] => 0
  | x :: r => uptoBulkEntry x + uptoBulkEntries r
def uptoBulkEntry {H : Type} : Lit × DataW H → Nat
  | (.string bytes, d) => bytes.length + uptoBulk d + 1
  | (_, d) => uptoBulk d + 1
 end
def uptoSmall : (H : Type) → List (DataW H) → Bool := fun _ ds => decide (uptoBulkAll ds ≤ 1048576)
def OpenSpec.upto (s : _root_.Go.ChangeSpec) : _root_.Go.OpenSpec := { _root_.Go.OpenSpec.ofChange s with cond := some uptoSmall }

/-- 'cohortlaw01.NumParts', WHERE WHAT IT READS IS OF BULK AT MOST 1048576: true; the input reads as it did. -/
def numPartsUptoRow : OpenClaim := { program := "ytodplmpjmbncdaa", sum := "37c16e85c74a136b9fb98dbfb231033c963362675c339c1a6de6a522f8f6977c", func := "cohort/cohortlaw01.NumParts", spec := "numParts", plainKeys := false, apart := false, narrowed := true }
def NumPartsUptoSaid : Prop := numPartsUptoRow.holds Try.pinned (OpenSpec.upto numPartsSpec)

/-- 'cohortlaw01.NumUp', WHERE WHAT IT READS IS OF BULK AT MOST 1048576: true; the input reads as it did. -/
def numUpUptoRow : OpenClaim := { program := "ytodplmpjmbncdaa", sum := "37c16e85c74a136b9fb98dbfb231033c963362675c339c1a6de6a522f8f6977c", func := "cohort/cohortlaw01.NumUp", spec := "numUp", plainKeys := false, apart := false, narrowed := true }
def NumUpUptoSaid : Prop := numUpUptoRow.holds Try.pinned (OpenSpec.upto numUpSpec)

/-- 'cohortlaw20.ReconEach', WHERE WHAT IT READS IS OF BULK AT MOST 1048576: true; the input reads as it did. -/
def reconEachUptoRow : OpenClaim := { program := "ytodplmpjmbncdaa", sum := "37c16e85c74a136b9fb98dbfb231033c963362675c339c1a6de6a522f8f6977c", func := "cohort/cohortlaw20.ReconEach", spec := "reconEach", unfollowed := true, recurses := true, plainKeys := false, apart := false, narrowed := true }
def ReconEachUptoSaid : Prop := reconEachUptoRow.holds Try.pinned (OpenSpec.upto reconEachSpec)

/-- 'cohortlaw20.ReconStill', WHERE WHAT IT READS IS OF BULK AT MOST 1048576: true; the input reads as it did. -/
def reconStillUptoRow : OpenClaim := { program := "ytodplmpjmbncdaa", sum := "37c16e85c74a136b9fb98dbfb231033c963362675c339c1a6de6a522f8f6977c", func := "cohort/cohortlaw20.ReconStill", spec := "reconStill", unfollowed := true, recurses := true, plainKeys := false, apart := false, narrowed := true }
def ReconStillUptoSaid : Prop := reconStillUptoRow.holds Try.pinned (OpenSpec.upto reconStillSpec)

/-- 'cohortlaw16.InstEnds', WHERE WHAT IT READS IS OF BULK AT MOST 1048576: true; the input reads as it did. -/
def instEndsUptoRow : OpenClaim := { program := "ytodplmpjmbncdaa", sum := "37c16e85c74a136b9fb98dbfb231033c963362675c339c1a6de6a522f8f6977c", func := "cohort/cohortlaw16.InstEnds", spec := "instEnds", plainKeys := false, apart := false, narrowed := true }
def InstEndsUptoSaid : Prop := instEndsUptoRow.holds Try.pinned (OpenSpec.upto instEndsSpec)

/-- 'cohortlaw16.InstGoes', WHERE WHAT IT READS IS OF BULK AT MOST 1048576: true; the input reads as it did. -/
def instGoesUptoRow : OpenClaim := { program := "ytodplmpjmbncdaa", sum := "37c16e85c74a136b9fb98dbfb231033c963362675c339c1a6de6a522f8f6977c", func := "cohort/cohortlaw16.InstGoes", spec := "instGoes", plainKeys := false, apart := false, narrowed := true }
def InstGoesUptoSaid : Prop := instGoesUptoRow.holds Try.pinned (OpenSpec.upto instGoesSpec)

/-- 'cohortlaw01.NumBytes', WHERE WHAT IT READS IS OF BULK AT MOST 1048576: true; the input reads as it did. -/
def numBytesUptoRow : OpenClaim := { program := "ytodplmpjmbncdaa", sum := "37c16e85c74a136b9fb98dbfb231033c963362675c339c1a6de6a522f8f6977c", func := "cohort/cohortlaw01.NumBytes", spec := "numBytes", plainKeys := false, apart := false, narrowed := true }
def NumBytesUptoSaid : Prop := numBytesUptoRow.holds Try.pinned (OpenSpec.upto numBytesSpec)

/-- 'cohortlaw01.NumBack', WHERE WHAT IT READS IS OF BULK AT MOST 1048576: true; the input reads as it did. -/
def numBackUptoRow : OpenClaim := { program := "ytodplmpjmbncdaa", sum := "37c16e85c74a136b9fb98dbfb231033c963362675c339c1a6de6a522f8f6977c", func := "cohort/cohortlaw01.NumBack", spec := "numBack", plainKeys := false, apart := false, narrowed := true }
def NumBackUptoSaid : Prop := numBackUptoRow.holds Try.pinned (OpenSpec.upto numBackSpec)

/-- 'cohortlaw13.SplitExcess', WHERE WHAT IT READS IS OF BULK AT MOST 1048576: true; the input reads as it did. -/
def splitExcessUptoRow : OpenClaim := { program := "ytodplmpjmbncdaa", sum := "37c16e85c74a136b9fb98dbfb231033c963362675c339c1a6de6a522f8f6977c", func := "cohort/cohortlaw13.SplitExcess", spec := "splitExcess", plainKeys := false, apart := false, narrowed := true }
def SplitExcessUptoSaid : Prop := splitExcessUptoRow.holds Try.pinned (OpenSpec.upto splitExcessSpec)

/-- 'cohortlaw13.SplitWhole', WHERE WHAT IT READS IS OF BULK AT MOST 1048576: true; the input reads as it did. -/
def splitWholeUptoRow : OpenClaim := { program := "ytodplmpjmbncdaa", sum := "37c16e85c74a136b9fb98dbfb231033c963362675c339c1a6de6a522f8f6977c", func := "cohort/cohortlaw13.SplitWhole", spec := "splitWhole", plainKeys := false, apart := false, narrowed := true }
def SplitWholeUptoSaid : Prop := splitWholeUptoRow.holds Try.pinned (OpenSpec.upto splitWholeSpec)

/-- 'cohortlaw13.SplitLaunches', WHERE WHAT IT READS IS OF BULK AT MOST 1048576: true; the input reads as it did. -/
def splitLaunchesUptoRow : OpenClaim := { program := "ytodplmpjmbncdaa", sum := "37c16e85c74a136b9fb98dbfb231033c963362675c339c1a6de6a522f8f6977c", func := "cohort/cohortlaw13.SplitLaunches", spec := "splitLaunches", plainKeys := false, apart := false, narrowed := true }
def SplitLaunchesUptoSaid : Prop := splitLaunchesUptoRow.holds Try.pinned (OpenSpec.upto splitLaunchesSpec)

/-- 'cohortlaw18.LedgerTokens', WHERE WHAT IT READS IS OF BULK AT MOST 1048576: true; the input reads as it did. -/
def ledgerTokensUptoRow : OpenClaim := { program := "ytodplmpjmbncdaa", sum := "37c16e85c74a136b9fb98dbfb231033c963362675c339c1a6de6a522f8f6977c", func := "cohort/cohortlaw18.LedgerTokens", spec := "ledgerTokens", unfollowed := true, recurses := true, plainKeys := false, apart := false, narrowed := true }
def LedgerTokensUptoSaid : Prop := ledgerTokensUptoRow.holds Try.pinned (OpenSpec.upto ledgerTokensSpec)

end Rows
end Go.Proofs.Ytodplmpjmbncdaa
