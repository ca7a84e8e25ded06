/-
  No cell of these rows narrows 'for every input' (looked for: loops, veiled, ifaces, maps, wideKeys, modest, calm, conditions, laid).
  DERIVED. THE GIVEN ROWS OF THIS SEAT. 12 by the template 'for every input the law returns true; each argument reads behind the call as it read before'; 0 by the template 'total and deterministic' (their statements: YtaoflcmjmhfblaaTotals.lean).
  GIVEN WITH THE SEED: the statements are not yours to turn. If you find one false, say at which input.
  Laid BY PROGRAM, IN A SANDBOX (cutbox-rows.mjs): the forced cells as the released guide's own fill.sh prints them over the translation 4ccdbc2666cbfaf9… (all of the seat's roots in one cut). By AI agents, Wed Nov 11 2026. No macro, syntax, notation, axiom, sorry.
-/
import Derived.Test.YtaoflcmjmhfblaaChecked
import GoSem.Claim
import GoSem.ClaimJoined
import GoSem.ClaimMapViews
import Derived.JoinedTies
import Derived.KernelRfl
namespace Go.Proofs.Ytaoflcmjmhfblaa
/- THE CELL 'sum', in the pinned program and in every row, IS THE sha256 OF THE DUMP (.gsa) THAT YtaoflcmjmhfblaaProg.lean LOADS. Nothing in Lean hashes anything: it is a label: what it is worth is what the hold of that sum in a sandbox is worth. -/
noncomputable def Try.pinned : Pinned := { name := "ytaoflcmjmhfblaa", sum := "4ccdbc2666cbfaf9c480cc6e1963c882f77b9459206d606ec49041104400e542", checked := Try.checked }
namespace Rows
def none {H : Type} : Left H := { results := [], args := [] }

/-- 'cohortlaw20.ReconEach': WHATEVER THE INPUT: true; the input reads as it did. -/
def reconEachSpec : ChangeSpec := { name := "reconEach", fn := fun _ => fun
  | [d1, d2] => { results := [.lit (.bool true)], args := [d1, d2] }
  | _ => none }
def reconEachRow : OpenClaim := { program := "ytaoflcmjmhfblaa", sum := "4ccdbc2666cbfaf9c480cc6e1963c882f77b9459206d606ec49041104400e542", func := "cohort/cohortlaw20.ReconEach", spec := "reconEach", unfollowed := true, recurses := true, plainKeys := false, apart := false }
def ReconEachSaid : Prop := reconEachRow.holds Try.pinned (OpenSpec.ofChange reconEachSpec)

/-- ITS FALSE NEIGHBOUR: 'it returns false'. Refute it at one input. -/
def reconEachWrong : ChangeSpec := { name := "reconEach", fn := fun _ => fun
  | [d1, d2] => { results := [.lit (.bool false)], args := [d1, d2] }
  | _ => none }
def ReconEachWrongFalsely : Prop := reconEachRow.holds Try.pinned (OpenSpec.ofChange reconEachWrong)

/-- 'cohortlaw20.ReconStill': WHATEVER THE INPUT: true; the input reads as it did. -/
def reconStillSpec : ChangeSpec := { name := "reconStill", fn := fun _ => fun
  | [d] => { results := [.lit (.bool true)], args := [d] }
  | _ => none }
def reconStillRow : OpenClaim := { program := "ytaoflcmjmhfblaa", sum := "4ccdbc2666cbfaf9c480cc6e1963c882f77b9459206d606ec49041104400e542", func := "cohort/cohortlaw20.ReconStill", spec := "reconStill", unfollowed := true, recurses := true, plainKeys := false, apart := false }
def ReconStillSaid : Prop := reconStillRow.holds Try.pinned (OpenSpec.ofChange reconStillSpec)

/-- ITS FALSE NEIGHBOUR: 'it returns false'. Refute it at one input. -/
def reconStillWrong : ChangeSpec := { name := "reconStill", fn := fun _ => fun
  | [d] => { results := [.lit (.bool false)], args := [d] }
  | _ => none }
def ReconStillWrongFalsely : Prop := reconStillRow.holds Try.pinned (OpenSpec.ofChange reconStillWrong)

/-- 'cohortlaw16.InstEnds': WHATEVER THE INPUT: true; the input reads as it did. -/
def instEndsSpec : ChangeSpec := { name := "instEnds", fn := fun _ => fun
  | [d1, d2, d3, d4, d5] => { results := [.lit (.bool true)], args := [d1, d2, d3, d4, d5] }
  | _ => none }
def instEndsRow : OpenClaim := { program := "ytaoflcmjmhfblaa", sum := "4ccdbc2666cbfaf9c480cc6e1963c882f77b9459206d606ec49041104400e542", func := "cohort/cohortlaw16.InstEnds", spec := "instEnds", plainKeys := false, apart := false }
def InstEndsSaid : Prop := instEndsRow.holds Try.pinned (OpenSpec.ofChange instEndsSpec)

/-- ITS FALSE NEIGHBOUR: 'it returns false'. Refute it at one input. -/
def instEndsWrong : ChangeSpec := { name := "instEnds", fn := fun _ => fun
  | [d1, d2, d3, d4, d5] => { results := [.lit (.bool false)], args := [d1, d2, d3, d4, d5] }
  | _ => none }
def InstEndsWrongFalsely : Prop := instEndsRow.holds Try.pinned (OpenSpec.ofChange instEndsWrong)

/-- 'cohortlaw16.InstGoes': WHATEVER THE INPUT: true; the input reads as it did. -/
def instGoesSpec : ChangeSpec := { name := "instGoes", fn := fun _ => fun
  | [d1, d2, d3, d4, d5] => { results := [.lit (.bool true)], args := [d1, d2, d3, d4, d5] }
  | _ => none }
def instGoesRow : OpenClaim := { program := "ytaoflcmjmhfblaa", sum := "4ccdbc2666cbfaf9c480cc6e1963c882f77b9459206d606ec49041104400e542", func := "cohort/cohortlaw16.InstGoes", spec := "instGoes", plainKeys := false, apart := false }
def InstGoesSaid : Prop := instGoesRow.holds Try.pinned (OpenSpec.ofChange instGoesSpec)

/-- ITS FALSE NEIGHBOUR: 'it returns false'. Refute it at one input. -/
def instGoesWrong : ChangeSpec := { name := "instGoes", fn := fun _ => fun
  | [d1, d2, d3, d4, d5] => { results := [.lit (.bool false)], args := [d1, d2, d3, d4, d5] }
  | _ => none }
def InstGoesWrongFalsely : Prop := instGoesRow.holds Try.pinned (OpenSpec.ofChange instGoesWrong)

/-- 'cohortlaw18.LedgerTokens': WHATEVER THE INPUT: true; the input reads as it did. -/
def ledgerTokensSpec : ChangeSpec := { name := "ledgerTokens", fn := fun _ => fun
  | [d] => { results := [.lit (.bool true)], args := [d] }
  | _ => none }
def ledgerTokensRow : OpenClaim := { program := "ytaoflcmjmhfblaa", sum := "4ccdbc2666cbfaf9c480cc6e1963c882f77b9459206d606ec49041104400e542", func := "cohort/cohortlaw18.LedgerTokens", spec := "ledgerTokens", unfollowed := true, recurses := true, plainKeys := false, apart := false }
def LedgerTokensSaid : Prop := ledgerTokensRow.holds Try.pinned (OpenSpec.ofChange ledgerTokensSpec)

/-- ITS FALSE NEIGHBOUR: 'it returns false'. Refute it at one input. -/
def ledgerTokensWrong : ChangeSpec := { name := "ledgerTokens", fn := fun _ => fun
  | [d] => { results := [.lit (.bool false)], args := [d] }
  | _ => none }
def LedgerTokensWrongFalsely : Prop := ledgerTokensRow.holds Try.pinned (OpenSpec.ofChange ledgerTokensWrong)

/-- 'cohortlaw09.BatchBack': WHATEVER THE INPUT: true; the input reads as it did. -/
def batchBackSpec : ChangeSpec := { name := "batchBack", fn := fun _ => fun
  | [d1, d2] => { results := [.lit (.bool true)], args := [d1, d2] }
  | _ => none }
def batchBackRow : OpenClaim := { program := "ytaoflcmjmhfblaa", sum := "4ccdbc2666cbfaf9c480cc6e1963c882f77b9459206d606ec49041104400e542", func := "cohort/cohortlaw09.BatchBack", spec := "batchBack", unfollowed := true, recurses := true, plainKeys := false, apart := false }
def BatchBackSaid : Prop := batchBackRow.holds Try.pinned (OpenSpec.ofChange batchBackSpec)

/-- ITS FALSE NEIGHBOUR: 'it returns false'. Refute it at one input. -/
def batchBackWrong : ChangeSpec := { name := "batchBack", fn := fun _ => fun
  | [d1, d2] => { results := [.lit (.bool false)], args := [d1, d2] }
  | _ => none }
def BatchBackWrongFalsely : Prop := batchBackRow.holds Try.pinned (OpenSpec.ofChange batchBackWrong)

/-- 'cohortlaw09.BatchTables': WHATEVER THE INPUT: true; the input reads as it did. -/
def batchTablesSpec : ChangeSpec := { name := "batchTables", fn := fun _ => fun
  | [d1, d2, d3, d4] => { results := [.lit (.bool true)], args := [d1, d2, d3, d4] }
  | _ => none }
def batchTablesRow : OpenClaim := { program := "ytaoflcmjmhfblaa", sum := "4ccdbc2666cbfaf9c480cc6e1963c882f77b9459206d606ec49041104400e542", func := "cohort/cohortlaw09.BatchTables", spec := "batchTables", unfollowed := true, recurses := true, plainKeys := false, apart := false }
def BatchTablesSaid : Prop := batchTablesRow.holds Try.pinned (OpenSpec.ofChange batchTablesSpec)

/-- ITS FALSE NEIGHBOUR: 'it returns false'. Refute it at one input. -/
def batchTablesWrong : ChangeSpec := { name := "batchTables", fn := fun _ => fun
  | [d1, d2, d3, d4] => { results := [.lit (.bool false)], args := [d1, d2, d3, d4] }
  | _ => none }
def BatchTablesWrongFalsely : Prop := batchTablesRow.holds Try.pinned (OpenSpec.ofChange batchTablesWrong)

/-- 'cohortlaw09.BatchWay': WHATEVER THE INPUT: true; the input reads as it did. -/
def batchWaySpec : ChangeSpec := { name := "batchWay", fn := fun _ => fun
  | [d1, d2] => { results := [.lit (.bool true)], args := [d1, d2] }
  | _ => none }
def batchWayRow : OpenClaim := { program := "ytaoflcmjmhfblaa", sum := "4ccdbc2666cbfaf9c480cc6e1963c882f77b9459206d606ec49041104400e542", func := "cohort/cohortlaw09.BatchWay", spec := "batchWay", unfollowed := true, recurses := true, plainKeys := false, apart := false }
def BatchWaySaid : Prop := batchWayRow.holds Try.pinned (OpenSpec.ofChange batchWaySpec)

/-- ITS FALSE NEIGHBOUR: 'it returns false'. Refute it at one input. -/
def batchWayWrong : ChangeSpec := { name := "batchWay", fn := fun _ => fun
  | [d1, d2] => { results := [.lit (.bool false)], args := [d1, d2] }
  | _ => none }
def BatchWayWrongFalsely : Prop := batchWayRow.holds Try.pinned (OpenSpec.ofChange batchWayWrong)

/-- 'cohortlaw15.RankFirst': WHATEVER THE INPUT: true; the input reads as it did. -/
def rankFirstSpec : ChangeSpec := { name := "rankFirst", fn := fun _ => fun
  | [d1, d2, d3, d4] => { results := [.lit (.bool true)], args := [d1, d2, d3, d4] }
  | _ => none }
def rankFirstRow : OpenClaim := { program := "ytaoflcmjmhfblaa", sum := "4ccdbc2666cbfaf9c480cc6e1963c882f77b9459206d606ec49041104400e542", func := "cohort/cohortlaw15.RankFirst", spec := "rankFirst", unfollowed := true, recurses := true, plainKeys := false, apart := false }
def RankFirstSaid : Prop := rankFirstRow.holds Try.pinned (OpenSpec.ofChange rankFirstSpec)

/-- ITS FALSE NEIGHBOUR: 'it returns false'. Refute it at one input. -/
def rankFirstWrong : ChangeSpec := { name := "rankFirst", fn := fun _ => fun
  | [d1, d2, d3, d4] => { results := [.lit (.bool false)], args := [d1, d2, d3, d4] }
  | _ => none }
def RankFirstWrongFalsely : Prop := rankFirstRow.holds Try.pinned (OpenSpec.ofChange rankFirstWrong)

/-- 'cohortlaw15.RankAlone': WHATEVER THE INPUT: true; the input reads as it did. -/
def rankAloneSpec : ChangeSpec := { name := "rankAlone", fn := fun _ => fun
  | [d1, d2, d3, d4, d5, d6, d7, d8] => { results := [.lit (.bool true)], args := [d1, d2, d3, d4, d5, d6, d7, d8] }
  | _ => none }
def rankAloneRow : OpenClaim := { program := "ytaoflcmjmhfblaa", sum := "4ccdbc2666cbfaf9c480cc6e1963c882f77b9459206d606ec49041104400e542", func := "cohort/cohortlaw15.RankAlone", spec := "rankAlone", unfollowed := true, recurses := true, plainKeys := false, apart := false }
def RankAloneSaid : Prop := rankAloneRow.holds Try.pinned (OpenSpec.ofChange rankAloneSpec)

/-- ITS FALSE NEIGHBOUR: 'it returns false'. Refute it at one input. -/
def rankAloneWrong : ChangeSpec := { name := "rankAlone", fn := fun _ => fun
  | [d1, d2, d3, d4, d5, d6, d7, d8] => { results := [.lit (.bool false)], args := [d1, d2, d3, d4, d5, d6, d7, d8] }
  | _ => none }
def RankAloneWrongFalsely : Prop := rankAloneRow.holds Try.pinned (OpenSpec.ofChange rankAloneWrong)

/-- 'cohortlaw15.RankPick': WHATEVER THE INPUT: true; the input reads as it did. -/
def rankPickSpec : ChangeSpec := { name := "rankPick", fn := fun _ => fun
  | [d1, d2, d3, d4, d5] => { results := [.lit (.bool true)], args := [d1, d2, d3, d4, d5] }
  | _ => none }
def rankPickRow : OpenClaim := { program := "ytaoflcmjmhfblaa", sum := "4ccdbc2666cbfaf9c480cc6e1963c882f77b9459206d606ec49041104400e542", func := "cohort/cohortlaw15.RankPick", spec := "rankPick", unfollowed := true, recurses := true, plainKeys := false, apart := false }
def RankPickSaid : Prop := rankPickRow.holds Try.pinned (OpenSpec.ofChange rankPickSpec)

/-- ITS FALSE NEIGHBOUR: 'it returns false'. Refute it at one input. -/
def rankPickWrong : ChangeSpec := { name := "rankPick", fn := fun _ => fun
  | [d1, d2, d3, d4, d5] => { results := [.lit (.bool false)], args := [d1, d2, d3, d4, d5] }
  | _ => none }
def RankPickWrongFalsely : Prop := rankPickRow.holds Try.pinned (OpenSpec.ofChange rankPickWrong)

/-- 'cohortlaw18.LedgerTells': WHATEVER THE INPUT: true; the input reads as it did. -/
def ledgerTellsSpec : ChangeSpec := { name := "ledgerTells", fn := fun _ => fun
  | [d1, d2, d3, d4] => { results := [.lit (.bool true)], args := [d1, d2, d3, d4] }
  | _ => none }
def ledgerTellsRow : OpenClaim := { program := "ytaoflcmjmhfblaa", sum := "4ccdbc2666cbfaf9c480cc6e1963c882f77b9459206d606ec49041104400e542", func := "cohort/cohortlaw18.LedgerTells", spec := "ledgerTells", unfollowed := true, recurses := true, plainKeys := false, apart := false }
def LedgerTellsSaid : Prop := ledgerTellsRow.holds Try.pinned (OpenSpec.ofChange ledgerTellsSpec)

/-- ITS FALSE NEIGHBOUR: 'it returns false'. Refute it at one input. -/
def ledgerTellsWrong : ChangeSpec := { name := "ledgerTells", fn := fun _ => fun
  | [d1, d2, d3, d4] => { results := [.lit (.bool false)], args := [d1, d2, d3, d4] }
  | _ => none }
def LedgerTellsWrongFalsely : Prop := ledgerTellsRow.holds Try.pinned (OpenSpec.ofChange ledgerTellsWrong)

/- THE SECOND FORM. 'bulk': how many values and letters a reading holds, each counted each time it is reached (what is shared counts as often as it is met; a slice's spare places count too). A statement '..UptoSaid' is the law's where the arguments, and the package variables that the reading takes, are together of bulk at most 1048576: NARROWER than '..Said'. Prove '..Said' where nothing that the law and all that it calls make is longer than what came in: it says more and counts as full. Else prove '..UptoSaid'. A law counts once. -/
mutual
def uptoBulk {H : Type} : DataW H → Nat
  | .lit (.string bytes) => bytes.length + 1
  | .lit _ => 1
  | .nil => 1
  | .ptr d => uptoBulk d + 1
  | .slice elems spare => uptoBulkAll elems + uptoBulkAll spare + 1
  | .agg parts => uptoBulkAll parts + 1
  | .iface _ d => uptoBulk d + 1
  | .map entries => uptoBulkEntries entries + 1
  | .held _ => 1
def uptoBulkAll {H : Type} : List (DataW H) → Nat
  | [] => 0
  | d :: r => uptoBulk d + uptoBulkAll r
def uptoBulkEntries {H : Type} : List (Lit × DataW H) → Nat
  | [] => 0
  | x :: r => uptoBulkEntry x + uptoBulkEntries r
def uptoBulkEntry {H : Type} : Lit × DataW H → Nat
  | (.string bytes, d) => bytes.length + uptoBulk d + 1
  | (_, d) => uptoBulk d + 1
 end
def uptoSmall : (H : Type) → List (DataW H) → Bool := fun _ ds => decide (uptoBulkAll ds ≤ 1048576)
def OpenSpec.upto (s : _root_.Go.ChangeSpec) : _root_.Go.OpenSpec := { _root_.Go.OpenSpec.ofChange s with cond := some uptoSmall }

/-- 'cohortlaw20.ReconEach', WHERE WHAT IT READS IS OF BULK AT MOST 1048576: true; the input reads as it did. -/
def reconEachUptoRow : OpenClaim := { program := "ytaoflcmjmhfblaa", sum := "4ccdbc2666cbfaf9c480cc6e1963c882f77b9459206d606ec49041104400e542", func := "cohort/cohortlaw20.ReconEach", spec := "reconEach", unfollowed := true, recurses := true, plainKeys := false, apart := false, narrowed := true }
def ReconEachUptoSaid : Prop := reconEachUptoRow.holds Try.pinned (OpenSpec.upto reconEachSpec)

/-- 'cohortlaw20.ReconStill', WHERE WHAT IT READS IS OF BULK AT MOST 1048576: true; the input reads as it did. -/
def reconStillUptoRow : OpenClaim := { program := "ytaoflcmjmhfblaa", sum := "4ccdbc2666cbfaf9c480cc6e1963c882f77b9459206d606ec49041104400e542", func := "cohort/cohortlaw20.ReconStill", spec := "reconStill", unfollowed := true, recurses := true, plainKeys := false, apart := false, narrowed := true }
def ReconStillUptoSaid : Prop := reconStillUptoRow.holds Try.pinned (OpenSpec.upto reconStillSpec)

/-- 'cohortlaw16.InstEnds', WHERE WHAT IT READS IS OF BULK AT MOST 1048576: true; the input reads as it did. -/
def instEndsUptoRow : OpenClaim := { program := "ytaoflcmjmhfblaa", sum := "4ccdbc2666cbfaf9c480cc6e1963c882f77b9459206d606ec49041104400e542", func := "cohort/cohortlaw16.InstEnds", spec := "instEnds", plainKeys := false, apart := false, narrowed := true }
def InstEndsUptoSaid : Prop := instEndsUptoRow.holds Try.pinned (OpenSpec.upto instEndsSpec)

/-- 'cohortlaw16.InstGoes', WHERE WHAT IT READS IS OF BULK AT MOST 1048576: true; the input reads as it did. -/
def instGoesUptoRow : OpenClaim := { program := "ytaoflcmjmhfblaa", sum := "4ccdbc2666cbfaf9c480cc6e1963c882f77b9459206d606ec49041104400e542", func := "cohort/cohortlaw16.InstGoes", spec := "instGoes", plainKeys := false, apart := false, narrowed := true }
def InstGoesUptoSaid : Prop := instGoesUptoRow.holds Try.pinned (OpenSpec.upto instGoesSpec)

/-- 'cohortlaw18.LedgerTokens', WHERE WHAT IT READS IS OF BULK AT MOST 1048576: true; the input reads as it did. -/
def ledgerTokensUptoRow : OpenClaim := { program := "ytaoflcmjmhfblaa", sum := "4ccdbc2666cbfaf9c480cc6e1963c882f77b9459206d606ec49041104400e542", func := "cohort/cohortlaw18.LedgerTokens", spec := "ledgerTokens", unfollowed := true, recurses := true, plainKeys := false, apart := false, narrowed := true }
def LedgerTokensUptoSaid : Prop := ledgerTokensUptoRow.holds Try.pinned (OpenSpec.upto ledgerTokensSpec)

/-- 'cohortlaw09.BatchBack', WHERE WHAT IT READS IS OF BULK AT MOST 1048576: true; the input reads as it did. -/
def batchBackUptoRow : OpenClaim := { program := "ytaoflcmjmhfblaa", sum := "4ccdbc2666cbfaf9c480cc6e1963c882f77b9459206d606ec49041104400e542", func := "cohort/cohortlaw09.BatchBack", spec := "batchBack", unfollowed := true, recurses := true, plainKeys := false, apart := false, narrowed := true }
def BatchBackUptoSaid : Prop := batchBackUptoRow.holds Try.pinned (OpenSpec.upto batchBackSpec)

/-- 'cohortlaw09.BatchTables', WHERE WHAT IT READS IS OF BULK AT MOST 1048576: true; the input reads as it did. -/
def batchTablesUptoRow : OpenClaim := { program := "ytaoflcmjmhfblaa", sum := "4ccdbc2666cbfaf9c480cc6e1963c882f77b9459206d606ec49041104400e542", func := "cohort/cohortlaw09.BatchTables", spec := "batchTables", unfollowed := true, recurses := true, plainKeys := false, apart := false, narrowed := true }
def BatchTablesUptoSaid : Prop := batchTablesUptoRow.holds Try.pinned (OpenSpec.upto batchTablesSpec)

/-- 'cohortlaw09.BatchWay', WHERE WHAT IT READS IS OF BULK AT MOST 1048576: true; the input reads as it did. -/
def batchWayUptoRow : OpenClaim := { program := "ytaoflcmjmhfblaa", sum := "4ccdbc2666cbfaf9c480cc6e1963c882f77b9459206d606ec49041104400e542", func := "cohort/cohortlaw09.BatchWay", spec := "batchWay", unfollowed := true, recurses := true, plainKeys := false, apart := false, narrowed := true }
def BatchWayUptoSaid : Prop := batchWayUptoRow.holds Try.pinned (OpenSpec.upto batchWaySpec)

/-- 'cohortlaw15.RankFirst', WHERE WHAT IT READS IS OF BULK AT MOST 1048576: true; the input reads as it did. -/
def rankFirstUptoRow : OpenClaim := { program := "ytaoflcmjmhfblaa", sum := "4ccdbc2666cbfaf9c480cc6e1963c882f77b9459206d606ec49041104400e542", func := "cohort/cohortlaw15.RankFirst", spec := "rankFirst", unfollowed := true, recurses := true, plainKeys := false, apart := false, narrowed := true }
def RankFirstUptoSaid : Prop := rankFirstUptoRow.holds Try.pinned (OpenSpec.upto rankFirstSpec)

/-- 'cohortlaw15.RankAlone', WHERE WHAT IT READS IS OF BULK AT MOST 1048576: true; the input reads as it did. -/
def rankAloneUptoRow : OpenClaim := { program := "ytaoflcmjmhfblaa", sum := "4ccdbc2666cbfaf9c480cc6e1963c882f77b9459206d606ec49041104400e542", func := "cohort/cohortlaw15.RankAlone", spec := "rankAlone", unfollowed := true, recurses := true, plainKeys := false, apart := false, narrowed := true }
def RankAloneUptoSaid : Prop := rankAloneUptoRow.holds Try.pinned (OpenSpec.upto rankAloneSpec)

/-- 'cohortlaw15.RankPick', WHERE WHAT IT READS IS OF BULK AT MOST 1048576: true; the input reads as it did. -/
def rankPickUptoRow : OpenClaim := { program := "ytaoflcmjmhfblaa", sum := "4ccdbc2666cbfaf9c480cc6e1963c882f77b9459206d606ec49041104400e542", func := "cohort/cohortlaw15.RankPick", spec := "rankPick", unfollowed := true, recurses := true, plainKeys := false, apart := false, narrowed := true }
def RankPickUptoSaid : Prop := rankPickUptoRow.holds Try.pinned (OpenSpec.upto rankPickSpec)

/-- 'cohortlaw18.LedgerTells', WHERE WHAT IT READS IS OF BULK AT MOST 1048576: true; the input reads as it did. -/
def ledgerTellsUptoRow : OpenClaim := { program := "ytaoflcmjmhfblaa", sum := "4ccdbc2666cbfaf9c480cc6e1963c882f77b9459206d606ec49041104400e542", func := "cohort/cohortlaw18.LedgerTells", spec := "ledgerTells", unfollowed := true, recurses := true, plainKeys := false, apart := false, narrowed := true }
def LedgerTellsUptoSaid : Prop := ledgerTellsUptoRow.holds Try.pinned (OpenSpec.upto ledgerTellsSpec)

end Rows
end Go.Proofs.Ytaoflcmjmhfblaa
