/- The law LedgerTokens, walked, with its sure program: for the row. -/
import Derived.Test.YtaoflcmjmhfblaaTokens
import Derived.Test.YtaoflcmjmhfblaaTokensO
namespace Go.Proofs.Ytaoflcmjmhfblaa.H
open Go.RowKit Go.Proofs.YtaoflcmjmhfblaaW.PrintWords Go.Proofs.YtaoflcmjmhfblaaW.PrintLast Go.Proofs.YtaoflcmjmhfblaaW.PrintMore Go.Proofs.Ytaoflcmjmhfblaa.Q
set_option linter.unusedVariables false
set_option maxRecDepth 100000 in
theorem lives18 : cohortlaw18_lives.f = some true := by decide +kernel
theorem ledgerTokens_walk {A : Option Addr} {c : Nat} {l : List S63} (w : World) (h : Kd.C k63 w A l.length l) (hlc : l.length ≤ c) (hwf : l.length ≤ 9223372036854775807 ∧ l.length * 80 ≤ 140737488351232 ∧ ∀ x ∈ l, True) :
    Calls Try.prog 7 #[.slice A l.length c] w fun e w' => e = .returned (.bool true) ∧ Below w.heap.size w w' :=
  tokens_walk A c l w h (fun W => by
    have h1 := cohortlaw18_lives.calls true W lives18
    exact h1)
end Go.Proofs.Ytaoflcmjmhfblaa.H
