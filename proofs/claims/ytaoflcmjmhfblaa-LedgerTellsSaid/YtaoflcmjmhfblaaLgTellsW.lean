/- The law LedgerTells, with its sure program: for the row. -/
import Derived.Test.YtaoflcmjmhfblaaLgTellsP
import Derived.Test.YtaoflcmjmhfblaaLgTellsO
namespace Go.Proofs.Ytaoflcmjmhfblaa.H
open Go.RowKit Go.Proofs.YtaoflcmjmhfblaaW.PrintWords Go.Proofs.YtaoflcmjmhfblaaW.PrintLast Go.Proofs.YtaoflcmjmhfblaaW.PrintMore Go.Proofs.Ytaoflcmjmhfblaa.Q
set_option linter.unusedVariables false
theorem ledgerTells_walk {id now span : Int} {A : Option Addr} {c : Nat} {l : List S61} (w : World) (h : Kd.C k61 w A l.length l) (hlc : l.length ≤ c) (hwf : l.length ≤ 9223372036854775807 ∧ l.length * 64 ≤ 140737488351232 ∧ ∀ x ∈ l, True) (h1 : (Lit.int .u64 id).wf = true) (h2 : (Lit.int .u64 now).wf = true) (h3 : (Lit.int .u64 span).wf = true) :
    Calls Try.prog 14 #[.slice A l.length c, .int .u64 id, .int .u64 now, .int .u64 span] w fun e w' => e = .returned (.bool true) ∧ Below w.heap.size w w' := by
  obtain ⟨k, hk⟩ := tells_plain l id now span
  exact cohortlaw18_LedgerTells.calls k A c l id now span true w h hlc hk
end Go.Proofs.Ytaoflcmjmhfblaa.H
