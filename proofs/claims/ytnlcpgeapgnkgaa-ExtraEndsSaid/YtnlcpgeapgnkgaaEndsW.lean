/- The walk of ExtraEnds for all states. -/
import Derived.Test.YtnlcpgeapgnkgaaEndsA
import Derived.Test.YtnlcpgeapgnkgaaEndsB
namespace Go.Proofs.Ytnlcpgeapgnkgaa.H
open Go.RowKit Go.Proofs.YtnlcpgeapgnkgaaW.PrintWords Go.Proofs.YtnlcpgeapgnkgaaW.PrintLast Go.Proofs.YtnlcpgeapgnkgaaW.PrintMore
theorem extraEnds_walk {a} {cs : Array Value} {b : Bool} (W : World) (h : kState.K W a cs.toList) (_ : True) :
    Calls Try.prog 3 #[.agg cs, .bool b] W fun e w' => e = .returned (.bool true) ∧ Below W.heap.size W w' := by
  obtain ⟨s, L, hF, hL⟩ := state_open h
  cases hg : (decide (300 < s.ilen) || decide (300 < s.olen)) with
  | true => exact exends_big hF L W hL b hg
  | false =>
    by_cases hM : MayL L
    · by_cases hr : (0 ≤ s.desired ∧ s.desired ≤ 65536) ∧ (0 ≤ s.surge ∧ s.surge ≤ 65536)
      · cases b with
        | true => exact exends_all hF L W hL hg hM hr.1 hr.2
        | false => exact exends_one hF L W hL hg hM hr.1 hr.2
      · exact exends_out hF L W hL b hg hM hr
    · exact exends_no hF L W hL b hg hM
end Go.Proofs.Ytnlcpgeapgnkgaa.H
