/- rank's rows: RankAlone, RankPick. -/
import Derived.Test.YtaoflcmjmhfblaaMgK
import Derived.Test.YtaoflcmjmhfblaaMgL
import Derived.Test.YtaoflcmjmhfblaaMgM
namespace Go.Proofs.Ytaoflcmjmhfblaa.R
open Go.RowKit Go.Proofs.YtaoflcmjmhfblaaW.PrintWords Go.Proofs.YtaoflcmjmhfblaaW.PrintLast Go.Proofs.YtaoflcmjmhfblaaW.PrintMore Go.Proofs.Ytaoflcmjmhfblaa.H
open Go.ChangeShapes Go.WideShapes Go.ChangeAt
set_option linter.unusedVariables false
set_option linter.unusedSimpArgs false
theorem rankAlone_walk {a0 a1} {cs0 cs1 : Array Value} {a2 : List QuoteV} {A2 : Option Addr} {c2 : Nat} {spot : Bool} {now pt price score : Int} (W : World) (h0 : kCfgR.K W a0 cs0.toList) (w0 : wfl 40 a0.1) (h1 : kCfgR.K W a1 cs1.toList) (w1 : wfl 40 a1.1) (h2 : kQuote.C W A2 a2.length a2) (hl2 : a2.length ≤ c2) (w2 : wfl 24 a2) (w4 : (Lit.int .u64 now).wf = true) (w5 : (Lit.int .u8 pt).wf = true) (w6 : (Lit.int .i64 price).wf = true) (w7 : (Lit.int .i64 score).wf = true) :
    Calls Try.prog 12 #[.agg cs0, .agg cs1, .slice A2 a2.length c2, .bool spot, .int .u64 now, .int .u8 pt, .int .i64 price, .int .i64 score] W fun e w' => e = .returned (.bool true) ∧ Below W.heap.size W w' := by
  obtain ⟨A, c, st, sp, hF, hC⟩ := cfg_open h0
  obtain ⟨A', c', st', sp', hF', hC'⟩ := cfg_open h1
  unfold wfl at w0
  exact rankAlone_calls cs0 cs1 A A2 A' c c2 _ c' st sp st' sp' a0.1 a2 spot now pt price score W hF hF' hC h2 (by omega) (bd_u8 w5).1 (bd_u8 w5).2
theorem rankPick_walk {a0} {cs0 : Array Value} {a1 : List QuoteV} {A1 : Option Addr} {c1 : Nat} {a2 : List Int} {A2 : Option Addr} {c2 : Nat} {spot : Bool} {now : Int} (W : World) (h0 : kCfgR.K W a0 cs0.toList) (w0 : wfl 40 a0.1) (h1 : kQuote.C W A1 a1.length a1) (hl1 : a1.length ≤ c1) (w1 : wfl 24 a1) (h2 : (Kd.int .i64).C W A2 a2.length a2) (hl2 : a2.length ≤ c2) (w2 : wfl 8 a2) (w4 : (Lit.int .u64 now).wf = true) :
    Calls Try.prog 13 #[.agg cs0, .slice A1 a1.length c1, .slice A2 a2.length c2, .bool spot, .int .u64 now] W fun e w' => e = .returned (.bool true) ∧ Below W.heap.size W w' := by
  obtain ⟨A, c, st, sp, hF, hC⟩ := cfg_open h0
  unfold wfl at w0
  exact rankPick_calls cs0 A A1 A2 c c1 c2 st sp a0.1 a1 a2 spot now W hF hC h1 h2 (by omega)
end Go.Proofs.Ytaoflcmjmhfblaa.R
