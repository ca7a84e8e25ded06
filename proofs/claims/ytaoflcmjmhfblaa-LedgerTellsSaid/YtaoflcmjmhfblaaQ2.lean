-- Printed by a program of this seat's (gprint.py) out of the translation. Not trusted: Lean checks it.
import Derived.Test.YtaoflcmjmhfblaaQ0
import Derived.Test.YtaoflcmjmhfblaaQ1
namespace Go.Proofs.Ytaoflcmjmhfblaa.Q
open Go.RowKit Go.Proofs.YtaoflcmjmhfblaaW.PrintWords Go.Proofs.YtaoflcmjmhfblaaW.PrintLast Go.Proofs.YtaoflcmjmhfblaaW.PrintMore
attribute [local go_sem] max2_int min2_int max_two min_two max_three min_three max_four min_four   -- for this text's walks alone
set_option linter.unusedVariables false
set_option linter.unusedSimpArgs false

theorem eqA61 (d : Nat) (w : World) (x0 y0 : Int) (x1 y1 : Int) (x2 y2 : Int) (x3 y3 : Bool) (x4 y4 : Int) (x5 y5 : Int) (x6 y6 : Int) (x7 y7 : Bool) (x8 y8 : Int) :
    (Op.equalIn (d + 3) 61 (.agg #[.int .u8 x0, .int .u64 x1, .int .i64 x2, .bool x3, .int .u64 x4, .int .u64 x5, .int .i64 x6, .bool x7, .int .u32 x8]) (.agg #[.int .u8 y0, .int .u64 y1, .int .i64 y2, .bool y3, .int .u64 y4, .int .u64 y5, .int .i64 y6, .bool y7, .int .u32 y8])).run Try.prog w = .ok ((x0 == y0 && (x1 == y1 && (x2 == y2 && (x3 == y3 && (x4 == y4))))) && (x5 == y5 && (x6 == y6 && (x7 == y7 && (x8 == y8))))) w := by
  refine eqA_of Try.underlying61 (by kernel_rfl) ?_
  refine eqf_cons (by rfl) (by go_simp) (by go_simp) (eqA59 (d + 0) w _ _ _ _ _ _ _ _ _ _) ?_
  refine eqf_cons (by rfl) (by go_simp; rfl) (by go_simp; rfl) (by go_simp) ?_
  refine eqf_cons (by rfl) (by go_simp; rfl) (by go_simp; rfl) (by go_simp) ?_
  refine eqf_cons (by rfl) (by go_simp; rfl) (by go_simp; rfl) (by go_simp) ?_
  exact eqf_last (by rfl) (by go_simp; rfl) (by go_simp; rfl) (by go_simp)
end Go.Proofs.Ytaoflcmjmhfblaa.Q
