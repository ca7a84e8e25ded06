/- inst.find. -/
import Derived.Test.YtaoflcmjmhfblaaGRows
import Derived.Test.YtaoflcmjmhfblaaGStays
namespace Go.Proofs.Ytaoflcmjmhfblaa.I
open Go.RowKit Go.Proofs.YtaoflcmjmhfblaaW.PrintWords Go.Proofs.YtaoflcmjmhfblaaW.PrintLast Go.Proofs.YtaoflcmjmhfblaaW.PrintMore Go.Proofs.Ytaoflcmjmhfblaa.H Go.Shelf
set_option linter.unusedVariables false
set_option linter.unusedSimpArgs false
def idleI (i : InV) : Bool := i.state == 1 || i.state == 2 || i.state == 7 || i.state == 9
def findR (i : InV) (what : Int) (c : CfV) : RowV × Bool :=
  match tabL (fun _ => true) (tabT c) (i.state, what) with
  | some r => (r, true)
  | none => bif what == 10 || what == 2 then (endR, idleI i || i.state == 8) else bif what == 8 then (endR, idleI i || i.state == 5) else ((0, 0, false, 0), false)
theorem lookT (c : CfV) {w : World} {B : Nat} {l : List ((Int × Int) × RowV)} (h : MapR encP encR w B l) (hl : ∀ b, lookL l b = tabL (fun _ => true) (tabT c) b) (a b : Int) :
    (Instr.lookup 197 (.map (some B)) (.agg #[.int .u8 a, .int .u8 b]) true).run Try.prog w = .ok (.tuple #[((tabL (fun _ => true) (tabT c) (a, b)).map encR).getD (encR (0, 0, false, 0)), .bool (tabL (fun _ => true) (tabT c) (a, b)).isSome]) w := by
  have h1 := h.lookup keyPair Try.underlying197 (z := encR (0, 0, false, 0)) (fun w => Try.zeroValue133 w) (a, b) true
  rw [hl] at h1
  exact h1
end Go.Proofs.Ytaoflcmjmhfblaa.I
