/- The law InstEnds's walk, for the row. -/
import Derived.Test.YtaoflcmjmhfblaaIEndsW
import Derived.Test.YtaoflcmjmhfblaaGGoesO
namespace Go.Proofs.Ytaoflcmjmhfblaa.I
open Go.RowKit Go.Proofs.YtaoflcmjmhfblaaW.PrintWords Go.Proofs.YtaoflcmjmhfblaaW.PrintLast Go.Proofs.YtaoflcmjmhfblaaW.PrintMore Go.Proofs.Ytaoflcmjmhfblaa.H Go.Shelf
set_option linter.unusedVariables false
theorem instEnds_walk {i : InV} {cs : Array Value} {now a b d : Int} (w : World) (hi : kInst.K w i cs.toList) (_ : True) (hn : (Lit.int .u64 now).wf = true) (ha : (Lit.int .u8 a).wf = true) (hb : (Lit.int .u8 b).wf = true) (hd : (Lit.int .u64 d).wf = true) :
    Calls Try.prog 5 #[.agg cs, .int .u64 now, .int .u8 a, .int .u8 b, .int .u64 d] w fun e w' => e = .returned (.bool true) ∧ Below w.heap.size w w' := by
  have e : cs = i.cells := by
    have := kInst_cells hi
    simpa using congrArg List.toArray this
  subst e
  obtain ⟨n1, n2⟩ := bd_u64 hn
  obtain ⟨a1, a2⟩ := bd_u8 ha
  obtain ⟨b1, b2⟩ := bd_u8 hb
  obtain ⟨d1, d2⟩ := bd_u64 hd
  exact ends_walk i now a b d w n1 a1 a2 b1 b2 d1 d2
end Go.Proofs.Ytaoflcmjmhfblaa.I
