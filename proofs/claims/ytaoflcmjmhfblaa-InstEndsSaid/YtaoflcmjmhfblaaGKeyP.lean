/- probe -/
import Derived.Test.YtaoflcmjmhfblaaGInst
namespace Go.Proofs.Ytaoflcmjmhfblaa.I
open Go.RowKit Go.Proofs.YtaoflcmjmhfblaaW.PrintWords Go.Proofs.YtaoflcmjmhfblaaW.PrintLast Go.Proofs.YtaoflcmjmhfblaaW.PrintMore Go.Proofs.Ytaoflcmjmhfblaa.H Go.Shelf
set_option linter.unusedVariables false
set_option linter.unusedSimpArgs false
def encP (k : Int × Int) : Value := .agg #[.int .u8 k.1, .int .u8 k.2]
theorem keyPair : KeyOk Try.prog 199 encP where
  eq w a b := by
    obtain ⟨a0, a1⟩ := a
    obtain ⟨b0, b1⟩ := b
    show (Op.equalIn (9998 + 2) _ _ _).run _ _ = _
    simp only [encP]
    generalize 9998 = d
    simp only [Op.equalIn]
    go_simp
    simp only [List.range', List.forIn_cons, List.forIn_nil]
    go_simp
    by_cases h0 : a0 = b0 <;> by_cases h1 : a1 = b1 <;> simp [h0, h1]
  check w em a := by
    obtain ⟨m, hm⟩ : ∃ m, 10000 = m + 2 := ⟨9998, rfl⟩
    rw [hm]
    clear hm
    unfold encP
    simp only [Instr.checkKey]
    go_simp
    simp only [List.range', List.forIn_cons, List.forIn_nil]
    go_simp
  now := ⟨_, Try.underlying199, .inl (fun a b => rfl)⟩
  stays a := by simp [Instr.sameBits, encP]
end Go.Proofs.Ytaoflcmjmhfblaa.I
