/- conf.Check: what it tells; its map's keys; fields and what is asked of them. -/
import Derived.Test.YtgiokbhedblkfaaCfCopy
import Derived.Test.YtgiokbhedblkfaaIs
import Derived.Test.YtgiokbhedblkfaaGMap
namespace Go.Proofs.Ytgiokbhedblkfaa.C
open Go.RowKit Go.Proofs.YtgiokbhedblkfaaW.PrintWords Go.Proofs.YtgiokbhedblkfaaW.PrintLast Go.Proofs.YtgiokbhedblkfaaW.PrintMore Go.Proofs.Ytgiokbhedblkfaa.H
set_option linter.unusedVariables false
set_option linter.unusedSimpArgs false
theorem str_eq (a b : ByteArray) : (a.toList == b.toList) = decide (a = b) := by
  by_cases h : a = b
  · subst h; simp
  · rw [decide_eq_false h, beq_eq_false_iff_ne]
    intro e
    exact h (by cases a; cases b; rw [ByteArray.toList_eq, ByteArray.toList_eq] at e; congr; exact Array.toList_inj.1 e)
theorem byteArray_beq (a b : ByteArray) : (a == b) = decide (a = b) := by
  show (a.data == b.data) = _
  by_cases h : a = b
  · subst h; simp
  · rw [decide_eq_false h, beq_eq_false_iff_ne]
    intro e
    exact h (by cases a; cases b; congr)
theorem keyStr : KeyOk Try.prog 9 Value.string where
  eq w a b := by
    show (Op.equalIn (9999 + 1) _ _ _).run _ _ = _
    rw [← str_eq]
    go_simp
  check w em a := by
    obtain ⟨m, hm⟩ : ∃ m, 10000 = m + 1 := ⟨9999, rfl⟩
    rw [hm]
    clear hm
    simp only [Instr.checkKey]
    go_simp
  now := ⟨_, Try.underlying9, .inr (fun a b => by rw [← byteArray_beq]; rfl)⟩
  stays a := by
    show (a == a) = true
    rw [byteArray_beq]; simp
end Go.Proofs.Ytgiokbhedblkfaa.C
