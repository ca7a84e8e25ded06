/- cmp.Compare of numbers and of texts. -/
import Derived.Test.YtaoflcmjmhfblaaOrder
import Derived.Sort.Walk0
namespace Go.Proofs.Ytaoflcmjmhfblaa.H
open Go.RowKit Go.Proofs.YtaoflcmjmhfblaaW.PrintWords Go.Proofs.YtaoflcmjmhfblaaW.PrintLast Go.Proofs.YtaoflcmjmhfblaaW.PrintMore
set_option linter.unusedVariables false
set_option linter.unusedSimpArgs false
theorem nanI_calls (n : Int) (w : World) : Calls Try.prog 162 #[.int .i64 n] w fun e w' => e = .returned (.bool false) ∧ w = w' := by
  go_enter Try.func162, Try.ntmps162
  go_wp2
  go_ret
  exact ⟨rfl, rfl⟩
theorem nanS_calls (s : ByteArray) (w : World) : Calls Try.prog 152 #[.string s] w fun e w' => e = .returned (.bool false) ∧ w = w' := by
  go_enter Try.func152, Try.ntmps152
  go_wp2
  go_ret
  exact ⟨by simp, rfl⟩
theorem cmpI_calls (x y : Int) (w : World) : Calls Try.prog 132 #[.int .i64 x, .int .i64 y] w fun e w' => e = .returned (.int .i64 (cmpI x y)) ∧ w = w' := by
  obtain ⟨r, hr⟩ : ∃ r, cmpI x y = r := ⟨_, rfl⟩
  rw [hr]
  have HR := Lib.hid hr
  clear hr
  rcases Int.lt_trichotomy x y with h | h | h
  all_goals
    go_enter Try.func132, Try.ntmps132
    go_wp2_with (first | (go_at_call 162; refine (nanI_calls _ _).mono ?_; rintro e w' ⟨rfl, rfl⟩))
  all_goals first
    | (exfalso; omega)
    | (go_ret; exact ⟨by rw [← HR.out]; unfold cmpI; first | (rw [if_pos (by omega)]; rfl) | (rw [if_neg (by omega), if_pos (by omega)]; rfl) | (rw [if_neg (by omega), if_neg (by omega)]; rfl), rfl⟩)
theorem less_eq (x y : ByteArray) : Op.bytesLess x.toList y.toList = decide (x.data.toList < y.data.toList) := by
  rw [bytesLess_eq, ByteArray.toList_eq, ByteArray.toList_eq]
theorem eq_eq (x y : ByteArray) : (x.toList == y.toList) = decide (x.data.toList = y.data.toList) := by
  rw [ByteArray.toList_eq, ByteArray.toList_eq]
  by_cases h : x.data.toList = y.data.toList
  · rw [decide_eq_true h]; exact beq_iff_eq.2 h
  · rw [decide_eq_false h]; exact beq_eq_false_iff_ne.2 h
theorem cmpL_calls (x y : ByteArray) (w : World) : Calls Try.prog 114 #[.string x, .string y] w fun e w' => e = .returned (.int .i64 (cmpL x y)) ∧ w = w' := by
  obtain ⟨r, hr⟩ : ∃ r, cmpL x y = r := ⟨_, rfl⟩
  rw [hr]
  have L := less_eq x y
  have E := eq_eq x y
  by_cases h1 : x.data.toList < y.data.toList
  · rw [decide_eq_true h1] at L
    have hr1 : r = -1 := by rw [← hr]; unfold cmpL; rw [if_pos h1]
    subst hr1
    clear h1 E hr
    go_enter Try.func114, Try.ntmps114
    go_wp2_with (first | (go_at_call 152; refine (nanS_calls _ _).mono ?_; rintro e w' ⟨rfl, rfl⟩))
    go_ret
    exact ⟨rfl, rfl⟩
  · rw [decide_eq_false h1] at L
    by_cases h2 : y.data.toList < x.data.toList
    · have h3 : ¬ x.data.toList = y.data.toList := fun e => lists_irr _ (e ▸ h2)
      rw [decide_eq_false h3] at E
      have hr1 : r = 1 := by rw [← hr]; unfold cmpL; rw [if_neg h1, if_pos h2]
      subst hr1
      clear h1 h2 h3 hr
      go_enter Try.func114, Try.ntmps114
      go_wp2_with (first | (go_at_call 152; refine (nanS_calls _ _).mono ?_; rintro e w' ⟨rfl, rfl⟩))
      go_ret
      exact ⟨rfl, rfl⟩
    · have h3 := lists_tri h1 h2
      rw [decide_eq_true h3] at E
      have hr1 : r = 0 := by rw [← hr]; unfold cmpL; rw [if_neg h1, if_neg h2]
      subst hr1
      clear h1 h2 h3 hr
      go_enter Try.func114, Try.ntmps114
      go_wp2_with (first | (go_at_call 152; refine (nanS_calls _ _).mono ?_; rintro e w' ⟨rfl, rfl⟩))
      go_ret
      exact ⟨rfl, rfl⟩
end Go.Proofs.Ytaoflcmjmhfblaa.H
