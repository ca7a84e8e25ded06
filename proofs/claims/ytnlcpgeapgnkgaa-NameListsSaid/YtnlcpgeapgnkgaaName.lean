/- The contracts of name.Compare and of what it calls. -/
import Derived.Test.YtnlcpgeapgnkgaaOrder
import Derived.Test.YtnlcpgeapgnkgaaWMore
import Derived.Sort.Walk0
namespace Go.Proofs.Ytnlcpgeapgnkgaa.H
open Go.RowKit Go.Proofs.YtnlcpgeapgnkgaaW.PrintWords Go.Proofs.YtnlcpgeapgnkgaaW.PrintLast Go.Proofs.YtnlcpgeapgnkgaaW.PrintMore
set_option linter.unusedVariables false
set_option linter.unusedSimpArgs false

theorem nanI_calls (n : Int) (w : World) : Calls Try.prog 56 #[.int .i64 n] w fun e w' => e = .returned (.bool false) ∧ w = w' := by
  go_enter Try.func56, Try.ntmps56
  go_wp2
  go_ret
  exact ⟨rfl, rfl⟩
theorem nanS_calls (s : ByteArray) (w : World) : Calls Try.prog 57 #[.string s] w fun e w' => e = .returned (.bool false) ∧ w = w' := by
  go_enter Try.func57, Try.ntmps57
  go_wp2
  go_ret
  exact ⟨by simp, rfl⟩
theorem cmpI_calls (x y : Int) (w : World) : Calls Try.prog 45 #[.int .i64 x, .int .i64 y] w fun e w' => e = .returned (.int .i64 (cmpI x y)) ∧ w = w' := by
  obtain ⟨r, hr⟩ : ∃ r, cmpI x y = r := ⟨_, rfl⟩
  rw [hr]
  have HR := Lib.hid hr
  clear hr
  rcases Int.lt_trichotomy x y with h | h | h
  all_goals
    go_enter Try.func45, Try.ntmps45
    go_wp2_with (first | (go_at_call 56; refine (nanI_calls _ _).mono ?_; rintro e w' ⟨rfl, rfl⟩))
  all_goals first
    | (exfalso; omega)
    | (go_ret; exact ⟨by rw [← HR.out]; unfold cmpI; first | (rw [if_pos (by omega)]; rfl) | (rw [if_neg (by omega), if_pos (by omega)]; rfl) | (rw [if_neg (by omega), if_neg (by omega)]; rfl), rfl⟩)
theorem less_eq (x y : ByteArray) : Op.bytesLess x.toList y.toList = decide (x.data.toList < y.data.toList) := by
  rw [bytesLess_eq, ByteArray.toList_eq, ByteArray.toList_eq]
theorem eq_eq (x y : ByteArray) : (x.toList == y.toList) = decide (x.data.toList = y.data.toList) := by
  rw [ByteArray.toList_eq, ByteArray.toList_eq]
  by_cases h : x.data.toList = y.data.toList
  · rw [decide_eq_true h]; exact beq_iff_eq.2 h
  · rw [decide_eq_false h]; exact beq_eq_false_iff_ne.2 h
theorem cmpL_calls (x y : ByteArray) (w : World) : Calls Try.prog 46 #[.string x, .string y] w fun e w' => e = .returned (.int .i64 (cmpL x y)) ∧ w = w' := by
  obtain ⟨r, hr⟩ : ∃ r, cmpL x y = r := ⟨_, rfl⟩
  rw [hr]
  have L := less_eq x y
  have E := eq_eq x y
  by_cases h1 : x.data.toList < y.data.toList
  · rw [decide_eq_true h1] at L
    have hr1 : r = -1 := by rw [← hr]; unfold cmpL; rw [if_pos h1]
    subst hr1
    clear h1 E hr
    go_enter Try.func46, Try.ntmps46
    go_wp2_with (first | (go_at_call 57; refine (nanS_calls _ _).mono ?_; rintro e w' ⟨rfl, rfl⟩))
    go_ret
    exact ⟨rfl, rfl⟩
  · rw [decide_eq_false h1] at L
    by_cases h2 : y.data.toList < x.data.toList
    · have h3 : ¬ x.data.toList = y.data.toList := fun e => lists_irr _ (e ▸ h2)
      rw [decide_eq_false h3] at E
      have hr1 : r = 1 := by rw [← hr]; unfold cmpL; rw [if_neg h1, if_pos h2]
      subst hr1
      clear h1 h2 h3 hr
      go_enter Try.func46, Try.ntmps46
      go_wp2_with (first | (go_at_call 57; refine (nanS_calls _ _).mono ?_; rintro e w' ⟨rfl, rfl⟩))
      go_ret
      exact ⟨rfl, rfl⟩
    · have h3 := lists_tri h1 h2
      rw [decide_eq_true h3] at E
      have hr1 : r = 0 := by rw [← hr]; unfold cmpL; rw [if_neg h1, if_neg h2]
      subst hr1
      clear h1 h2 h3 hr
      go_enter Try.func46, Try.ntmps46
      go_wp2_with (first | (go_at_call 57; refine (nanS_calls _ _).mono ?_; rintro e w' ⟨rfl, rfl⟩))
      go_ret
      exact ⟨rfl, rfl⟩
set_option maxRecDepth 100000 in
theorem or_calls (i j r : Int) (hr : r = if i ≠ 0 then i else j) (w : World) (t : Nat) : Calls Try.prog 44 #[.slice (some { block := w.heap.size, off := 0 }) 2 2] (w.alloc (.cells #[.int .i64 i, .int .i64 j] t)) fun e w' => e = .returned (.int .i64 r) ∧ w' = w.alloc (.cells #[.int .i64 i, .int .i64 j] t) := by
  obtain ⟨w1, h1⟩ : ∃ w1, w1 = w.alloc (.cells #[.int .i64 i, .int .i64 j] t) := ⟨_, rfl⟩
  have c0 : w1.cell? { block := w.heap.size, off := 0 } = some (.int .i64 i) := by rw [h1]; simp
  have c1 : w1.cell? { block := w.heap.size, off := 1 } = some (.int .i64 j) := by rw [h1]; simp
  rw [← h1]
  clear h1
  by_cases h : i = 0
  · rw [if_neg (by omega)] at hr
    subst hr
    subst h
    go_enter Try.func44, Try.ntmps44
    go_wp2
    refine wp_loop_rounds 4 ?_
    rw [rounds_succ]
    go_wp2
    by_cases hr : r = 0
    · subst hr
      rw [rounds_succ]
      go_wp2
      rw [rounds_succ]
      go_wp2
      go_ret
      exact ⟨rfl, rfl⟩
    · rw [rounds_succ]
      go_wp2
      all_goals first | (exfalso; omega) | (go_ret; exact ⟨rfl, rfl⟩)
  · rw [if_pos h] at hr
    subst hr
    go_enter Try.func44, Try.ntmps44
    go_wp2
    refine wp_loop_rounds 4 ?_
    rw [rounds_succ]
    go_wp2
    all_goals first | (exfalso; omega) | (go_ret; exact ⟨rfl, rfl⟩)
set_option maxRecDepth 100000 in
theorem compare_calls (x y : ByteArray) (w : World) : Calls Try.prog 18 #[.string x, .string y] w fun e w' => e = .returned (.int .i64 (cmpS x y)) ∧ ∃ o, w' = w.alloc o := by
  obtain ⟨i, hi⟩ : ∃ i, cmpI x.size y.size = i := ⟨_, rfl⟩
  obtain ⟨j, hj⟩ : ∃ j, cmpL x y = j := ⟨_, rfl⟩
  have hS : cmpS x y = if i ≠ 0 then i else j := by unfold cmpS; rw [hi, hj]
  have K1 := Lib.hid (cmpI_calls x.size y.size)
  have K2 := Lib.hid (cmpL_calls x y)
  rw [hi] at K1
  rw [hj] at K2
  rw [hS]
  clear hi hj hS
  go_enter Try.func18, Try.ntmps18
  go_wp2_with (first
    | (go_at_call 45; refine (K1.out _).mono ?_; rintro e w' ⟨rfl, rfl⟩)
    | (go_at_call 46; refine (K2.out _).mono ?_; rintro e w' ⟨rfl, rfl⟩)
    | (go_at_call 44; refine (or_calls i j _ rfl w _).mono ?_; rintro e w' ⟨rfl, rfl⟩))
  all_goals (go_ret; exact ⟨rfl, _, rfl⟩)
end Go.Proofs.Ytnlcpgeapgnkgaa.H
