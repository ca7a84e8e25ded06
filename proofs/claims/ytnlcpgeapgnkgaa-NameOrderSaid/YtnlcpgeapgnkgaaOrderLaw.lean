/- The walk of NameOrder. -/
import Derived.Test.YtnlcpgeapgnkgaaLaw02
import Derived.Test.YtnlcpgeapgnkgaaRow
namespace Go.Proofs.Ytnlcpgeapgnkgaa.H
open Go.RowKit Go.Proofs.YtnlcpgeapgnkgaaW.PrintWords Go.Proofs.YtnlcpgeapgnkgaaW.PrintLast Go.Proofs.YtnlcpgeapgnkgaaW.PrintMore
set_option linter.unusedVariables false
set_option linter.unusedSimpArgs false
set_option maxHeartbeats 1000000 in
set_option maxRecDepth 100000 in
theorem nameOrder_walk (a b c : ByteArray) (w : World) (ha : a.size ≤ 140737488351232) (hb : b.size ≤ 140737488351232) (hc : c.size ≤ 140737488351232) :
    Calls Try.prog 7 #[.string a, .string b, .string c] w fun e w' => e = .returned (.bool true) ∧ Below w.heap.size w w' := by
  have K1 := fun W => compare_calls a b W
  have K2 := fun W => compare_calls b c W
  have K3 := fun W => compare_calls a c W
  have K4 := fun W => compare_calls b a W
  rw [cmpS_neg a b] at K4
  have T : cmpS a b ≤ 0 → cmpS b c ≤ 0 → cmpS a c ≤ 0 ∧ (cmpS a b < 0 → cmpS a c < 0) := cmpS_trans
  have R := cmpS_range a b
  have Z : cmpS a b = 0 ↔ a = b := cmpS_zero
  have E := eq_eq a b
  obtain ⟨x, hx⟩ : ∃ x, cmpS a b = x := ⟨_, rfl⟩
  obtain ⟨y, hy⟩ : ∃ y, cmpS b c = y := ⟨_, rfl⟩
  obtain ⟨z, hz⟩ : ∃ z, cmpS a c = z := ⟨_, rfl⟩
  rw [hx] at K1 K4 T R Z
  rw [hy] at K2 T
  rw [hz] at K3 T
  obtain ⟨r1, r2⟩ := R
  have T1 : x ≤ 0 → y ≤ 0 → z ≤ 0 := fun h1 h2 => (T h1 h2).1
  have T2 : x < 0 → y ≤ 0 → z < 0 := fun h1 h2 => (T (by omega) h2).2 h1
  have K1 := Lib.hid K1
  have K2 := Lib.hid K2
  have K3 := Lib.hid K3
  have K4 := Lib.hid K4
  have HB := Lib.hid (Below.refl w.heap.size w)
  have E0 : (a.toList == b.toList) = decide (x = 0) := by
    rw [E]
    by_cases h : x = 0
    · rw [decide_eq_true h, decide_eq_true (by rw [Z.1 h])]
    · rw [decide_eq_false h, decide_eq_false (fun e => h (Z.2 (by cases a; cases b; congr; exact Array.toList_inj.1 e)))]
  clear T Z E hx hy hz ha hb hc
  by_cases h0 : x = 0
  · subst h0
    rw [decide_eq_true rfl] at E0
    go_enter Try.func7, Try.ntmps7
    go_wp2_with (first
      | (go_at_call 18; (first | (with_reducible refine (K1.out _).mono ?_) | (with_reducible refine (K2.out _).mono ?_) | (with_reducible refine (K3.out _).mono ?_) | (with_reducible refine (K4.out _).mono ?_)); rintro e w' ⟨rfl, o, ho⟩; have n1 := Lib.hid (below_step HB.out (low_of_alloc ho)); clear ho HB; have HB := n1; clear n1)
      | (go_at_call 20; refine (lives02 _).mono ?_; rintro e w' ⟨rfl, hb⟩; have n1 := Lib.hid (below_step HB.out hb); clear hb HB; have HB := n1; clear n1))
    all_goals first | (exfalso; omega) | (go_ret; exact ⟨rfl, HB.out⟩)
  · rw [decide_eq_false h0] at E0
    go_enter Try.func7, Try.ntmps7
    go_wp2_with (first
      | (go_at_call 18; (first | (with_reducible refine (K1.out _).mono ?_) | (with_reducible refine (K2.out _).mono ?_) | (with_reducible refine (K3.out _).mono ?_) | (with_reducible refine (K4.out _).mono ?_)); rintro e w' ⟨rfl, o, ho⟩; have n1 := Lib.hid (below_step HB.out (low_of_alloc ho)); clear ho HB; have HB := n1; clear n1)
      | (go_at_call 20; refine (lives02 _).mono ?_; rintro e w' ⟨rfl, hb⟩; have n1 := Lib.hid (below_step HB.out hb); clear hb HB; have HB := n1; clear n1))
    all_goals first | (exfalso; omega) | (go_ret; exact ⟨rfl, HB.out⟩)
end Go.Proofs.Ytnlcpgeapgnkgaa.H
