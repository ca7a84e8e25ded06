/- The walk of NameTells. -/
import Derived.Test.YtnlcpgeapgnkgaaLaw02
import Derived.Test.YtnlcpgeapgnkgaaTells
import Derived.Test.YtnlcpgeapgnkgaaRow
namespace Go.Proofs.Ytnlcpgeapgnkgaa.H
open Go.RowKit Go.Proofs.YtnlcpgeapgnkgaaW.PrintWords Go.Proofs.YtnlcpgeapgnkgaaW.PrintLast Go.Proofs.YtnlcpgeapgnkgaaW.PrintMore
set_option linter.unusedVariables false
set_option linter.unusedSimpArgs false
theorem low_of_drew {w w' : World} {q : Nat} (h : w' = w.drewN q) : Below w.heap.size w w' := by rw [h]; exact quiet_below q
set_option maxHeartbeats 1000000 in
set_option maxRecDepth 100000 in
theorem nameTells_walk (a b : ByteArray) (w : World) (ha : a.size ≤ 140737488351232) (hb : b.size ≤ 140737488351232) :
    Calls Try.prog 5 #[.string a, .string b] w fun e w' => e = .returned (.bool true) ∧ Below w.heap.size w w' := by
  have K1 := fun W => is_calls a W
  have K2 := fun W => refis_calls a W ha
  have K3 := fun W => compare_calls a b W
  have K4 := fun W => refcompare_calls a b W ha hb
  obtain ⟨x, hx⟩ : ∃ x, isL (strN a) = x := ⟨_, rfl⟩
  obtain ⟨y, hy⟩ : ∃ y, cmpS a b = y := ⟨_, rfl⟩
  rw [hx] at K1 K2
  rw [hy] at K3 K4
  have K1 := Lib.hid K1
  have K2 := Lib.hid K2
  have K3 := Lib.hid K3
  have K4 := Lib.hid K4
  have HB := Lib.hid (Below.refl w.heap.size w)
  clear ha hb hx hy
  go_enter Try.func5, Try.ntmps5
  go_wp2_with (first
    | (go_at_call 16; refine (K1.out _).mono ?_; rintro e w' ⟨rfl, hb⟩; have n1 := Lib.hid (below_step HB.out hb); clear hb HB; have HB := n1; clear n1)
    | (go_at_call 17; refine (K2.out _).mono ?_; rintro e w' ⟨rfl, rfl⟩)
    | (go_at_call 18; refine (K3.out _).mono ?_; rintro e w' ⟨rfl, o, ho⟩; have n1 := Lib.hid (below_step HB.out (low_of_alloc ho)); clear ho HB; have HB := n1; clear n1)
    | (go_at_call 19; refine (K4.out _).mono ?_; rintro e w' ⟨rfl, q, hq⟩; have n1 := Lib.hid (below_step HB.out (low_of_drew hq)); clear hq HB; have HB := n1; clear n1)
    | (go_at_call 20; refine (lives02 _).mono ?_; rintro e w' ⟨rfl, hb⟩; have n1 := Lib.hid (below_step HB.out hb); clear hb HB; have HB := n1; clear n1))
  all_goals first | (exfalso; omega) | (go_ret; exact ⟨rfl, HB.out⟩)
end Go.Proofs.Ytnlcpgeapgnkgaa.H
