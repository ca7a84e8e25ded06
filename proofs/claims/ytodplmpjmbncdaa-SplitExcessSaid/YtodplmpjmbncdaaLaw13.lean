/- The statements of layer 13: the walks of the law functions, over split's contracts. -/
import Derived.Test.YtodplmpjmbncdaaSplit
namespace Go.Proofs.Ytodplmpjmbncdaa.H
open Go.RowKit Go.Proofs.YtodplmpjmbncdaaW.PrintWords Go.Proofs.YtodplmpjmbncdaaW.PrintLast Go.Proofs.YtodplmpjmbncdaaW.PrintMore
set_option linter.unusedVariables false
set_option linter.unusedSimpArgs false

theorem below_chain {w W W' : World} (h : Below w.heap.size w W) (k : Below W.heap.size W W') : Below w.heap.size w W' := below_then h h.size k
def cfgOf (base percent : Int) : Cfg := ⟨⟨none, 0, 0⟩, 0, 0, false, 0, 0, base, percent, 0, 0, 0, 0, 0, 0, 0, 0, false, 0, ⟨none, 0, 0⟩, ⟨none, 0, 0⟩⟩
set_option maxHeartbeats 1000000 in
set_option maxRecDepth 100000 in
theorem with_calls (base percent : Int) (w : World) :
    Calls Try.prog 39 #[.int .i64 base, .int .i64 percent] w fun e w' => e = .returned (cfgOf base percent).val ∧ Below w.heap.size w w' := by
  go_enter Try.func39, Try.ntmps39
  go_wp2_with ((with_reducible refine gate_storeT 45 rfl ?_); refine wpList_store_row rfl 45 _ _ rfl _ _ rfl rfl 45 _ (heap_alloc_new _ _) (by kernel_rfl) rfl (by simp [Value.oneCell']) ?_; rw [setRow_alloc])
  exact bodyPost_ret (results_cell_row rfl _ _ _ 45 _ _ _ rfl (heap_alloc_new _ _) Try.underlying45 rfl (by kernel_rfl)) rfl ⟨rfl, below_alloc (Below.refl _ _) _⟩
set_option maxHeartbeats 1000000 in
set_option maxRecDepth 100000 in
theorem four_calls (w : World) :
    Calls Try.prog 69 #[] w fun e w' => e = .returned (cfgOf 4 25).val ∧ Below w.heap.size w w' := by
  go_enter Try.func69, Try.ntmps69
  go_wp2_with ((with_reducible refine gate_storeT 45 rfl ?_); refine wpList_store_row rfl 45 _ _ rfl _ _ rfl rfl 45 _ (heap_alloc_new _ _) (by kernel_rfl) rfl (by simp [Value.oneCell']) ?_; rw [setRow_alloc])
  exact bodyPost_ret (results_cell_row rfl _ _ _ 45 _ _ _ rfl (heap_alloc_new _ _) Try.underlying45 rfl (by kernel_rfl)) rfl ⟨rfl, below_alloc (Below.refl _ _) _⟩

def excess (desired live weight : Int) : Bool := decide (0 ≤ desired ∧ desired ≤ 65536 ∧ 1 ≤ weight ∧ weight ≤ live ∧ desired ≤ live - weight)
theorem excess_calls (d l g : Int) (w : World) (hl : l ≤ 9223372036854775807) :
    Calls Try.prog 36 #[.int .i64 d, .int .i64 l, .int .i64 g] w fun e w' => e = .returned (.bool (excess d l g)) ∧ w = w' := by
  go_enter Try.func36, Try.ntmps36
  go_wp2
  all_goals
    go_ret
    refine ⟨ret_b ?_, rfl⟩
    unfold excess
    first
      | (symm; rw [decide_eq_false_iff_not]; omega)
      | (refine decide_eq_decide.2 ?_; omega)
set_option maxHeartbeats 1000000 in
set_option maxRecDepth 100000 in
theorem radd_calls (a b : Int) (ha : inI64 a = true) (hb : inI64 b = true) (w : World) :
    Calls Try.prog 68 #[.int .i64 a, .int .i64 b] w fun e w' => e = .returned (.tuple #[.int .i64 (add a b).1, .int .i64 (add a b).2]) ∧ w = w' := by
  simp [inI64] at ha hb
  obtain ⟨a1, a2⟩ := ha
  obtain ⟨b1, b2⟩ := hb
  by_cases hh : -9223372036854775808 ≤ a + b ∧ a + b ≤ 9223372036854775807
  · rw [show add a b = (a + b, 0) by unfold add; rw [if_pos (inI64_of hh)]]
    obtain ⟨hh1, hh2⟩ := hh
    go_enter Try.func68, Try.ntmps68
    go_wp2
    all_goals first | (exfalso; omega) | (go_ret2; exact ⟨rfl, rfl⟩)
  · rw [show add a b = (0, 11) by unfold add; rw [if_neg]; simp [inI64]; omega]
    go_enter Try.func68, Try.ntmps68
    go_wp2
    all_goals first | (exfalso; omega) | (go_ret2; exact ⟨rfl, rfl⟩)
set_option maxHeartbeats 1000000 in
set_option maxRecDepth 100000 in
theorem rexcess_calls (d l g : Int) (w : World) (hd : inI64 d = true) (hg : inI64 g = true) (hl : l ≤ 9223372036854775807) :
    Calls Try.prog 37 #[.int .i64 d, .int .i64 l, .int .i64 g] w fun e w' => e = .returned (.bool (excess d l g)) ∧ w = w' := by
  have k := radd_calls d g hd hg
  have hx : excess d l g = if 0 ≤ d ∧ d ≤ 65536 ∧ 1 ≤ g then (if (add d g).2 = 0 then decide ((add d g).1 ≤ l) else false) else false := by
    unfold excess add
    simp [inI64] at hd hg
    by_cases h : 0 ≤ d ∧ d ≤ 65536 ∧ 1 ≤ g
    · rw [if_pos h]
      by_cases h2 : inI64 (d + g) = true
      · simp only [h2, if_true]
        refine decide_eq_decide.2 ?_
        omega
      · simp only [h2, if_false, Bool.false_eq_true]
        simp [inI64] at h2
        simp; omega
    · rw [if_neg h]; simp; omega
  generalize add d g = q at *
  obtain ⟨q1, q2⟩ := q
  have K := Lib.hid k
  have HX := Lib.hid hx
  clear k hx hd hg
  by_cases h : 0 ≤ d ∧ d ≤ 65536 ∧ 1 ≤ g
  · obtain ⟨h0, h1, h2⟩ := h
    go_enter Try.func37, Try.ntmps37
    go_wp2_with (go_at_call 68; refine (K.out _).mono ?_; rintro e w' ⟨rfl, rfl⟩)
    all_goals first
      | (exfalso; omega)
      | (go_ret
         refine ⟨ret_b ?_, rfl⟩
         rw [HX.out, if_pos ⟨h0, h1, h2⟩]
         simp_all)
  · go_enter Try.func37, Try.ntmps37
    go_wp2_with (go_at_call 68; refine (K.out _).mono ?_; rintro e w' ⟨rfl, rfl⟩)
    all_goals first | (exfalso; omega) | (go_ret; exact ⟨ret_b (by rw [HX.out, if_neg h]), rfl⟩)

def sleast (base percent desired p : Int) : Int := if 100 < p then 0 else if (part (sfloor base percent desired) p).2 = 0 then (part (sfloor base percent desired) p).1 else 0
theorem sfloor_range (b p d : Int) : 0 ≤ sfloor b p d ∧ sfloor b p d ≤ 65536 := by
  unfold sfloor
  split
  · rename_i h; have := split_may_iff h; omega
  · omega
set_option maxHeartbeats 1000000 in
set_option maxRecDepth 100000 in
theorem sleast_calls (c : Cfg) (desired p : Int) (hp : inI64 p = true) (w : World) :
    Calls Try.prog 70 #[c.val, .int .i64 desired, .int .i64 p] w fun e w' => e = .returned (.int .i64 (sleast c.base c.percent desired p)) ∧ Below w.heap.size w w' := by
  have kf := sfloor_calls c desired
  obtain ⟨⟨z0, n0, p0⟩, c1, c2, c3, c4, c5, c6, c7, c8, c9, c10, c11, c12, c13, c14, c15, c16, c17, ⟨z1, n1, p1⟩, ⟨z2, n2, p2⟩⟩ := c
  simp only [Cfg.val, Cfg.cells, Sl.val] at kf ⊢
  have hx : sleast c6 c7 desired p = if 100 < p then 0 else if (part (sfloor c6 c7 desired) p).2 = 0 then (part (sfloor c6 c7 desired) p).1 else 0 := rfl
  have kp := part_calls (sfloor c6 c7 desired) p (inI64_of (by have := sfloor_range c6 c7 desired; omega)) hp
  generalize sfloor c6 c7 desired = f at *
  generalize part f p = q at *
  obtain ⟨q1, q2⟩ := q
  have KF := Lib.hid kf
  have KP := Lib.hid kp
  have HX := Lib.hid hx
  have HB := Lib.hid (Below.refl w.heap.size w)
  clear kf kp hx hp
  by_cases h : 100 < p
  · go_enter Try.func70, Try.ntmps70
    go_wp2
    go_ret
    exact ⟨ret_i (by rw [HX.out, if_pos h]), (by repeat (first | exact HB.out | exact Below.refl _ _ | apply pw_below_drewN | apply below_drew | apply below_alloc))⟩
  · go_enter Try.func70, Try.ntmps70
    go_wp2_with (first | ((with_reducible refine gate_load 45 rfl ?_); refine wpList_load_row rfl 45 _ rfl _ rfl 45 _ _ _ (by exact heap_alloc_new _ _) Try.underlying45 rfl (by kernel_rfl) ?_) | (go_at_call 41; refine (KF.out _).mono ?_; rintro e w1 ⟨rfl, hb⟩; have HB' := Lib.hid (below_chain (w := w) (by repeat (first | exact HB.out | exact Below.refl _ _ | apply pw_below_drewN | apply below_drew | apply below_alloc)) hb); clear HB; have HB := HB'; clear HB'; clear hb) | (go_at_call 15; refine (KP.out _).mono ?_; rintro e w' ⟨rfl, rfl⟩))
    all_goals
      go_ret
      refine ⟨ret_i ?_, (by repeat (first | exact HB.out | exact Below.refl _ _ | apply pw_below_drewN | apply below_drew | apply below_alloc))⟩
      rw [HX.out, if_neg (by omega)]
      simp_all

set_option maxHeartbeats 2000000 in
set_option maxRecDepth 100000 in
theorem lives13 (w : World) : Calls Try.prog 38 #[] w fun e w' => e = .returned (.bool true) ∧ Below w.heap.size w w' := by
  have k1 := swant_calls (cfgOf 4 25) 10
  rw [show swant (cfgOf 4 25).base (cfgOf 4 25).percent 10 = (6, 4) by decide] at k1
  have k2 := fun w => snext_calls (cfgOf 4 25) 10 0 0 w (by decide) (by decide) (by decide) (by decide) (by decide)
  rw [show snext (cfgOf 4 25).base (cfgOf 4 25).percent 10 0 0 = (false, true) by decide] at k2
  have k3 := fun w => snext_calls (cfgOf 4 25) 10 6 2 w (by decide) (by decide) (by decide) (by decide) (by decide)
  rw [show snext (cfgOf 4 25).base (cfgOf 4 25).percent 10 6 2 = (true, true) by decide] at k3
  have k4 := fun w => snext_calls (cfgOf 4 25) 10 5 5 w (by decide) (by decide) (by decide) (by decide) (by decide)
  rw [show snext (cfgOf 4 25).base (cfgOf 4 25).percent 10 5 5 = (false, false) by decide] at k4
  have k5 := sfloor_calls (cfgOf 4 25) 3
  rw [show sfloor (cfgOf 4 25).base (cfgOf 4 25).percent 3 = 3 by decide] at k5
  have k6 := sleast_calls (cfgOf 4 25) 10 60 (by decide)
  rw [show sleast (cfgOf 4 25).base (cfgOf 4 25).percent 10 60 = 3 by
    unfold sleast
    rw [if_neg (by omega), show sfloor (cfgOf 4 25).base (cfgOf 4 25).percent 10 = 4 by decide, (part_small (n := 4) (p := 60) (by omega) (by omega)).1]
    decide] at k6
  have k7 := fun w => excess_calls 10 12 2 w (by decide)
  rw [show excess 10 12 2 = true by decide] at k7
  have k8 := fun w => excess_calls 10 11 2 w (by decide)
  rw [show excess 10 11 2 = false by decide] at k8
  have k0 := four_calls
  simp only [Cfg.val, Cfg.cells, Sl.val, cfgOf] at k0 k1 k2 k3 k4 k5 k6
  have K0 := Lib.hid k0
  have K1 := Lib.hid k1
  have K2 := Lib.hid k2
  have K3 := Lib.hid k3
  have K4 := Lib.hid k4
  have K5 := Lib.hid k5
  have K6 := Lib.hid k6
  have K7 := Lib.hid k7
  have K8 := Lib.hid k8
  have HB := Lib.hid (Below.refl w.heap.size w)
  clear k0 k1 k2 k3 k4 k5 k6 k7 k8
  go_enter Try.func38, Try.ntmps38
  go_wp2_with (first
    | (go_at_call 69; refine (K0.out _).mono ?_; rintro e w1 ⟨rfl, hb⟩; have HB' := Lib.hid (below_chain (w := w) (by repeat (first | exact HB.out | exact Below.refl _ _ | apply pw_below_drewN | apply below_drew | apply below_alloc)) hb); clear HB; have HB := HB'; clear HB'; clear hb) | (go_at_call 40; refine (K1.out _).mono ?_; rintro e w1 ⟨rfl, hb⟩; have HB' := Lib.hid (below_chain (w := w) (by repeat (first | exact HB.out | exact Below.refl _ _ | apply pw_below_drewN | apply below_drew | apply below_alloc)) hb); clear HB; have HB := HB'; clear HB'; clear hb) | (go_at_call 42; (first | (with_reducible refine (K2.out _).mono ?_) | (with_reducible refine (K3.out _).mono ?_) | (with_reducible refine (K4.out _).mono ?_)); rintro e w1 ⟨rfl, hb⟩; have HB' := Lib.hid (below_chain (w := w) (by repeat (first | exact HB.out | exact Below.refl _ _ | apply pw_below_drewN | apply below_drew | apply below_alloc)) hb); clear HB; have HB := HB'; clear HB'; clear hb)
    | (go_at_call 41; refine (K5.out _).mono ?_; rintro e w1 ⟨rfl, hb⟩; have HB' := Lib.hid (below_chain (w := w) (by repeat (first | exact HB.out | exact Below.refl _ _ | apply pw_below_drewN | apply below_drew | apply below_alloc)) hb); clear HB; have HB := HB'; clear HB'; clear hb) | (go_at_call 70; refine (K6.out _).mono ?_; rintro e w1 ⟨rfl, hb⟩; have HB' := Lib.hid (below_chain (w := w) (by repeat (first | exact HB.out | exact Below.refl _ _ | apply pw_below_drewN | apply below_drew | apply below_alloc)) hb); clear HB; have HB := HB'; clear HB'; clear hb) | (go_at_call 36; (first | (with_reducible refine (K7.out _).mono ?_) | (with_reducible refine (K8.out _).mono ?_)); rintro e w' ⟨rfl, rfl⟩))
  go_ways
  go_ret
  exact ⟨rfl, (by repeat (first | exact HB.out | exact Below.refl _ _ | apply pw_below_drewN | apply below_drew | apply below_alloc))⟩

set_option maxHeartbeats 1000000 in
set_option maxRecDepth 100000 in
theorem splitExcess_walk (d l g : Int) (w : World) (hd : (Lit.int .i64 d).wf = true) (hl : (Lit.int .i64 l).wf = true) (hg : (Lit.int .i64 g).wf = true) :
    Calls Try.prog 11 #[.int .i64 d, .int .i64 l, .int .i64 g] w fun e w' => e = .returned (.bool true) ∧ Below w.heap.size w w' := by
  have k1 := fun w => excess_calls d l g w (bd_i64 hl).2
  have k2 := fun w => rexcess_calls d l g w (inI64_of (bd_i64 hd)) (inI64_of (bd_i64 hg)) (bd_i64 hl).2
  generalize excess d l g = b at *
  have K1 := Lib.hid k1
  have K2 := Lib.hid k2
  have HB := Lib.hid (Below.refl w.heap.size w)
  clear k1 k2 hd hl hg
  cases b
  all_goals
    go_enter Try.func11, Try.ntmps11
    go_wp2_with (first | (go_at_call 36; refine (K1.out _).mono ?_; rintro e w' ⟨rfl, rfl⟩) | (go_at_call 37; refine (K2.out _).mono ?_; rintro e w' ⟨rfl, rfl⟩) | (go_at_call 38; refine (lives13 _).mono ?_; rintro e w1 ⟨rfl, hb⟩; have HB' := Lib.hid (below_chain (w := w) (by repeat (first | exact HB.out | exact Below.refl _ _ | apply pw_below_drewN | apply below_drew | apply below_alloc)) hb); clear HB; have HB := HB'; clear HB'; clear hb))
    go_ret
    exact ⟨rfl, (by repeat (first | exact HB.out | exact Below.refl _ _ | apply pw_below_drewN | apply below_drew | apply below_alloc))⟩
end Go.Proofs.Ytodplmpjmbncdaa.H
