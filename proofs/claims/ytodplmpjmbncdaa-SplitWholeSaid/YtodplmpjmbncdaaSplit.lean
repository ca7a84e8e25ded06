/- Package split: floors, what is wanted, what is next. -/
import Derived.Test.YtodplmpjmbncdaaCfg
import Derived.Test.YtodplmpjmbncdaaLaw01
namespace Go.Proofs.Ytodplmpjmbncdaa.H
open Go.RowKit Go.Proofs.YtodplmpjmbncdaaW.PrintWords Go.Proofs.YtodplmpjmbncdaaW.PrintLast Go.Proofs.YtodplmpjmbncdaaW.PrintMore
set_option linter.unusedVariables false
set_option linter.unusedSimpArgs false

def sfloor (base percent desired : Int) : Int := if split_may base percent desired then min desired base else 0
set_option maxHeartbeats 2000000 in
set_option maxRecDepth 100000 in
theorem sfloor_calls (c : Cfg) (desired : Int) (w : World) :
    Calls Try.prog 41 #[c.val, .int .i64 desired] w fun e w' => e = .returned (.int .i64 (sfloor c.base c.percent desired)) ∧ Below w.heap.size w w' := by
  have k := split_may_calls c desired
  obtain ⟨⟨s0, n0, p0⟩, c1, c2, c3, c4, c5, c6, c7, c8, c9, c10, c11, c12, c13, c14, c15, c16, c17, ⟨s1, n1, p1⟩, ⟨s2, n2, p2⟩⟩ := c
  simp only [Cfg.val, Cfg.cells, Sl.val] at k ⊢
  have hm : sfloor c6 c7 desired = if split_may c6 c7 desired then min desired c6 else 0 := rfl
  generalize split_may c6 c7 desired = b at *
  have K := Lib.hid k
  have HM := Lib.hid hm
  clear k hm
  cases b
  all_goals
    go_enter Try.func41, Try.ntmps41
    go_wp2_with (first
      | (refine wpList_load_row rfl 45 _ rfl _ rfl 45 _ _ _ (heap_alloc_new _ _) Try.underlying45 rfl (by kernel_rfl) ?_)
      | (go_at_call 71; refine (K.out _).mono ?_; rintro e w1 ⟨rfl, hb⟩; obtain ⟨hc, hf⟩ := bcell hb))
    go_ret
    exact ⟨by rw [HM.out]; rfl, below_then (below_alloc (Below.refl _ _) _) (by simp) hb⟩

/-- How much of the capacity is wanted on demand, where the numbers may be. -/
def sdemand (base percent desired : Int) : Int := min desired base + -((-((desired - min desired base) * percent)) / 100)
def swant (base percent desired : Int) : Int × Int := if split_may base percent desired then (sdemand base percent desired, desired - sdemand base percent desired) else (0, 0)
theorem split_may_iff {base percent desired : Int} (h : split_may base percent desired = true) : 0 ≤ desired ∧ desired ≤ 65536 ∧ 0 ≤ base ∧ base ≤ 65536 ∧ 0 ≤ percent ∧ percent ≤ 100 := by simpa [split_may] using h
theorem inI64_of {n : Int} (h : -9223372036854775808 ≤ n ∧ n ≤ 9223372036854775807) : inI64 n = true := by simp [inI64, h.1, h.2]
set_option maxHeartbeats 2000000 in
set_option maxRecDepth 100000 in
theorem swant_calls (c : Cfg) (desired : Int) (w : World) :
    Calls Try.prog 40 #[c.val, .int .i64 desired] w fun e w' => e = .returned (.tuple #[.int .i64 (swant c.base c.percent desired).1, .int .i64 (swant c.base c.percent desired).2]) ∧ Below w.heap.size w w' := by
  have k := split_may_calls c desired
  have kf := sfloor_calls c desired
  obtain ⟨⟨s0, n0, p0⟩, c1, c2, c3, c4, c5, c6, c7, c8, c9, c10, c11, c12, c13, c14, c15, c16, c17, ⟨s1, n1, p1⟩, ⟨s2, n2, p2⟩⟩ := c
  simp only [Cfg.val, Cfg.cells, Sl.val] at k kf ⊢
  by_cases hb : split_may c6 c7 desired = true
  · obtain ⟨h1, h2, h3, h4, h5, h6⟩ := split_may_iff hb
    rw [show sfloor c6 c7 desired = min desired c6 by simp [sfloor, hb]] at kf
    rw [show swant c6 c7 desired = (sdemand c6 c7 desired, desired - sdemand c6 c7 desired) by simp [swant, hb]]
    rw [hb] at k
    unfold sdemand
    obtain ⟨f, hf⟩ : ∃ f, min desired c6 = f := ⟨_, rfl⟩
    rw [hf] at kf ⊢
    have f0 : 0 ≤ f := by omega
    have f1 : f ≤ desired := by omega
    obtain ⟨e1, g1, g2⟩ := part_small (n := desired - f) (p := c7) (by omega) (by omega)
    have kp := part_calls (desired - f) c7 (inI64_of (by omega)) (inI64_of (by omega))
    rw [e1] at kp
    obtain ⟨d, hd⟩ : ∃ d, -(-((desired - f) * c7) / 100) = d := ⟨_, rfl⟩
    rw [hd] at kp ⊢
    have d0 : 0 ≤ d := by omega
    have d1 : d ≤ 65536 := by omega
    have K := Lib.hid k
    have KF := Lib.hid kf
    have KP := Lib.hid kp
    clear k kf kp e1 g1 g2 hd hf hb h3 h4 h5 h6
    go_enter Try.func40, Try.ntmps40
    go_wp2_with (first
      | (refine wpList_load_row rfl 45 _ rfl _ rfl 45 _ _ _ (by first | exact heap_alloc_new _ _ | assumption) Try.underlying45 rfl (by kernel_rfl) ?_)
      | (go_at_call 71; refine (K.out _).mono ?_; rintro e w1 ⟨rfl, hb⟩; have hx := (hb.block w.heap.size (by simp)).trans (heap_alloc_new w _); have hy := fun j => cell_of_row w1 w.heap.size j _ _ _ hx)
      | (go_at_call 41; refine (KF.out _).mono ?_; rintro e w2 ⟨rfl, hb2⟩; have hx2 := (hb2.block w.heap.size (by have := hb.size; simp at this; omega)).trans hx; have hy2 := fun j => cell_of_row w2 w.heap.size j _ _ _ hx2)
      | (go_at_call 15; refine (KP.out _).mono ?_; rintro e w3 ⟨rfl, rfl⟩))
    go_ret2
    exact ⟨rfl, below_then (below_then (below_alloc (Below.refl _ _) _) (by simp) hb) (by have := hb.size; simp at this; omega) hb2⟩
  · rw [Bool.not_eq_true] at hb
    rw [show swant c6 c7 desired = (0, 0) by simp [swant, hb]]
    rw [hb] at k
    have K := Lib.hid k
    clear k kf hb
    go_enter Try.func40, Try.ntmps40
    go_wp2_with (first
      | (refine wpList_load_row rfl 45 _ rfl _ rfl 45 _ _ _ (by first | exact heap_alloc_new _ _ | assumption) Try.underlying45 rfl (by kernel_rfl) ?_)
      | (go_at_call 71; refine (K.out _).mono ?_; rintro e w1 ⟨rfl, hb⟩))
    go_ret2
    exact ⟨rfl, below_then (below_alloc (Below.refl _ _) _) (by simp) hb⟩

/-- What is next, where the numbers may be. -/
def snext (base percent desired demand spot : Int) : Bool × Bool :=
  if desired ≤ demand + spot then (false, false)
  else ((decide (0 < (swant base percent desired).2) && decide ((swant base percent desired).1 ≤ demand)) || (percent == 0 && decide (sfloor base percent desired ≤ demand)), true)
set_option maxHeartbeats 4000000 in
set_option maxRecDepth 100000 in
theorem snext_calls (c : Cfg) (desired demand spot : Int) (w : World) (hb : split_may c.base c.percent desired = true) (d0 : 0 ≤ demand) (d1 : demand ≤ 1099511627776) (s0 : 0 ≤ spot) (s1 : spot ≤ 1099511627776) :
    Calls Try.prog 42 #[c.val, .int .i64 desired, .int .i64 demand, .int .i64 spot] w fun e w' => e = .returned (.tuple #[.bool (snext c.base c.percent desired demand spot).1, .bool (snext c.base c.percent desired demand spot).2]) ∧ Below w.heap.size w w' := by
  have k := split_may_calls c desired
  have kf := sfloor_calls c desired
  have kw := swant_calls c desired
  obtain ⟨⟨z0, n0, p0⟩, c1, c2, c3, c4, c5, c6, c7, c8, c9, c10, c11, c12, c13, c14, c15, c16, c17, ⟨z1, n1, p1⟩, ⟨z2, n2, p2⟩⟩ := c
  simp only [Cfg.val, Cfg.cells, Sl.val] at k kf kw hb ⊢
  have hsn : snext c6 c7 desired demand spot = if desired ≤ demand + spot then (false, false)
    else ((decide (0 < (swant c6 c7 desired).2) && decide ((swant c6 c7 desired).1 ≤ demand)) || (c7 == 0 && decide (sfloor c6 c7 desired ≤ demand)), true) := rfl
  rw [hb] at k
  clear hb
  generalize sfloor c6 c7 desired = f at *
  generalize swant c6 c7 desired = q at *
  obtain ⟨q1, q2⟩ := q
  have K := Lib.hid k
  have KF := Lib.hid kf
  have KW := Lib.hid kw
  clear k kf kw
  by_cases hs : desired ≤ demand + spot
  · rw [if_pos hs] at hsn
    have HS := Lib.hid hsn
    clear hsn
    go_enter Try.func42, Try.ntmps42
    go_wp2_with (first | ((with_reducible refine gate_load 45 rfl ?_); refine wpList_load_row rfl 45 _ rfl _ rfl 45 _ _ _ (by first | exact heap_alloc_new _ _ | exact HX.out) Try.underlying45 rfl (by kernel_rfl) ?_) | (go_at_call 71; refine (K.out _).mono ?_; rintro e w1 ⟨rfl, hb⟩; have HX := Lib.hid ((hb.block w.heap.size (by simp)).trans (heap_alloc_new w _)); have HB := Lib.hid (below_then (below_alloc (Below.refl _ _) _) (by simp) hb); have sz : w.heap.size < w1.heap.size := (by have := hb.size; simp at this; omega); clear hb))
    all_goals first | (exfalso; omega) | (go_ret2; exact ⟨ret_bb (congrArg Prod.fst HS.out).symm (congrArg Prod.snd HS.out).symm, HB.out⟩)
  · rw [if_neg hs] at hsn
    have HS := Lib.hid hsn
    clear hsn
    by_cases h1 : 0 < q2 ∧ q1 ≤ demand
    · obtain ⟨h1, h2⟩ := h1
      go_enter Try.func42, Try.ntmps42
      go_wp2_with (first | ((with_reducible refine gate_load 45 rfl ?_); refine wpList_load_row rfl 45 _ rfl _ rfl 45 _ _ _ (by first | exact heap_alloc_new _ _ | exact HX.out) Try.underlying45 rfl (by kernel_rfl) ?_) | (go_at_call 71; refine (K.out _).mono ?_; rintro e w1 ⟨rfl, hb⟩; have HX := Lib.hid ((hb.block w.heap.size (by simp)).trans (heap_alloc_new w _)); have HB := Lib.hid (below_then (below_alloc (Below.refl _ _) _) (by simp) hb); have sz : w.heap.size < w1.heap.size := (by have := hb.size; simp at this; omega); clear hb) | (go_at_call 40; refine (KW.out _).mono ?_; rintro e w2 ⟨rfl, hb2⟩; have HX2 := Lib.hid ((hb2.block w.heap.size sz).trans HX.out); have HB2 := Lib.hid (below_then HB.out (by omega) hb2); have sz2 : w.heap.size < w2.heap.size := (by have := hb2.size; omega); clear hb2 sz; have hc := cell_of_row w2 w.heap.size 7 _ _ _ HX2.out; simp at hc))
      all_goals first | (exfalso; omega) | (go_ret2; exact ⟨ret_bb (by rw [HS.out]; simp [h1, h2]) (congrArg Prod.snd HS.out).symm, HB2.out⟩)
    · have h5 : (decide (0 < q2) && decide (q1 ≤ demand)) = false := by simp; omega
      rw [h5, Bool.false_or] at HS
      clear h5
      by_cases h3 : c7 = 0
      · have h4 : (c7 == 0) = true := by simpa using h3
        rw [h4, Bool.true_and] at HS
        clear h3
        rcases (by omega : (0 < q2 ∧ demand < q1) ∨ q2 ≤ 0) with ⟨h6, h7⟩ | h6
        all_goals
          go_enter Try.func42, Try.ntmps42
          go_wp2_with (first | ((with_reducible refine gate_load 45 rfl ?_); refine wpList_load_row rfl 45 _ rfl _ rfl 45 _ _ _ (by first | exact heap_alloc_new _ _ | exact HX.out) Try.underlying45 rfl (by kernel_rfl) ?_) | ((with_reducible refine gate_load 45 rfl ?_); refine load_row_g (by rfl) 45 _ rfl _ rfl 45 _ _ _ (by exact HX2.out) Try.underlying45 rfl (by kernel_rfl) ?_) | (go_at_call 71; refine (K.out _).mono ?_; rintro e w1 ⟨rfl, hb⟩; have HX := Lib.hid ((hb.block w.heap.size (by simp)).trans (heap_alloc_new w _)); have HB := Lib.hid (below_then (below_alloc (Below.refl _ _) _) (by simp) hb); have sz : w.heap.size < w1.heap.size := (by have := hb.size; simp at this; omega); clear hb) | (go_at_call 40; refine (KW.out _).mono ?_; rintro e w2 ⟨rfl, hb2⟩; have HX2 := Lib.hid ((hb2.block w.heap.size sz).trans HX.out); have HB2 := Lib.hid (below_then HB.out (by omega) hb2); have sz2 : w.heap.size < w2.heap.size := (by have := hb2.size; omega); clear hb2 sz; have hc := cell_of_row w2 w.heap.size 7 _ _ _ HX2.out; simp at hc) | (go_at_call 41; refine (KF.out _).mono ?_; rintro e w3 ⟨rfl, hb3⟩; have HB3 := Lib.hid (below_then HB2.out (by omega) hb3); clear hb3))
          all_goals first | (exfalso; omega) | (go_ret2; exact ⟨ret_bb (congrArg Prod.fst HS.out).symm (congrArg Prod.snd HS.out).symm, HB3.out⟩)
      · have h4 : (c7 == 0) = false := by simpa using h3
        rw [h4, Bool.false_and] at HS
        clear h3
        rcases (by omega : (0 < q2 ∧ demand < q1) ∨ q2 ≤ 0) with ⟨h6, h7⟩ | h6
        all_goals
          go_enter Try.func42, Try.ntmps42
          go_wp2_with (first | ((with_reducible refine gate_load 45 rfl ?_); refine wpList_load_row rfl 45 _ rfl _ rfl 45 _ _ _ (by first | exact heap_alloc_new _ _ | exact HX.out) Try.underlying45 rfl (by kernel_rfl) ?_) | (go_at_call 71; refine (K.out _).mono ?_; rintro e w1 ⟨rfl, hb⟩; have HX := Lib.hid ((hb.block w.heap.size (by simp)).trans (heap_alloc_new w _)); have HB := Lib.hid (below_then (below_alloc (Below.refl _ _) _) (by simp) hb); have sz : w.heap.size < w1.heap.size := (by have := hb.size; simp at this; omega); clear hb) | (go_at_call 40; refine (KW.out _).mono ?_; rintro e w2 ⟨rfl, hb2⟩; have HX2 := Lib.hid ((hb2.block w.heap.size sz).trans HX.out); have HB2 := Lib.hid (below_then HB.out (by omega) hb2); have sz2 : w.heap.size < w2.heap.size := (by have := hb2.size; omega); clear hb2 sz; have hc := cell_of_row w2 w.heap.size 7 _ _ _ HX2.out; simp at hc))
          all_goals first | (exfalso; omega) | (go_ret2; exact ⟨ret_bb (congrArg Prod.fst HS.out).symm (congrArg Prod.snd HS.out).symm, HB2.out⟩)
end Go.Proofs.Ytodplmpjmbncdaa.H
