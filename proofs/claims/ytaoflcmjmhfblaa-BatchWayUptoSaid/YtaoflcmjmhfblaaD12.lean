-- Printed by a program of this seat's (gprint.py) out of the translation. Not trusted: Lean checks it.
import Derived.Test.YtaoflcmjmhfblaaD0
import Derived.Test.YtaoflcmjmhfblaaD1
import Derived.Test.YtaoflcmjmhfblaaD3
import Derived.Test.YtaoflcmjmhfblaaBaApp
import Derived.Test.YtaoflcmjmhfblaaBaFind
import Derived.Test.YtaoflcmjmhfblaaBaLives
import Derived.Test.YtaoflcmjmhfblaaBaMay
namespace Go.Proofs.Ytaoflcmjmhfblaa.D
open Go.RowKit Go.Proofs.YtaoflcmjmhfblaaW.PrintWords Go.Proofs.YtaoflcmjmhfblaaW.PrintLast Go.Proofs.YtaoflcmjmhfblaaW.PrintMore
attribute [local go_sem] max2_int min2_int max_two min_two max_three min_three max_four min_four   -- for this text's walks alone
set_option linter.unusedVariables false
set_option linter.unusedSimpArgs false

/-! ### cohortlaw09_BatchWay: function 10 -/
mutual
def cohortlaw09_BatchWay.j0 : Nat → List (S161) → List (S161) → List (S96) → Int → Bool → Option (Bool)
  | 0, _, _, _, _, _ => none
  | k + 1, x0, x1, x5, x6, x27 => if x27 = true then (if x6 = 2 then (if (x5.length : Int) = 0 then ((cohortlaw09_lives.f).bind fun t293 => (some t293)) else (some false)) else (some false)) else ((batch_Apply.f x0 x5).bind fun bt294 => ((batch_Between.f x1 x1).bind fun bt298 => (if x6 = 0 then (if bt294.2 = 0 then (if bt298.2 = 0 then ((cohortref00_Rows.f k bt294.1 x1).bind fun t302 => (if t302 = true then (cohortlaw09_BatchWay.j1 k x0 x5 ((bt298.1.length : Int) != 0)) else (cohortlaw09_BatchWay.j1 k x0 x5 true))) else (cohortlaw09_BatchWay.j1 k x0 x5 true)) else (cohortlaw09_BatchWay.j1 k x0 x5 true)) else (cohortlaw09_BatchWay.j1 k x0 x5 true))))
def cohortlaw09_BatchWay.j1 : Nat → List (S161) → List (S96) → Bool → Option (Bool)
  | 0, _, _, _ => none
  | k + 1, x0, x5, x70 => if x70 = true then (some false) else (cohortlaw09_BatchWay.l0 k x0 x5 0)
def cohortlaw09_BatchWay.l0 : Nat → List (S161) → List (S96) → Int → Option (Bool)
  | 0, _, _, _ => none
  | k + 1, x0, x5, x11 => if x11 < (x5.length : Int) then (if 0 ≤ x11 then ((batch_Find.f x0 ((rd_T96 x5 x11).f0)).bind fun bt305 => (if (rd_T96 x5 x11).f2 = true then (if bt305.2 = true then (if ((rd_T96 x5 x11).f2 = true) then (cohortlaw09_BatchWay.l0 k x0 x5 (wrap64 (x11 + 1))) else ((cohortref00_Same.f bt305.1 ((rd_T96 x5 x11).f1)).bind fun t312 => (if t312 = true then (some false) else (cohortlaw09_BatchWay.l0 k x0 x5 (wrap64 (x11 + 1)))))) else (some false)) else (if ((rd_T96 x5 x11).f2 = true) then (cohortlaw09_BatchWay.l0 k x0 x5 (wrap64 (x11 + 1))) else (if bt305.2 = true then ((cohortref00_Same.f bt305.1 ((rd_T96 x5 x11).f1)).bind fun t315 => (if t315 = true then (some false) else (cohortlaw09_BatchWay.l0 k x0 x5 (wrap64 (x11 + 1))))) else (cohortlaw09_BatchWay.l0 k x0 x5 (wrap64 (x11 + 1))))))) else (none)) else ((cohortlaw09_lives.f).bind fun t303 => (some t303))
end
def cohortlaw09_BatchWay.f (k : Nat) (l0 : List (S161)) (l1 : List (S161)) : Option (Bool) := (batch_Between.f l0 l1).bind fun bt287 => ((batch_May.f l0).bind fun t291 => (if t291 = true then ((batch_May.f l1).bind fun t292 => (cohortlaw09_BatchWay.j0 k l0 l1 bt287.1 bt287.2 (!t292))) else (cohortlaw09_BatchWay.j0 k l0 l1 bt287.1 bt287.2 true)))
theorem cohortlaw09_BatchWay.mono_l : ∀ k, (∀ y0 y1 y2 y3 y4, LeO (cohortlaw09_BatchWay.j0 k y0 y1 y2 y3 y4) (cohortlaw09_BatchWay.j0 (k + 1) y0 y1 y2 y3 y4)) ∧ (∀ y0 y1 y2, LeO (cohortlaw09_BatchWay.j1 k y0 y1 y2) (cohortlaw09_BatchWay.j1 (k + 1) y0 y1 y2)) ∧ (∀ y0 y1 y2, LeO (cohortlaw09_BatchWay.l0 k y0 y1 y2) (cohortlaw09_BatchWay.l0 (k + 1) y0 y1 y2))
  | 0 => ⟨fun _ _ _ _ _ r h => by simp [cohortlaw09_BatchWay.j0] at h, fun _ _ _ r h => by simp [cohortlaw09_BatchWay.j1] at h, fun _ _ _ r h => by simp [cohortlaw09_BatchWay.l0] at h⟩
  | k + 1 => by
    obtain ⟨ih0, ih1, ih2⟩ := cohortlaw09_BatchWay.mono_l k
    refine ⟨?_, ?_, ?_⟩
    · intro y0 y1 y2 y3 y4
      unfold cohortlaw09_BatchWay.j0
      repeat' first
      | (with_reducible exact ih0 _ _ _ _ _)
      | (with_reducible exact ih1 _ _ _)
      | (with_reducible exact ih2 _ _ _)
      | (with_reducible exact cohortref00_Rows.mono _ _ _)
      | (with_reducible exact LeO.refl _)
      | (with_reducible exact LeO.none _)
      | (with_reducible refine LeO.ite ?_ ?_)
      | (with_reducible refine LeO.bind ?_ (fun _ => ?_))
      | exact ih0 _ _ _ _ _
      | exact ih1 _ _ _
      | exact ih2 _ _ _
      | exact cohortref00_Rows.mono _ _ _
      | exact LeO.none _
      | refine LeO.ite ?_ ?_
      | refine LeO.bind ?_ (fun _ => ?_)
    · intro y0 y1 y2
      unfold cohortlaw09_BatchWay.j1
      repeat' first
      | (with_reducible exact ih0 _ _ _ _ _)
      | (with_reducible exact ih1 _ _ _)
      | (with_reducible exact ih2 _ _ _)
      | (with_reducible exact cohortref00_Rows.mono _ _ _)
      | (with_reducible exact LeO.refl _)
      | (with_reducible exact LeO.none _)
      | (with_reducible refine LeO.ite ?_ ?_)
      | (with_reducible refine LeO.bind ?_ (fun _ => ?_))
      | exact ih0 _ _ _ _ _
      | exact ih1 _ _ _
      | exact ih2 _ _ _
      | exact cohortref00_Rows.mono _ _ _
      | exact LeO.none _
      | refine LeO.ite ?_ ?_
      | refine LeO.bind ?_ (fun _ => ?_)
    · intro y0 y1 y2
      unfold cohortlaw09_BatchWay.l0
      repeat' first
      | (with_reducible exact ih0 _ _ _ _ _)
      | (with_reducible exact ih1 _ _ _)
      | (with_reducible exact ih2 _ _ _)
      | (with_reducible exact cohortref00_Rows.mono _ _ _)
      | (with_reducible exact LeO.refl _)
      | (with_reducible exact LeO.none _)
      | (with_reducible refine LeO.ite ?_ ?_)
      | (with_reducible refine LeO.bind ?_ (fun _ => ?_))
      | exact ih0 _ _ _ _ _
      | exact ih1 _ _ _
      | exact ih2 _ _ _
      | exact cohortref00_Rows.mono _ _ _
      | exact LeO.none _
      | refine LeO.ite ?_ ?_
      | refine LeO.bind ?_ (fun _ => ?_)
theorem cohortlaw09_BatchWay.mono : ∀ a0 a1 k, LeO (cohortlaw09_BatchWay.f k a0 a1) (cohortlaw09_BatchWay.f (k + 1) a0 a1) := by
  intro a0 a1 k
  obtain ⟨ih0, ih1, ih2⟩ := cohortlaw09_BatchWay.mono_l k
  unfold cohortlaw09_BatchWay.f
  repeat' first
      | (with_reducible exact ih0 _ _ _ _ _)
      | (with_reducible exact ih1 _ _ _)
      | (with_reducible exact ih2 _ _ _)
      | (with_reducible exact cohortref00_Rows.mono _ _ _)
      | (with_reducible exact LeO.refl _)
      | (with_reducible exact LeO.none _)
      | (with_reducible refine LeO.ite ?_ ?_)
      | (with_reducible refine LeO.bind ?_ (fun _ => ?_))
      | exact ih0 _ _ _ _ _
      | exact ih1 _ _ _
      | exact ih2 _ _ _
      | exact cohortref00_Rows.mono _ _ _
      | exact LeO.none _
      | refine LeO.ite ?_ ?_
      | refine LeO.bind ?_ (fun _ => ?_)
set_option maxHeartbeats 8000000 in
set_option maxRecDepth 100000 in
theorem cohortlaw09_BatchWay.calls (k : Nat) (A0 : Option Addr) (c0 : Nat) (l0 : List (S161)) (A1 : Option Addr) (c1 : Nat) (l1 : List (S161)) (r : Bool) (w : World) (hr0 : Kd.C k161 w A0 l0.length l0) (hc0 : l0.length ≤ c0) (hr1 : Kd.C k161 w A1 l1.length l1) (hc1 : l1.length ≤ c1) (h : cohortlaw09_BatchWay.f k l0 l1 = some r) :
    Calls Try.prog 10 #[.slice A0 l0.length c0, .slice A1 l1.length c1] w fun e w' => e = .returned (.bool r) ∧ Below w.heap.size w w' := by
  have HR0 := Aside0.mk hr0
  have HC0 := Aside0.mk hc0
  clear hr0 hc0
  have HR1 := Aside0.mk hr1
  have HC1 := Aside0.mk hc1
  clear hr1 hc1
  have HB := Aside0.mk (Below.refl w.heap.size w)
  have H : ((batch_Between.f l0 l1).bind fun bt287 => ((batch_May.f l0).bind fun t291 => (if t291 = true then ((batch_May.f l1).bind fun t292 => (cohortlaw09_BatchWay.j0 k l0 l1 bt287.1 bt287.2 (!t292))) else (cohortlaw09_BatchWay.j0 k l0 l1 bt287.1 bt287.2 true)))) = some r := h
  clear h
  replace H := Option.bind_eq_some_iff.mp H
  obtain ⟨⟨t287, t288⟩, A30, H⟩ := H
  replace H : ((batch_May.f l0).bind fun t291 => (if t291 = true then ((batch_May.f l1).bind fun t292 => (cohortlaw09_BatchWay.j0 k l0 l1 t287 t288 (!t292))) else (cohortlaw09_BatchWay.j0 k l0 l1 t287 t288 true))) = some r := H
  have A3 := Aside0.mk A30
  clear A30
  have HC4 := Aside0.mk H
  clear H
  go_enter Try.func10, Try.ntmps10
  go_upto_region 2 with (first | ((with_reducible refine gate_callee (f := 41) rfl ?_); refine goesL_ (some 17) rfl rfl Try.func41 (by kernel_rfl) rfl #[.slice A0 l0.length c0, .slice A1 l1.length c1] rfl (by (try simp only [List.map_toArray, List.map_cons, List.map_nil]); first | done | rfl | (simp only [List.length_drop, List.length_take]; rfl)) ?_; (with_reducible refine (batch_Between.calls _ _ l0 _ _ l1 t287 t288 _ ?side1 ?side2 ?side3 ?side4 A3.out).mono ?_); (case side1 => repeat (first | exact HR0.out | (with_reducible refine Kd.C_alloc ?_ _) | (with_reducible refine Kd.C_drewN ?_ _) | (with_reducible refine Kd.C_drew ?_))); (case side2 => exact HC0.out); (case side3 => repeat (first | exact HR1.out | (with_reducible refine Kd.C_alloc ?_ _) | (with_reducible refine Kd.C_drewN ?_ _) | (with_reducible refine Kd.C_drew ?_))); (case side4 => exact HC1.out); rintro e w5 ⟨v289, rfl, ho0, hb⟩; refine ⟨_, rfl, ?_⟩; have n0_ := Aside0.mk (Kd.S_lower ho0 (below_size (by repeat (first | (with_reducible first | exact HB.out | apply below_alloc | apply pw_below_drewN | apply below_drew1) | exact HB.out)))); have n1_ := Aside0.mk (below_step (by repeat (first | (with_reducible first | exact HB.out | apply below_alloc | apply pw_below_drewN | apply below_drew1) | exact HB.out)) hb); clear HB; have HO290 := n0_; have HB := n1_; clear n0_ n1_; (try clear hb); (try clear hb2); (try clear hk); (try clear hi); (try clear ho0)))
  (try simp only [Act.put, List.setIfInBounds_toArray, List.set_cons_zero, List.set_cons_succ])
  go_cut [27] (fun v27 wc => ∃ (kq : Nat) (x27_3 : Bool), v27 = .bool x27_3 ∧ Aside0 (cohortlaw09_BatchWay.j0 kq l0 l1 t287 t288 x27_3 = some r) ∧ Aside0 (kq ≤ k) ∧ Aside0 (Kd.S k96 96 wc w.heap.size (fun _ => True) v289 t287) ∧ Aside0 (Below w.heap.size w wc))
  case first =>
    have H := HC4.out
    clear HC4
    replace H := Option.bind_eq_some_iff.mp H
    obtain ⟨t291, A60, H⟩ := H
    replace H : (if t291 = true then ((batch_May.f l1).bind fun t292 => (cohortlaw09_BatchWay.j0 k l0 l1 t287 t288 (!t292))) else (cohortlaw09_BatchWay.j0 k l0 l1 t287 t288 true)) = some r := H
    have A6 := Aside0.mk A60
    clear A60
    by_cases c7 : t291 = true
    · subst c7
      have H1 : ((batch_May.f l1).bind fun t292 => (cohortlaw09_BatchWay.j0 k l0 l1 t287 t288 (!t292))) = some r := by rw [if_pos rfl] at H; exact H
      clear H
      have H := H1
      clear H1
      replace H := Option.bind_eq_some_iff.mp H
      obtain ⟨t292, A80, H⟩ := H
      replace H : (cohortlaw09_BatchWay.j0 k l0 l1 t287 t288 (!t292)) = some r := H
      have A8 := Aside0.mk A80
      clear A80
      have H' := Aside0.mk H
      clear H
      go_wp2_with (first | ((with_reducible refine gate_callee (f := 46) rfl ?_); refine goesL_ (some 21) rfl rfl Try.func46 (by kernel_rfl) rfl #[.slice A0 l0.length c0] rfl (by (try simp only [List.map_toArray, List.map_cons, List.map_nil]); first | done | rfl | (simp only [List.length_drop, List.length_take]; rfl)) ?_; (with_reducible refine (batch_May.calls _ _ l0 true _ ?side1 ?side2 A6.out).mono ?_); (case side1 => repeat (first | exact (Kd.C_below HR0.out HB.out) | (with_reducible refine Kd.C_alloc ?_ _) | (with_reducible refine Kd.C_drewN ?_ _) | (with_reducible refine Kd.C_drew ?_))); (case side2 => exact HC0.out); rintro e w9 ⟨rfl, hb⟩; refine ⟨_, rfl, ?_⟩; have n0_ := Aside0.mk (Kd.S_below (by (with_reducible repeat (first | apply Kd.S_alloc | apply Kd.S_drewN | apply Kd.S_drew)); exact HO290.out) hb); have n1_ := Aside0.mk (below_step (by repeat (first | (with_reducible first | exact HB.out | apply below_alloc | apply pw_below_drewN | apply below_drew1) | exact HB.out)) hb); clear HO290; clear HB; have HO290 := n0_; have HB := n1_; clear n0_ n1_; (try clear hb); (try clear hb2); (try clear hk); (try clear hi)) | (go_at_call 46; (with_reducible refine (batch_May.calls _ _ l1 t292 _ ?side1 ?side2 A8.out).mono ?_); (case side1 => repeat (first | exact (Kd.C_below HR1.out HB.out) | (with_reducible refine Kd.C_alloc ?_ _) | (with_reducible refine Kd.C_drewN ?_ _) | (with_reducible refine Kd.C_drew ?_))); (case side2 => exact HC1.out); rintro e w10 ⟨rfl, hb⟩; have n0_ := Aside0.mk (Kd.S_below (by (with_reducible repeat (first | apply Kd.S_alloc | apply Kd.S_drewN | apply Kd.S_drew)); exact HO290.out) hb); have n1_ := Aside0.mk (below_step (by repeat (first | (with_reducible first | exact HB.out | apply below_alloc | apply pw_below_drewN | apply below_drew1) | exact HB.out)) hb); clear HO290; clear HB; have HO290 := n0_; have HB := n1_; clear n0_ n1_; (try clear hb); (try clear hb2); (try clear hk); (try clear hi)))
      go_meet
      case rel => exact ⟨_, (!t292), (by first | rfl | (simp; done) | (simp [*]; done)), H', ⟨by first | omega | exact Nat.le_refl _⟩, ⟨by (with_reducible repeat (first | apply Kd.S_alloc | apply Kd.S_drewN | apply Kd.S_drew)); exact HO290.out⟩, ⟨by repeat (first | (with_reducible first | exact HB.out | apply below_alloc | apply pw_below_drewN | apply below_drew1) | exact HB.out)⟩⟩
    · replace c7 := Bool.eq_false_iff.mpr c7
      subst c7
      have H1 : (cohortlaw09_BatchWay.j0 k l0 l1 t287 t288 true) = some r := by rw [if_neg (show ¬ (false = true) by decide)] at H; exact H
      clear H
      have H := H1
      clear H1
      have H' := Aside0.mk H
      clear H
      go_wp2_with (first | ((with_reducible refine gate_callee (f := 46) rfl ?_); refine goesL_ (some 21) rfl rfl Try.func46 (by kernel_rfl) rfl #[.slice A0 l0.length c0] rfl (by (try simp only [List.map_toArray, List.map_cons, List.map_nil]); first | done | rfl | (simp only [List.length_drop, List.length_take]; rfl)) ?_; (with_reducible refine (batch_May.calls _ _ l0 false _ ?side1 ?side2 A6.out).mono ?_); (case side1 => repeat (first | exact (Kd.C_below HR0.out HB.out) | (with_reducible refine Kd.C_alloc ?_ _) | (with_reducible refine Kd.C_drewN ?_ _) | (with_reducible refine Kd.C_drew ?_))); (case side2 => exact HC0.out); rintro e w11 ⟨rfl, hb⟩; refine ⟨_, rfl, ?_⟩; have n0_ := Aside0.mk (Kd.S_below (by (with_reducible repeat (first | apply Kd.S_alloc | apply Kd.S_drewN | apply Kd.S_drew)); exact HO290.out) hb); have n1_ := Aside0.mk (below_step (by repeat (first | (with_reducible first | exact HB.out | apply below_alloc | apply pw_below_drewN | apply below_drew1) | exact HB.out)) hb); clear HO290; clear HB; have HO290 := n0_; have HB := n1_; clear n0_ n1_; (try clear hb); (try clear hb2); (try clear hk); (try clear hi)))
      go_meet
      case rel => exact ⟨_, (true), (by first | rfl | (simp; done) | (simp [*]; done)), H', ⟨by first | omega | exact Nat.le_refl _⟩, ⟨by (with_reducible repeat (first | apply Kd.S_alloc | apply Kd.S_drewN | apply Kd.S_drew)); exact HO290.out⟩, ⟨by repeat (first | (with_reducible first | exact HB.out | apply below_alloc | apply pw_below_drewN | apply below_drew1) | exact HB.out)⟩⟩
  case rest =>
    clear HC4
    try clear c1
    try clear p2
    try clear c4
    try clear c7
    try clear c10
    obtain ⟨kq, x27_3, rfl, HA, HJ3, HO_5, HB⟩ := hcut
    cases kq with
    | zero => exact absurd HA.out (by simp [cohortlaw09_BatchWay.j0])
    | succ kj3 =>
      have H := HA.out
      clear HA
      simp only [cohortlaw09_BatchWay.j0] at H
      by_cases c12 : x27_3 = true
      · subst c12
        have H1 : (if t288 = 2 then (if (t287.length : Int) = 0 then ((cohortlaw09_lives.f).bind fun t293 => (some t293)) else (some false)) else (some false)) = some r := by rw [if_pos rfl] at H; exact H
        clear H
        have H := H1
        clear H1
        by_cases c13 : t288 = 2
        · rw [if_pos c13] at H
          have c13b0 : (t288 == 2) = true := beq_iff_eq.mpr c13
          have c13b1 : (t288 != 2) = false := bne_eq_false_iff_eq.mpr c13
          clear c13
          by_cases c14 : (t287.length : Int) = 0
          · rw [if_pos c14] at H
            have c14b0 : ((t287.length : Int) == 0) = true := beq_iff_eq.mpr c14
            have c14b1 : ((t287.length : Int) != 0) = false := bne_eq_false_iff_eq.mpr c14
            clear c14
            replace H := Option.bind_eq_some_iff.mp H
            obtain ⟨t293, A150, H⟩ := H
            replace H : (some t293) = some r := H
            have A15 := Aside0.mk A150
            clear A150
            obtain rfl := Option.some.inj H
            obtain ⟨Ao16, co16, eo16⟩ := Kd.S_slice HO_5.out
            subst eo16
            go_wp2_with (first | (go_at_call 36; (with_reducible refine (cohortlaw09_lives.calls  t293 _ A15.out).mono ?_); rintro e w17 ⟨rfl, hb⟩; have n0_ := Aside0.mk (Kd.S_below (by (with_reducible repeat (first | apply Kd.S_alloc | apply Kd.S_drewN | apply Kd.S_drew)); exact HO_5.out) hb); have n1_ := Aside0.mk (below_step (by repeat (first | (with_reducible first | exact HB.out | apply below_alloc | apply pw_below_drewN | apply below_drew1) | exact HB.out)) hb); clear HO_5; clear HB; have HO_5 := n0_; have HB := n1_; clear n0_ n1_; (try clear hb); (try clear hb2); (try clear hk); (try clear hi)))
            go_ret
            exact ⟨by first | rfl | (simp [errW_none, errW_some] <;> rfl) | (simp [*, errW_none, errW_some] <;> rfl), by repeat (first | (with_reducible first | exact HB.out | apply below_alloc | apply pw_below_drewN | apply below_drew1) | exact HB.out)⟩
          · rw [if_neg c14] at H
            have c14b0 : ((t287.length : Int) == 0) = false := beq_eq_false_iff_ne.mpr c14
            have c14b1 : ((t287.length : Int) != 0) = true := bne_iff_ne.mpr c14
            have c14b2 : ¬ (t287 = []) := fun h_ => c14 (by rw [h_]; rfl)
            obtain rfl := Option.some.inj H
            obtain ⟨Ao18, co18, eo18⟩ := Kd.S_slice HO_5.out
            subst eo18
            go_wp2
            go_ret
            exact ⟨by first | rfl | (simp [errW_none, errW_some] <;> rfl) | (simp [*, errW_none, errW_some] <;> rfl), by repeat (first | (with_reducible first | exact HB.out | apply below_alloc | apply pw_below_drewN | apply below_drew1) | exact HB.out)⟩
        · rw [if_neg c13] at H
          have c13b0 : (t288 == 2) = false := beq_eq_false_iff_ne.mpr c13
          have c13b1 : (t288 != 2) = true := bne_iff_ne.mpr c13
          obtain rfl := Option.some.inj H
          go_wp2
          go_ret
          exact ⟨by first | rfl | (simp [errW_none, errW_some] <;> rfl) | (simp [*, errW_none, errW_some] <;> rfl), by repeat (first | (with_reducible first | exact HB.out | apply below_alloc | apply pw_below_drewN | apply below_drew1) | exact HB.out)⟩
      · replace c12 := Bool.eq_false_iff.mpr c12
        subst c12
        have H1 : ((batch_Apply.f l0 t287).bind fun bt294 => ((batch_Between.f l1 l1).bind fun bt298 => (if t288 = 0 then (if bt294.2 = 0 then (if bt298.2 = 0 then ((cohortref00_Rows.f kj3 bt294.1 l1).bind fun t302 => (if t302 = true then (cohortlaw09_BatchWay.j1 kj3 l0 t287 ((bt298.1.length : Int) != 0)) else (cohortlaw09_BatchWay.j1 kj3 l0 t287 true))) else (cohortlaw09_BatchWay.j1 kj3 l0 t287 true)) else (cohortlaw09_BatchWay.j1 kj3 l0 t287 true)) else (cohortlaw09_BatchWay.j1 kj3 l0 t287 true)))) = some r := by rw [if_neg (show ¬ (false = true) by decide)] at H; exact H
        clear H
        have H := H1
        clear H1
        replace H := Option.bind_eq_some_iff.mp H
        obtain ⟨⟨t294, t295⟩, A190, H⟩ := H
        replace H : ((batch_Between.f l1 l1).bind fun bt298 => (if t288 = 0 then (if t295 = 0 then (if bt298.2 = 0 then ((cohortref00_Rows.f kj3 t294 l1).bind fun t302 => (if t302 = true then (cohortlaw09_BatchWay.j1 kj3 l0 t287 ((bt298.1.length : Int) != 0)) else (cohortlaw09_BatchWay.j1 kj3 l0 t287 true))) else (cohortlaw09_BatchWay.j1 kj3 l0 t287 true)) else (cohortlaw09_BatchWay.j1 kj3 l0 t287 true)) else (cohortlaw09_BatchWay.j1 kj3 l0 t287 true))) = some r := H
        have A19 := Aside0.mk A190
        clear A190
        replace H := Option.bind_eq_some_iff.mp H
        obtain ⟨⟨t298, t299⟩, A200, H⟩ := H
        replace H : (if t288 = 0 then (if t295 = 0 then (if t299 = 0 then ((cohortref00_Rows.f kj3 t294 l1).bind fun t302 => (if t302 = true then (cohortlaw09_BatchWay.j1 kj3 l0 t287 ((t298.length : Int) != 0)) else (cohortlaw09_BatchWay.j1 kj3 l0 t287 true))) else (cohortlaw09_BatchWay.j1 kj3 l0 t287 true)) else (cohortlaw09_BatchWay.j1 kj3 l0 t287 true)) else (cohortlaw09_BatchWay.j1 kj3 l0 t287 true)) = some r := H
        have A20 := Aside0.mk A200
        clear A200
        have HC21 := Aside0.mk H
        clear H
        obtain ⟨Ao22, co22, eo22⟩ := Kd.S_slice HO_5.out
        subst eo22
        go_upto_region 6 with (first | ((with_reducible refine gate_callee (f := 39) rfl ?_); refine goesL_ (some 41) rfl rfl Try.func39 (by kernel_rfl) rfl #[.slice A0 l0.length c0, .slice Ao22 t287.length co22] rfl (by (try simp only [List.map_toArray, List.map_cons, List.map_nil]); first | done | rfl | (simp only [List.length_drop, List.length_take]; rfl)) ?_; (with_reducible refine (batch_Apply.calls _ _ l0 _ _ t287 t294 t295 _ ?side1 ?side2 ?side3 ?side4 A19.out).mono ?_); (case side1 => repeat (first | exact (Kd.C_below HR0.out HB.out) | (with_reducible refine Kd.C_alloc ?_ _) | (with_reducible refine Kd.C_drewN ?_ _) | (with_reducible refine Kd.C_drew ?_))); (case side2 => exact HC0.out); (case side3 => repeat (first | exact (Kd.S_reads' HO_5.out).2.2 | (with_reducible refine Kd.C_alloc ?_ _) | (with_reducible refine Kd.C_drewN ?_ _) | (with_reducible refine Kd.C_drew ?_))); (case side4 => exact (Kd.S_reads' HO_5.out).2.1); rintro e w23 ⟨v296, rfl, ho0, hb⟩; refine ⟨_, rfl, ?_⟩; have n0_ := Aside0.mk (Kd.S_below (by (with_reducible repeat (first | apply Kd.S_alloc | apply Kd.S_drewN | apply Kd.S_drew)); exact HO_5.out) hb); have n1_ := Aside0.mk (Kd.S_lower ho0 (below_size (by repeat (first | (with_reducible first | exact HB.out | apply below_alloc | apply pw_below_drewN | apply below_drew1) | exact HB.out)))); have n2_ := Aside0.mk (below_step (by repeat (first | (with_reducible first | exact HB.out | apply below_alloc | apply pw_below_drewN | apply below_drew1) | exact HB.out)) hb); clear HO_5; clear HB; have HO_5 := n0_; have HO297 := n1_; have HB := n2_; clear n0_ n1_ n2_; (try clear hb); (try clear hb2); (try clear hk); (try clear hi); (try clear ho0)) | ((with_reducible refine gate_callee (f := 41) rfl ?_); refine goesL_ (some 47) rfl rfl Try.func41 (by kernel_rfl) rfl #[.slice A1 l1.length c1, .slice A1 l1.length c1] rfl (by (try simp only [List.map_toArray, List.map_cons, List.map_nil]); first | done | rfl | (simp only [List.length_drop, List.length_take]; rfl)) ?_; (with_reducible refine (batch_Between.calls _ _ l1 _ _ l1 t298 t299 _ ?side1 ?side2 ?side3 ?side4 A20.out).mono ?_); (case side1 => repeat (first | exact (Kd.C_below HR1.out HB.out) | (with_reducible refine Kd.C_alloc ?_ _) | (with_reducible refine Kd.C_drewN ?_ _) | (with_reducible refine Kd.C_drew ?_))); (case side2 => exact HC1.out); (case side3 => repeat (first | exact (Kd.C_below HR1.out HB.out) | (with_reducible refine Kd.C_alloc ?_ _) | (with_reducible refine Kd.C_drewN ?_ _) | (with_reducible refine Kd.C_drew ?_))); (case side4 => exact HC1.out); rintro e w24 ⟨v300, rfl, ho0, hb⟩; refine ⟨_, rfl, ?_⟩; have n0_ := Aside0.mk (Kd.S_elder' (by (with_reducible repeat (first | apply Kd.S_alloc | apply Kd.S_drewN | apply Kd.S_drew)); exact HO_5.out) (Kd.S_base ho0) hb); have n1_ := Aside0.mk (Kd.S_below (by (with_reducible repeat (first | apply Kd.S_alloc | apply Kd.S_drewN | apply Kd.S_drew)); exact HO297.out) hb); have n2_ := Aside0.mk (Kd.S_lower (Kd.S_new' ho0 (Kd.S_lt (by (with_reducible repeat (first | apply Kd.S_alloc | apply Kd.S_drewN | apply Kd.S_drew)); exact HO_5.out))) (below_size (by repeat (first | (with_reducible first | exact HB.out | apply below_alloc | apply pw_below_drewN | apply below_drew1) | exact HB.out)))); have n3_ := Aside0.mk (below_step (by repeat (first | (with_reducible first | exact HB.out | apply below_alloc | apply pw_below_drewN | apply below_drew1) | exact HB.out)) hb); clear HO_5; clear HO297; clear HB; have HO_5 := n0_; have HO297 := n1_; have HO301 := n2_; have HB := n3_; clear n0_ n1_ n2_ n3_; (try clear hb); (try clear hb2); (try clear hk); (try clear hi); (try clear ho0)))
        (try simp only [Act.put, List.setIfInBounds_toArray, List.set_cons_zero, List.set_cons_succ])
        go_cut [70] (fun v70 wc => ∃ (kq : Nat) (x70_20 : Bool), v70 = .bool x70_20 ∧ Aside0 (cohortlaw09_BatchWay.j1 kq l0 t287 x70_20 = some r) ∧ Aside0 (kq ≤ kj3) ∧ Aside0 (Kd.S k96 96 wc w.heap.size (fun _ => True) (.slice Ao22 t287.length co22) t287) ∧ Aside0 (Below w.heap.size w wc))
        case first =>
          have H := HC21.out
          clear HC21
          by_cases c25 : t288 = 0
          · rw [if_pos c25] at H
            have c25b0 : (t288 == 0) = true := beq_iff_eq.mpr c25
            have c25b1 : (t288 != 0) = false := bne_eq_false_iff_eq.mpr c25
            clear c25
            (first | rw [c25b0] | (simp only [i64_w, i32_w]; rw [c25b0]) | skip)
            by_cases c26 : t295 = 0
            · rw [if_pos c26] at H
              have c26b0 : (t295 == 0) = true := beq_iff_eq.mpr c26
              have c26b1 : (t295 != 0) = false := bne_eq_false_iff_eq.mpr c26
              clear c26
              by_cases c27 : t299 = 0
              · rw [if_pos c27] at H
                have c27b0 : (t299 == 0) = true := beq_iff_eq.mpr c27
                have c27b1 : (t299 != 0) = false := bne_eq_false_iff_eq.mpr c27
                clear c27
                replace H := Option.bind_eq_some_iff.mp H
                obtain ⟨t302, A280, H⟩ := H
                replace H : (if t302 = true then (cohortlaw09_BatchWay.j1 kj3 l0 t287 ((t298.length : Int) != 0)) else (cohortlaw09_BatchWay.j1 kj3 l0 t287 true)) = some r := H
                have A28 := Aside0.mk A280
                clear A280
                by_cases c29 : t302 = true
                · subst c29
                  have H1 : (cohortlaw09_BatchWay.j1 kj3 l0 t287 ((t298.length : Int) != 0)) = some r := by rw [if_pos rfl] at H; exact H
                  clear H
                  have H := H1
                  clear H1
                  have H' := Aside0.mk H
                  clear H
                  obtain ⟨Ao30, co30, eo30⟩ := Kd.S_slice HO297.out
                  subst eo30
                  go_wp2_with (first | (go_at_call 45; (with_reducible refine (cohortref00_Rows.calls kj3 _ _ t294 _ _ l1 true _ ?side1 ?side2 ?side3 ?side4 A28.out).mono ?_); (case side1 => repeat (first | exact (Kd.S_reads' HO297.out).2.2 | (with_reducible refine Kd.C_alloc ?_ _) | (with_reducible refine Kd.C_drewN ?_ _) | (with_reducible refine Kd.C_drew ?_))); (case side2 => exact (Kd.S_reads' HO297.out).2.1); (case side3 => repeat (first | exact (Kd.C_below HR1.out HB.out) | (with_reducible refine Kd.C_alloc ?_ _) | (with_reducible refine Kd.C_drewN ?_ _) | (with_reducible refine Kd.C_drew ?_))); (case side4 => exact HC1.out); rintro e w' ⟨rfl, ⟨nd, rfl⟩⟩; obtain ⟨Ao31, co31, eo31⟩ := Kd.S_slice HO301.out; subst eo31))
                  go_meet
                  case rel => exact ⟨_, (((t298.length : Int) != 0)), (by first | rfl | (simp; done) | (simp [*]; done)), H', ⟨by have := HJ3.out; first | omega | exact Nat.le_refl _⟩, ⟨by (with_reducible repeat (first | apply Kd.S_alloc | apply Kd.S_drewN | apply Kd.S_drew)); exact Kd.S_mono HO_5.out (fun _ hk => trivial)⟩, ⟨by repeat (first | (with_reducible first | exact HB.out | apply below_alloc | apply pw_below_drewN | apply below_drew1) | exact HB.out)⟩⟩
                · replace c29 := Bool.eq_false_iff.mpr c29
                  subst c29
                  have H1 : (cohortlaw09_BatchWay.j1 kj3 l0 t287 true) = some r := by rw [if_neg (show ¬ (false = true) by decide)] at H; exact H
                  clear H
                  have H := H1
                  clear H1
                  have H' := Aside0.mk H
                  clear H
                  obtain ⟨Ao32, co32, eo32⟩ := Kd.S_slice HO297.out
                  subst eo32
                  go_wp2_with (first | (go_at_call 45; (with_reducible refine (cohortref00_Rows.calls kj3 _ _ t294 _ _ l1 false _ ?side1 ?side2 ?side3 ?side4 A28.out).mono ?_); (case side1 => repeat (first | exact (Kd.S_reads' HO297.out).2.2 | (with_reducible refine Kd.C_alloc ?_ _) | (with_reducible refine Kd.C_drewN ?_ _) | (with_reducible refine Kd.C_drew ?_))); (case side2 => exact (Kd.S_reads' HO297.out).2.1); (case side3 => repeat (first | exact (Kd.C_below HR1.out HB.out) | (with_reducible refine Kd.C_alloc ?_ _) | (with_reducible refine Kd.C_drewN ?_ _) | (with_reducible refine Kd.C_drew ?_))); (case side4 => exact HC1.out); rintro e w' ⟨rfl, ⟨nd, rfl⟩⟩))
                  go_meet
                  case rel => exact ⟨_, (true), (by first | rfl | (simp; done) | (simp [*]; done)), H', ⟨by have := HJ3.out; first | omega | exact Nat.le_refl _⟩, ⟨by (with_reducible repeat (first | apply Kd.S_alloc | apply Kd.S_drewN | apply Kd.S_drew)); exact Kd.S_mono HO_5.out (fun _ hk => trivial)⟩, ⟨by repeat (first | (with_reducible first | exact HB.out | apply below_alloc | apply pw_below_drewN | apply below_drew1) | exact HB.out)⟩⟩
              · rw [if_neg c27] at H
                have c27b0 : (t299 == 0) = false := beq_eq_false_iff_ne.mpr c27
                have c27b1 : (t299 != 0) = true := bne_iff_ne.mpr c27
                have H' := Aside0.mk H
                clear H
                go_wp2
                go_meet
                case rel => exact ⟨_, (true), (by first | rfl | (simp; done) | (simp [*]; done)), H', ⟨by have := HJ3.out; first | omega | exact Nat.le_refl _⟩, ⟨by (with_reducible repeat (first | apply Kd.S_alloc | apply Kd.S_drewN | apply Kd.S_drew)); exact Kd.S_mono HO_5.out (fun _ hk => trivial)⟩, ⟨by repeat (first | (with_reducible first | exact HB.out | apply below_alloc | apply pw_below_drewN | apply below_drew1) | exact HB.out)⟩⟩
            · rw [if_neg c26] at H
              have c26b0 : (t295 == 0) = false := beq_eq_false_iff_ne.mpr c26
              have c26b1 : (t295 != 0) = true := bne_iff_ne.mpr c26
              have H' := Aside0.mk H
              clear H
              go_wp2
              go_meet
              case rel => exact ⟨_, (true), (by first | rfl | (simp; done) | (simp [*]; done)), H', ⟨by have := HJ3.out; first | omega | exact Nat.le_refl _⟩, ⟨by (with_reducible repeat (first | apply Kd.S_alloc | apply Kd.S_drewN | apply Kd.S_drew)); exact Kd.S_mono HO_5.out (fun _ hk => trivial)⟩, ⟨by repeat (first | (with_reducible first | exact HB.out | apply below_alloc | apply pw_below_drewN | apply below_drew1) | exact HB.out)⟩⟩
          · rw [if_neg c25] at H
            have c25b0 : (t288 == 0) = false := beq_eq_false_iff_ne.mpr c25
            have c25b1 : (t288 != 0) = true := bne_iff_ne.mpr c25
            (first | rw [c25b0] | (simp only [i64_w, i32_w]; rw [c25b0]) | skip)
            have H' := Aside0.mk H
            clear H
            go_wp2
            go_meet
            case rel => exact ⟨_, (true), (by first | rfl | (simp; done) | (simp [*]; done)), H', ⟨by have := HJ3.out; first | omega | exact Nat.le_refl _⟩, ⟨by (with_reducible repeat (first | apply Kd.S_alloc | apply Kd.S_drewN | apply Kd.S_drew)); exact Kd.S_mono HO_5.out (fun _ hk => trivial)⟩, ⟨by repeat (first | (with_reducible first | exact HB.out | apply below_alloc | apply pw_below_drewN | apply below_drew1) | exact HB.out)⟩⟩
        case rest =>
          clear HC21
          try clear c1
          try clear c2
          try clear p2
          try clear c3
          try clear c4
          try clear c7
          try clear c10
          try clear c12
          try clear c13
          try clear c13b0
          try clear c13b1
          try clear c14
          try clear c14b0
          try clear c14b1
          try clear c14b2
          try clear c25
          try clear c25b0
          try clear c25b1
          try clear c26
          try clear c26b0
          try clear c26b1
          try clear c27
          try clear c27b0
          try clear c27b1
          try clear c29
          try clear p2
          obtain ⟨kq, x70_20, rfl, HA, HJ20, HO_5, HB⟩ := hcut
          cases kq with
          | zero => exact absurd HA.out (by simp [cohortlaw09_BatchWay.j1])
          | succ kj20 =>
            have H := HA.out
            clear HA
            simp only [cohortlaw09_BatchWay.j1] at H
            by_cases c33 : x70_20 = true
            · subst c33
              have H1 : (some false) = some r := by rw [if_pos rfl] at H; exact H
              clear H
              have H := H1
              clear H1
              obtain rfl := Option.some.inj H
              go_wp2
              go_ret
              exact ⟨by first | rfl | (simp [errW_none, errW_some] <;> rfl) | (simp [*, errW_none, errW_some] <;> rfl), by repeat (first | (with_reducible first | exact HB.out | apply below_alloc | apply pw_below_drewN | apply below_drew1) | exact HB.out)⟩
            · replace c33 := Bool.eq_false_iff.mpr c33
              subst c33
              have H1 : (cohortlaw09_BatchWay.l0 kj20 l0 t287 0) = some r := by rw [if_neg (show ¬ (false = true) by decide)] at H; exact H
              clear H
              have H := H1
              clear H1
              have H' := Aside0.mk H
              clear H
              go_wp2
              go_loopg [11] kj20 (fun kq v11 w' => ∃ (x11_3 : Int), v11 = .int .i64 x11_3 ∧ Aside0 (cohortlaw09_BatchWay.l0 kq l0 t287 x11_3 = some r) ∧ Aside0 (kq ≤ kj20) ∧ Aside0 (Kd.S k96 96 w' w.heap.size (fun _ => True) (.slice Ao22 t287.length co22) t287) ∧ Aside0 (Below w.heap.size w w'))
              case atStart => exact ⟨(0), (by first | rfl | (simp; done) | (simp [*]; done)), H', ⟨Nat.le_refl _⟩, ⟨by (with_reducible repeat (first | apply Kd.S_alloc | apply Kd.S_drewN | apply Kd.S_drew)); exact HO_5.out⟩, ⟨by repeat (first | (with_reducible first | exact HB.out | apply below_alloc | apply pw_below_drewN | apply below_drew1) | exact HB.out)⟩⟩
              case round =>
                clear H'
                try clear c1
                try clear c2
                try clear p2
                try clear c3
                try clear c4
                try clear c7
                try clear c10
                try clear c12
                try clear c13
                try clear c13b0
                try clear c13b1
                try clear c14
                try clear c14b0
                try clear c14b1
                try clear c14b2
                try clear c25
                try clear c25b0
                try clear c25b1
                try clear c26
                try clear c26b0
                try clear c26b1
                try clear c27
                try clear c27b0
                try clear c27b1
                try clear c29
                try clear c33
                try clear p2
                obtain ⟨x11_3, rfl, HA, HK3, HO_5, HB⟩ := hrel
                cases gk with
                | zero => exact absurd HA.out (by simp [cohortlaw09_BatchWay.l0])
                | succ k3 =>
                  have H := HA.out
                  clear HA
                  simp only [cohortlaw09_BatchWay.l0] at H
                  by_cases c34 : x11_3 < (t287.length : Int)
                  · rw [if_pos c34] at H
                    have c34b0 : decide (x11_3 < (t287.length : Int)) = true := decide_eq_true c34
                    clear c34
                    by_cases c35 : 0 ≤ x11_3
                    · rw [if_pos c35] at H
                      have c35b0 : decide (0 ≤ x11_3) = true := decide_eq_true c35
                      clear c35
                      replace H := Option.bind_eq_some_iff.mp H
                      obtain ⟨⟨t305, t306⟩, A360, H⟩ := H
                      replace H : (if (rd_T96 t287 x11_3).f2 = true then (if t306 = true then (if ((rd_T96 t287 x11_3).f2 = true) then (cohortlaw09_BatchWay.l0 k3 l0 t287 (wrap64 (x11_3 + 1))) else ((cohortref00_Same.f t305 ((rd_T96 t287 x11_3).f1)).bind fun t312 => (if t312 = true then (some false) else (cohortlaw09_BatchWay.l0 k3 l0 t287 (wrap64 (x11_3 + 1)))))) else (some false)) else (if ((rd_T96 t287 x11_3).f2 = true) then (cohortlaw09_BatchWay.l0 k3 l0 t287 (wrap64 (x11_3 + 1))) else (if t306 = true then ((cohortref00_Same.f t305 ((rd_T96 t287 x11_3).f1)).bind fun t315 => (if t315 = true then (some false) else (cohortlaw09_BatchWay.l0 k3 l0 t287 (wrap64 (x11_3 + 1))))) else (cohortlaw09_BatchWay.l0 k3 l0 t287 (wrap64 (x11_3 + 1)))))) = some r := H
                      have A36 := Aside0.mk A360
                      clear A360
                      obtain ⟨bq37, hbq37⟩ : ∃ b_ : Bool, b_ = ((rd_T96 t287 x11_3).f2) := ⟨_, rfl⟩
                      replace H : (if bq37 = true then (if t306 = true then (if (bq37 = true) then (cohortlaw09_BatchWay.l0 k3 l0 t287 (wrap64 (x11_3 + 1))) else ((cohortref00_Same.f t305 ((rd_T96 t287 x11_3).f1)).bind fun t312 => (if t312 = true then (some false) else (cohortlaw09_BatchWay.l0 k3 l0 t287 (wrap64 (x11_3 + 1)))))) else (some false)) else (if (bq37 = true) then (cohortlaw09_BatchWay.l0 k3 l0 t287 (wrap64 (x11_3 + 1))) else (if t306 = true then ((cohortref00_Same.f t305 ((rd_T96 t287 x11_3).f1)).bind fun t315 => (if t315 = true then (some false) else (cohortlaw09_BatchWay.l0 k3 l0 t287 (wrap64 (x11_3 + 1))))) else (cohortlaw09_BatchWay.l0 k3 l0 t287 (wrap64 (x11_3 + 1)))))) = some r := by rw [← hbq37] at H; exact H
                      have Nbq37 := Aside0.mk hbq37
                      clear hbq37
                      by_cases c38 : bq37 = true
                      · subst c38
                        have H1 : (if t306 = true then (if (true = true) then (cohortlaw09_BatchWay.l0 k3 l0 t287 (wrap64 (x11_3 + 1))) else ((cohortref00_Same.f t305 ((rd_T96 t287 x11_3).f1)).bind fun t312 => (if t312 = true then (some false) else (cohortlaw09_BatchWay.l0 k3 l0 t287 (wrap64 (x11_3 + 1)))))) else (some false)) = some r := by rw [if_pos rfl] at H; exact H
                        clear H
                        have H := H1
                        clear H1
                        by_cases c39 : t306 = true
                        · subst c39
                          have H1 : (if (true = true) then (cohortlaw09_BatchWay.l0 k3 l0 t287 (wrap64 (x11_3 + 1))) else ((cohortref00_Same.f t305 ((rd_T96 t287 x11_3).f1)).bind fun t312 => (if t312 = true then (some false) else (cohortlaw09_BatchWay.l0 k3 l0 t287 (wrap64 (x11_3 + 1)))))) = some r := by rw [if_pos rfl] at H; exact H
                          clear H
                          have H := H1
                          clear H1
                          by_cases c40 : (true = true)
                          · clear c40
                            have H1 : (cohortlaw09_BatchWay.l0 k3 l0 t287 (wrap64 (x11_3 + 1))) = some r := by rw [if_pos rfl] at H; exact H
                            clear H
                            have H := H1
                            clear H1
                            have H' := Aside0.mk H
                            clear H
                            have p304 : 0 ≤ (x11_3 : Int) := of_decide_eq_true (by first | (with_reducible assumption) | assumption)
                            have q304 : x11_3 < (t287.length : Int) := of_decide_eq_true (by first | (with_reducible assumption) | assumption)
                            obtain ⟨ad304, A304_1, c304_1, e304, hx304_0, hx304_1, hx304_2, hl304_1, hi304_1⟩ := at_T96 (Kd.S_reads' HO_5.out).2.2 x11_3 p304 q304
                            (try rw [← Nbq37.out] at hx304_2); (try rw [← Nbq37.out] at hw304_2)
                            cases e304
                            obtain ⟨ce304, hce304, hMe304, hcc304⟩ := Kd.S_get HO_5.out z96 x11_3 p304 (by first | exact q304 | exact of_decide_eq_true (by first | (with_reducible assumption) | assumption) | (have e_ := (Kd.S_reads' HO_5.out).1; omega))
                            obtain ⟨ve304_1, rfl, ge304_1⟩ := k96_openM hMe304
                            have hv304_1 := hcc304 1 _ rfl
                            rw [add_field _ _ 1 (by omega)] at hv304_1
                            replace hv304_1 := Option.some.inj (hv304_1.symm.trans hx304_1)
                            rw [hv304_1] at ge304_1
                            have HL304_1 := Aside0.mk (show Kd.R (Kd.int .u8) 5 _ _ _ _ ((rd_T96 t287 x11_3).f1) from ge304_1)
                            clear hv304_1 ge304_1
                            clear hcc304 hce304
                            have HR304_1 := Aside0.mk hi304_1
                            have HC304_1 := Aside0.mk hl304_1
                            clear hi304_1 hl304_1
                            replace p304 := eq_true p304
                            replace q304 := eq_true q304
                            go_wp2_with (first | ((with_reducible refine gate_callee (f := 43) rfl ?_); refine goesL_ (some 84) rfl rfl Try.func43 (by kernel_rfl) rfl #[.slice A0 l0.length c0, .string ((rd_T96 t287 x11_3).f0)] rfl (by (try simp only [List.map_toArray, List.map_cons, List.map_nil]); first | done | rfl | (simp only [List.length_drop, List.length_take]; rfl)) ?_; (with_reducible refine (batch_Find.calls _ _ l0 ((rd_T96 t287 x11_3).f0) t305 true _ ?side1 ?side2 A36.out).mono ?_); (case side1 => repeat (first | exact (Kd.C_below HR0.out HB.out) | (with_reducible refine Kd.C_alloc ?_ _) | (with_reducible refine Kd.C_drewN ?_ _) | (with_reducible refine Kd.C_drew ?_))); (case side2 => exact HC0.out); rintro e w41 ⟨v307, rfl, ho0, hb⟩; refine ⟨_, rfl, ?_⟩; have n0_ := Aside0.mk (Kd.S_elder' (by (with_reducible repeat (first | apply Kd.S_alloc | apply Kd.S_drewN | apply Kd.S_drew)); exact HO_5.out) (Kd.R_base ho0) hb); have n1_ := Aside0.mk (Kd.R_elder' (by (with_reducible repeat (first | apply Kd.R_alloc | apply Kd.R_drewN | apply Kd.R_drew)); exact HL304_1.out) (Kd.R_base ho0) hb); have n2_ := Aside0.mk (Kd.R_lower (Kd.R_new' ho0 (Kd.R_lt (by (with_reducible repeat (first | apply Kd.R_alloc | apply Kd.R_drewN | apply Kd.R_drew)); exact HL304_1.out))) (below_size (by repeat (first | (with_reducible first | exact HB.out | apply below_alloc | apply pw_below_drewN | apply below_drew1) | exact HB.out)))); have n3_ := Aside0.mk (Kd.C_below (by repeat (first | (with_reducible exact HR304_1.out) | (with_reducible refine Kd.C_alloc ?_ _) | (with_reducible refine Kd.C_drewN ?_ _) | (with_reducible refine Kd.C_drew ?_) | exact HR304_1.out)) hb); have n4_ := Aside0.mk (below_step (by repeat (first | (with_reducible first | exact HB.out | apply below_alloc | apply pw_below_drewN | apply below_drew1) | exact HB.out)) hb); clear HO_5; clear HL304_1; clear HR304_1; clear HB; have HO_5 := n0_; have HL304_1 := n1_; have HO308 := n2_; have HR304_1 := n3_; have HB := n4_; clear n0_ n1_ n2_ n3_ n4_; (try clear hb); (try clear hb2); (try clear hk); (try clear hi); (try clear ho0); have p309 : 0 ≤ (x11_3 : Int) := of_decide_eq_true (by first | (with_reducible assumption) | assumption); have q309 : x11_3 < (t287.length : Int) := of_decide_eq_true (by first | (with_reducible assumption) | assumption); obtain ⟨ad309, A309_1, c309_1, e309, hx309_0, hx309_1, hx309_2, hl309_1, hi309_1⟩ := at_T96 (Kd.S_reads' HO_5.out).2.2 x11_3 p309 q309; (try rw [← Nbq37.out] at hx309_2); (try rw [← Nbq37.out] at hw309_2); obtain rfl : ad304 = ad309 := (by injection e309); obtain ⟨ce309, hce309, hMe309, hcc309⟩ := Kd.S_get HO_5.out z96 x11_3 p309 (by first | exact q309 | exact of_decide_eq_true (by first | (with_reducible assumption) | assumption) | (have e_ := (Kd.S_reads' HO_5.out).1; omega)); obtain ⟨ve309_1, rfl, ge309_1⟩ := k96_openM hMe309; have hv309_1 := hcc309 1 _ rfl; rw [add_field _ _ 1 (by omega)] at hv309_1; replace hv309_1 := Option.some.inj (hv309_1.symm.trans hx309_1); rw [hv309_1] at ge309_1; have HL309_1 := Aside0.mk (show Kd.R (Kd.int .u8) 5 _ _ _ _ ((rd_T96 t287 x11_3).f1) from ge309_1); clear hv309_1 ge309_1; clear hcc309 hce309; have HR309_1 := Aside0.mk hi309_1; have HC309_1 := Aside0.mk hl309_1; clear hi309_1 hl309_1; replace p309 := eq_true p309; replace q309 := eq_true q309; have p310 : 0 ≤ (x11_3 : Int) := of_decide_eq_true (by first | (with_reducible assumption) | assumption); have q310 : x11_3 < (t287.length : Int) := of_decide_eq_true (by first | (with_reducible assumption) | assumption); obtain ⟨ad310, A310_1, c310_1, e310, hx310_0, hx310_1, hx310_2, hl310_1, hi310_1⟩ := at_T96 (Kd.S_reads' HO_5.out).2.2 x11_3 p310 q310; (try rw [← Nbq37.out] at hx310_2); (try rw [← Nbq37.out] at hw310_2); obtain rfl : ad304 = ad310 := (by injection e310); obtain ⟨ce310, hce310, hMe310, hcc310⟩ := Kd.S_get HO_5.out z96 x11_3 p310 (by first | exact q310 | exact of_decide_eq_true (by first | (with_reducible assumption) | assumption) | (have e_ := (Kd.S_reads' HO_5.out).1; omega)); obtain ⟨ve310_1, rfl, ge310_1⟩ := k96_openM hMe310; have hv310_1 := hcc310 1 _ rfl; rw [add_field _ _ 1 (by omega)] at hv310_1; replace hv310_1 := Option.some.inj (hv310_1.symm.trans hx310_1); rw [hv310_1] at ge310_1; have HL310_1 := Aside0.mk (show Kd.R (Kd.int .u8) 5 _ _ _ _ ((rd_T96 t287 x11_3).f1) from ge310_1); clear hv310_1 ge310_1; clear hcc310 hce310; have HR310_1 := Aside0.mk hi310_1; have HC310_1 := Aside0.mk hl310_1; clear hi310_1 hl310_1; replace p310 := eq_true p310; replace q310 := eq_true q310; have ea_ := Option.some.inj (hx309_1.symm.trans hx310_1); injection ea_ with ea_ en_ ec_; subst ea_; subst ec_; clear en_))
                            go_roundg k3
                            case measure => have := HJ3.out; have := HJ20.out; have := HK3.out; omega
                            case rel => exact ⟨(wrap64 (x11_3 + 1)), (by first | rfl | (simp; done) | (simp [*]; done)), H', ⟨by have := HJ3.out; have := HJ20.out; have := HK3.out; omega⟩, ⟨by (with_reducible repeat (first | apply Kd.S_alloc | apply Kd.S_drewN | apply Kd.S_drew)); exact Kd.S_mono HO_5.out (fun _ hk => trivial)⟩, ⟨by repeat (first | (with_reducible first | exact HB.out | apply below_alloc | apply pw_below_drewN | apply below_drew1) | exact HB.out)⟩⟩
                          · exact absurd rfl c40
                        · replace c39 := Bool.eq_false_iff.mpr c39
                          subst c39
                          have H1 : (some false) = some r := by rw [if_neg (show ¬ (false = true) by decide)] at H; exact H
                          clear H
                          have H := H1
                          clear H1
                          obtain rfl := Option.some.inj H
                          have p304 : 0 ≤ (x11_3 : Int) := of_decide_eq_true (by first | (with_reducible assumption) | assumption)
                          have q304 : x11_3 < (t287.length : Int) := of_decide_eq_true (by first | (with_reducible assumption) | assumption)
                          obtain ⟨ad304, A304_1, c304_1, e304, hx304_0, hx304_1, hx304_2, hl304_1, hi304_1⟩ := at_T96 (Kd.S_reads' HO_5.out).2.2 x11_3 p304 q304
                          (try rw [← Nbq37.out] at hx304_2); (try rw [← Nbq37.out] at hw304_2)
                          cases e304
                          obtain ⟨ce304, hce304, hMe304, hcc304⟩ := Kd.S_get HO_5.out z96 x11_3 p304 (by first | exact q304 | exact of_decide_eq_true (by first | (with_reducible assumption) | assumption) | (have e_ := (Kd.S_reads' HO_5.out).1; omega))
                          obtain ⟨ve304_1, rfl, ge304_1⟩ := k96_openM hMe304
                          have hv304_1 := hcc304 1 _ rfl
                          rw [add_field _ _ 1 (by omega)] at hv304_1
                          replace hv304_1 := Option.some.inj (hv304_1.symm.trans hx304_1)
                          rw [hv304_1] at ge304_1
                          have HL304_1 := Aside0.mk (show Kd.R (Kd.int .u8) 5 _ _ _ _ ((rd_T96 t287 x11_3).f1) from ge304_1)
                          clear hv304_1 ge304_1
                          clear hcc304 hce304
                          have HR304_1 := Aside0.mk hi304_1
                          have HC304_1 := Aside0.mk hl304_1
                          clear hi304_1 hl304_1
                          replace p304 := eq_true p304
                          replace q304 := eq_true q304
                          go_wp2_with (first | ((with_reducible refine gate_callee (f := 43) rfl ?_); refine goesL_ (some 84) rfl rfl Try.func43 (by kernel_rfl) rfl #[.slice A0 l0.length c0, .string ((rd_T96 t287 x11_3).f0)] rfl (by (try simp only [List.map_toArray, List.map_cons, List.map_nil]); first | done | rfl | (simp only [List.length_drop, List.length_take]; rfl)) ?_; (with_reducible refine (batch_Find.calls _ _ l0 ((rd_T96 t287 x11_3).f0) t305 false _ ?side1 ?side2 A36.out).mono ?_); (case side1 => repeat (first | exact (Kd.C_below HR0.out HB.out) | (with_reducible refine Kd.C_alloc ?_ _) | (with_reducible refine Kd.C_drewN ?_ _) | (with_reducible refine Kd.C_drew ?_))); (case side2 => exact HC0.out); rintro e w48 ⟨v307, rfl, ho0, hb⟩; refine ⟨_, rfl, ?_⟩; have n0_ := Aside0.mk (Kd.S_elder' (by (with_reducible repeat (first | apply Kd.S_alloc | apply Kd.S_drewN | apply Kd.S_drew)); exact HO_5.out) (Kd.R_base ho0) hb); have n1_ := Aside0.mk (Kd.R_elder' (by (with_reducible repeat (first | apply Kd.R_alloc | apply Kd.R_drewN | apply Kd.R_drew)); exact HL304_1.out) (Kd.R_base ho0) hb); have n2_ := Aside0.mk (Kd.R_lower (Kd.R_new' ho0 (Kd.R_lt (by (with_reducible repeat (first | apply Kd.R_alloc | apply Kd.R_drewN | apply Kd.R_drew)); exact HL304_1.out))) (below_size (by repeat (first | (with_reducible first | exact HB.out | apply below_alloc | apply pw_below_drewN | apply below_drew1) | exact HB.out)))); have n3_ := Aside0.mk (Kd.C_below (by repeat (first | (with_reducible exact HR304_1.out) | (with_reducible refine Kd.C_alloc ?_ _) | (with_reducible refine Kd.C_drewN ?_ _) | (with_reducible refine Kd.C_drew ?_) | exact HR304_1.out)) hb); have n4_ := Aside0.mk (below_step (by repeat (first | (with_reducible first | exact HB.out | apply below_alloc | apply pw_below_drewN | apply below_drew1) | exact HB.out)) hb); clear HO_5; clear HL304_1; clear HR304_1; clear HB; have HO_5 := n0_; have HL304_1 := n1_; have HO308 := n2_; have HR304_1 := n3_; have HB := n4_; clear n0_ n1_ n2_ n3_ n4_; (try clear hb); (try clear hb2); (try clear hk); (try clear hi); (try clear ho0); have p309 : 0 ≤ (x11_3 : Int) := of_decide_eq_true (by first | (with_reducible assumption) | assumption); have q309 : x11_3 < (t287.length : Int) := of_decide_eq_true (by first | (with_reducible assumption) | assumption); obtain ⟨ad309, A309_1, c309_1, e309, hx309_0, hx309_1, hx309_2, hl309_1, hi309_1⟩ := at_T96 (Kd.S_reads' HO_5.out).2.2 x11_3 p309 q309; (try rw [← Nbq37.out] at hx309_2); (try rw [← Nbq37.out] at hw309_2); obtain rfl : ad304 = ad309 := (by injection e309); obtain ⟨ce309, hce309, hMe309, hcc309⟩ := Kd.S_get HO_5.out z96 x11_3 p309 (by first | exact q309 | exact of_decide_eq_true (by first | (with_reducible assumption) | assumption) | (have e_ := (Kd.S_reads' HO_5.out).1; omega)); obtain ⟨ve309_1, rfl, ge309_1⟩ := k96_openM hMe309; have hv309_1 := hcc309 1 _ rfl; rw [add_field _ _ 1 (by omega)] at hv309_1; replace hv309_1 := Option.some.inj (hv309_1.symm.trans hx309_1); rw [hv309_1] at ge309_1; have HL309_1 := Aside0.mk (show Kd.R (Kd.int .u8) 5 _ _ _ _ ((rd_T96 t287 x11_3).f1) from ge309_1); clear hv309_1 ge309_1; clear hcc309 hce309; have HR309_1 := Aside0.mk hi309_1; have HC309_1 := Aside0.mk hl309_1; clear hi309_1 hl309_1; replace p309 := eq_true p309; replace q309 := eq_true q309))
                          go_ret
                          exact ⟨by first | rfl | (simp [errW_none, errW_some] <;> rfl) | (simp [*, errW_none, errW_some] <;> rfl), by repeat (first | (with_reducible first | exact HB.out | apply below_alloc | apply pw_below_drewN | apply below_drew1) | exact HB.out)⟩
                      · replace c38 := Bool.eq_false_iff.mpr c38
                        subst c38
                        have H1 : (if (false = true) then (cohortlaw09_BatchWay.l0 k3 l0 t287 (wrap64 (x11_3 + 1))) else (if t306 = true then ((cohortref00_Same.f t305 ((rd_T96 t287 x11_3).f1)).bind fun t315 => (if t315 = true then (some false) else (cohortlaw09_BatchWay.l0 k3 l0 t287 (wrap64 (x11_3 + 1))))) else (cohortlaw09_BatchWay.l0 k3 l0 t287 (wrap64 (x11_3 + 1))))) = some r := by rw [if_neg (show ¬ (false = true) by decide)] at H; exact H
                        clear H
                        have H := H1
                        clear H1
                        by_cases c49 : (false = true)
                        · exact absurd c49 (by decide)
                        · clear c49
                          skip
                          have H1 : (if t306 = true then ((cohortref00_Same.f t305 ((rd_T96 t287 x11_3).f1)).bind fun t315 => (if t315 = true then (some false) else (cohortlaw09_BatchWay.l0 k3 l0 t287 (wrap64 (x11_3 + 1))))) else (cohortlaw09_BatchWay.l0 k3 l0 t287 (wrap64 (x11_3 + 1)))) = some r := by rw [if_neg (show ¬ (false = true) by decide)] at H; exact H
                          clear H
                          have H := H1
                          clear H1
                          by_cases c51 : t306 = true
                          · subst c51
                            have H1 : ((cohortref00_Same.f t305 ((rd_T96 t287 x11_3).f1)).bind fun t315 => (if t315 = true then (some false) else (cohortlaw09_BatchWay.l0 k3 l0 t287 (wrap64 (x11_3 + 1))))) = some r := by rw [if_pos rfl] at H; exact H
                            clear H
                            have H := H1
                            clear H1
                            replace H := Option.bind_eq_some_iff.mp H
                            obtain ⟨t315, A520, H⟩ := H
                            replace H : (if t315 = true then (some false) else (cohortlaw09_BatchWay.l0 k3 l0 t287 (wrap64 (x11_3 + 1)))) = some r := H
                            have A52 := Aside0.mk A520
                            clear A520
                            by_cases c53 : t315 = true
                            · subst c53
                              have H1 : (some false) = some r := by rw [if_pos rfl] at H; exact H
                              clear H
                              have H := H1
                              clear H1
                              obtain rfl := Option.some.inj H
                              have p304 : 0 ≤ (x11_3 : Int) := of_decide_eq_true (by first | (with_reducible assumption) | assumption)
                              have q304 : x11_3 < (t287.length : Int) := of_decide_eq_true (by first | (with_reducible assumption) | assumption)
                              obtain ⟨ad304, A304_1, c304_1, e304, hx304_0, hx304_1, hx304_2, hl304_1, hi304_1⟩ := at_T96 (Kd.S_reads' HO_5.out).2.2 x11_3 p304 q304
                              (try rw [← Nbq37.out] at hx304_2); (try rw [← Nbq37.out] at hw304_2)
                              cases e304
                              obtain ⟨ce304, hce304, hMe304, hcc304⟩ := Kd.S_get HO_5.out z96 x11_3 p304 (by first | exact q304 | exact of_decide_eq_true (by first | (with_reducible assumption) | assumption) | (have e_ := (Kd.S_reads' HO_5.out).1; omega))
                              obtain ⟨ve304_1, rfl, ge304_1⟩ := k96_openM hMe304
                              have hv304_1 := hcc304 1 _ rfl
                              rw [add_field _ _ 1 (by omega)] at hv304_1
                              replace hv304_1 := Option.some.inj (hv304_1.symm.trans hx304_1)
                              rw [hv304_1] at ge304_1
                              have HL304_1 := Aside0.mk (show Kd.R (Kd.int .u8) 5 _ _ _ _ ((rd_T96 t287 x11_3).f1) from ge304_1)
                              clear hv304_1 ge304_1
                              clear hcc304 hce304
                              have HR304_1 := Aside0.mk hi304_1
                              have HC304_1 := Aside0.mk hl304_1
                              clear hi304_1 hl304_1
                              replace p304 := eq_true p304
                              replace q304 := eq_true q304
                              go_wp2_with (first | ((with_reducible refine gate_callee (f := 43) rfl ?_); refine goesL_ (some 84) rfl rfl Try.func43 (by kernel_rfl) rfl #[.slice A0 l0.length c0, .string ((rd_T96 t287 x11_3).f0)] rfl (by (try simp only [List.map_toArray, List.map_cons, List.map_nil]); first | done | rfl | (simp only [List.length_drop, List.length_take]; rfl)) ?_; (with_reducible refine (batch_Find.calls _ _ l0 ((rd_T96 t287 x11_3).f0) t305 true _ ?side1 ?side2 A36.out).mono ?_); (case side1 => repeat (first | exact (Kd.C_below HR0.out HB.out) | (with_reducible refine Kd.C_alloc ?_ _) | (with_reducible refine Kd.C_drewN ?_ _) | (with_reducible refine Kd.C_drew ?_))); (case side2 => exact HC0.out); rintro e w54 ⟨v307, rfl, ho0, hb⟩; refine ⟨_, rfl, ?_⟩; have n0_ := Aside0.mk (Kd.S_elder' (by (with_reducible repeat (first | apply Kd.S_alloc | apply Kd.S_drewN | apply Kd.S_drew)); exact HO_5.out) (Kd.R_base ho0) hb); have n1_ := Aside0.mk (Kd.R_elder' (by (with_reducible repeat (first | apply Kd.R_alloc | apply Kd.R_drewN | apply Kd.R_drew)); exact HL304_1.out) (Kd.R_base ho0) hb); have n2_ := Aside0.mk (Kd.R_lower (Kd.R_new' ho0 (Kd.R_lt (by (with_reducible repeat (first | apply Kd.R_alloc | apply Kd.R_drewN | apply Kd.R_drew)); exact HL304_1.out))) (below_size (by repeat (first | (with_reducible first | exact HB.out | apply below_alloc | apply pw_below_drewN | apply below_drew1) | exact HB.out)))); have n3_ := Aside0.mk (Kd.C_below (by repeat (first | (with_reducible exact HR304_1.out) | (with_reducible refine Kd.C_alloc ?_ _) | (with_reducible refine Kd.C_drewN ?_ _) | (with_reducible refine Kd.C_drew ?_) | exact HR304_1.out)) hb); have n4_ := Aside0.mk (below_step (by repeat (first | (with_reducible first | exact HB.out | apply below_alloc | apply pw_below_drewN | apply below_drew1) | exact HB.out)) hb); clear HO_5; clear HL304_1; clear HR304_1; clear HB; have HO_5 := n0_; have HL304_1 := n1_; have HO308 := n2_; have HR304_1 := n3_; have HB := n4_; clear n0_ n1_ n2_ n3_ n4_; (try clear hb); (try clear hb2); (try clear hk); (try clear hi); (try clear ho0); have p309 : 0 ≤ (x11_3 : Int) := of_decide_eq_true (by first | (with_reducible assumption) | assumption); have q309 : x11_3 < (t287.length : Int) := of_decide_eq_true (by first | (with_reducible assumption) | assumption); obtain ⟨ad309, A309_1, c309_1, e309, hx309_0, hx309_1, hx309_2, hl309_1, hi309_1⟩ := at_T96 (Kd.S_reads' HO_5.out).2.2 x11_3 p309 q309; (try rw [← Nbq37.out] at hx309_2); (try rw [← Nbq37.out] at hw309_2); obtain rfl : ad304 = ad309 := (by injection e309); obtain ⟨ce309, hce309, hMe309, hcc309⟩ := Kd.S_get HO_5.out z96 x11_3 p309 (by first | exact q309 | exact of_decide_eq_true (by first | (with_reducible assumption) | assumption) | (have e_ := (Kd.S_reads' HO_5.out).1; omega)); obtain ⟨ve309_1, rfl, ge309_1⟩ := k96_openM hMe309; have hv309_1 := hcc309 1 _ rfl; rw [add_field _ _ 1 (by omega)] at hv309_1; replace hv309_1 := Option.some.inj (hv309_1.symm.trans hx309_1); rw [hv309_1] at ge309_1; have HL309_1 := Aside0.mk (show Kd.R (Kd.int .u8) 5 _ _ _ _ ((rd_T96 t287 x11_3).f1) from ge309_1); clear hv309_1 ge309_1; clear hcc309 hce309; have HR309_1 := Aside0.mk hi309_1; have HC309_1 := Aside0.mk hl309_1; clear hi309_1 hl309_1; replace p309 := eq_true p309; replace q309 := eq_true q309; have p313 : 0 ≤ (x11_3 : Int) := of_decide_eq_true (by first | (with_reducible assumption) | assumption); have q313 : x11_3 < (t287.length : Int) := of_decide_eq_true (by first | (with_reducible assumption) | assumption); obtain ⟨ad313, A313_1, c313_1, e313, hx313_0, hx313_1, hx313_2, hl313_1, hi313_1⟩ := at_T96 (Kd.S_reads' HO_5.out).2.2 x11_3 p313 q313; (try rw [← Nbq37.out] at hx313_2); (try rw [← Nbq37.out] at hw313_2); obtain rfl : ad304 = ad313 := (by injection e313); obtain ⟨ce313, hce313, hMe313, hcc313⟩ := Kd.S_get HO_5.out z96 x11_3 p313 (by first | exact q313 | exact of_decide_eq_true (by first | (with_reducible assumption) | assumption) | (have e_ := (Kd.S_reads' HO_5.out).1; omega)); obtain ⟨ve313_1, rfl, ge313_1⟩ := k96_openM hMe313; have hv313_1 := hcc313 1 _ rfl; rw [add_field _ _ 1 (by omega)] at hv313_1; replace hv313_1 := Option.some.inj (hv313_1.symm.trans hx313_1); rw [hv313_1] at ge313_1; have HL313_1 := Aside0.mk (show Kd.R (Kd.int .u8) 5 _ _ _ _ ((rd_T96 t287 x11_3).f1) from ge313_1); clear hv313_1 ge313_1; clear hcc313 hce313; have HR313_1 := Aside0.mk hi313_1; have HC313_1 := Aside0.mk hl313_1; clear hi313_1 hl313_1; replace p313 := eq_true p313; replace q313 := eq_true q313; have ea_ := Option.some.inj (hx309_1.symm.trans hx313_1); injection ea_ with ea_ en_ ec_; subst ea_; subst ec_; clear en_; have p314 : 0 ≤ (x11_3 : Int) := of_decide_eq_true (by first | (with_reducible assumption) | assumption); have q314 : x11_3 < (t287.length : Int) := of_decide_eq_true (by first | (with_reducible assumption) | assumption); obtain ⟨ad314, A314_1, c314_1, e314, hx314_0, hx314_1, hx314_2, hl314_1, hi314_1⟩ := at_T96 (Kd.S_reads' HO_5.out).2.2 x11_3 p314 q314; (try rw [← Nbq37.out] at hx314_2); (try rw [← Nbq37.out] at hw314_2); obtain rfl : ad304 = ad314 := (by injection e314); obtain ⟨ce314, hce314, hMe314, hcc314⟩ := Kd.S_get HO_5.out z96 x11_3 p314 (by first | exact q314 | exact of_decide_eq_true (by first | (with_reducible assumption) | assumption) | (have e_ := (Kd.S_reads' HO_5.out).1; omega)); obtain ⟨ve314_1, rfl, ge314_1⟩ := k96_openM hMe314; have hv314_1 := hcc314 1 _ rfl; rw [add_field _ _ 1 (by omega)] at hv314_1; replace hv314_1 := Option.some.inj (hv314_1.symm.trans hx314_1); rw [hv314_1] at ge314_1; have HL314_1 := Aside0.mk (show Kd.R (Kd.int .u8) 5 _ _ _ _ ((rd_T96 t287 x11_3).f1) from ge314_1); clear hv314_1 ge314_1; clear hcc314 hce314; have HR314_1 := Aside0.mk hi314_1; have HC314_1 := Aside0.mk hl314_1; clear hi314_1 hl314_1; replace p314 := eq_true p314; replace q314 := eq_true q314; have ea_ := Option.some.inj (hx309_1.symm.trans hx314_1); injection ea_ with ea_ en_ ec_; subst ea_; subst ec_; clear en_; obtain ⟨Ao55, co55, eo55⟩ := Kd.R_slice HO308.out; subst eo55) | (go_at_call 37; (with_reducible refine (cohortref00_Same.calls _ _ t305 _ _ ((rd_T96 t287 x11_3).f1) true _ ?side1 ?side2 ?side3 ?side4 A52.out).mono ?_); (case side1 => repeat (first | exact (Kd.R_reads' HO308.out).2.2 | (with_reducible refine Kd.C_alloc ?_ _) | (with_reducible refine Kd.C_drewN ?_ _) | (with_reducible refine Kd.C_drew ?_))); (case side2 => exact (Kd.R_reads' HO308.out).2.1); (case side3 => repeat (first | exact (by repeat (first | (with_reducible exact HR314_1.out) | (with_reducible refine Kd.C_alloc ?_ _) | (with_reducible refine Kd.C_drewN ?_ _) | (with_reducible refine Kd.C_drew ?_) | exact HR314_1.out)) | (with_reducible refine Kd.C_alloc ?_ _) | (with_reducible refine Kd.C_drewN ?_ _) | (with_reducible refine Kd.C_drew ?_))); (case side4 => exact HC314_1.out); rintro e w' ⟨rfl, ⟨nd, rfl⟩⟩))
                              go_ret
                              exact ⟨by first | rfl | (simp [errW_none, errW_some] <;> rfl) | (simp [*, errW_none, errW_some] <;> rfl), by repeat (first | (with_reducible first | exact HB.out | apply below_alloc | apply pw_below_drewN | apply below_drew1) | exact HB.out)⟩
                            · replace c53 := Bool.eq_false_iff.mpr c53
                              subst c53
                              have H1 : (cohortlaw09_BatchWay.l0 k3 l0 t287 (wrap64 (x11_3 + 1))) = some r := by rw [if_neg (show ¬ (false = true) by decide)] at H; exact H
                              clear H
                              have H := H1
                              clear H1
                              have H' := Aside0.mk H
                              clear H
                              have p304 : 0 ≤ (x11_3 : Int) := of_decide_eq_true (by first | (with_reducible assumption) | assumption)
                              have q304 : x11_3 < (t287.length : Int) := of_decide_eq_true (by first | (with_reducible assumption) | assumption)
                              obtain ⟨ad304, A304_1, c304_1, e304, hx304_0, hx304_1, hx304_2, hl304_1, hi304_1⟩ := at_T96 (Kd.S_reads' HO_5.out).2.2 x11_3 p304 q304
                              (try rw [← Nbq37.out] at hx304_2); (try rw [← Nbq37.out] at hw304_2)
                              cases e304
                              obtain ⟨ce304, hce304, hMe304, hcc304⟩ := Kd.S_get HO_5.out z96 x11_3 p304 (by first | exact q304 | exact of_decide_eq_true (by first | (with_reducible assumption) | assumption) | (have e_ := (Kd.S_reads' HO_5.out).1; omega))
                              obtain ⟨ve304_1, rfl, ge304_1⟩ := k96_openM hMe304
                              have hv304_1 := hcc304 1 _ rfl
                              rw [add_field _ _ 1 (by omega)] at hv304_1
                              replace hv304_1 := Option.some.inj (hv304_1.symm.trans hx304_1)
                              rw [hv304_1] at ge304_1
                              have HL304_1 := Aside0.mk (show Kd.R (Kd.int .u8) 5 _ _ _ _ ((rd_T96 t287 x11_3).f1) from ge304_1)
                              clear hv304_1 ge304_1
                              clear hcc304 hce304
                              have HR304_1 := Aside0.mk hi304_1
                              have HC304_1 := Aside0.mk hl304_1
                              clear hi304_1 hl304_1
                              replace p304 := eq_true p304
                              replace q304 := eq_true q304
                              go_wp2_with (first | ((with_reducible refine gate_callee (f := 43) rfl ?_); refine goesL_ (some 84) rfl rfl Try.func43 (by kernel_rfl) rfl #[.slice A0 l0.length c0, .string ((rd_T96 t287 x11_3).f0)] rfl (by (try simp only [List.map_toArray, List.map_cons, List.map_nil]); first | done | rfl | (simp only [List.length_drop, List.length_take]; rfl)) ?_; (with_reducible refine (batch_Find.calls _ _ l0 ((rd_T96 t287 x11_3).f0) t305 true _ ?side1 ?side2 A36.out).mono ?_); (case side1 => repeat (first | exact (Kd.C_below HR0.out HB.out) | (with_reducible refine Kd.C_alloc ?_ _) | (with_reducible refine Kd.C_drewN ?_ _) | (with_reducible refine Kd.C_drew ?_))); (case side2 => exact HC0.out); rintro e w56 ⟨v307, rfl, ho0, hb⟩; refine ⟨_, rfl, ?_⟩; have n0_ := Aside0.mk (Kd.S_elder' (by (with_reducible repeat (first | apply Kd.S_alloc | apply Kd.S_drewN | apply Kd.S_drew)); exact HO_5.out) (Kd.R_base ho0) hb); have n1_ := Aside0.mk (Kd.R_elder' (by (with_reducible repeat (first | apply Kd.R_alloc | apply Kd.R_drewN | apply Kd.R_drew)); exact HL304_1.out) (Kd.R_base ho0) hb); have n2_ := Aside0.mk (Kd.R_lower (Kd.R_new' ho0 (Kd.R_lt (by (with_reducible repeat (first | apply Kd.R_alloc | apply Kd.R_drewN | apply Kd.R_drew)); exact HL304_1.out))) (below_size (by repeat (first | (with_reducible first | exact HB.out | apply below_alloc | apply pw_below_drewN | apply below_drew1) | exact HB.out)))); have n3_ := Aside0.mk (Kd.C_below (by repeat (first | (with_reducible exact HR304_1.out) | (with_reducible refine Kd.C_alloc ?_ _) | (with_reducible refine Kd.C_drewN ?_ _) | (with_reducible refine Kd.C_drew ?_) | exact HR304_1.out)) hb); have n4_ := Aside0.mk (below_step (by repeat (first | (with_reducible first | exact HB.out | apply below_alloc | apply pw_below_drewN | apply below_drew1) | exact HB.out)) hb); clear HO_5; clear HL304_1; clear HR304_1; clear HB; have HO_5 := n0_; have HL304_1 := n1_; have HO308 := n2_; have HR304_1 := n3_; have HB := n4_; clear n0_ n1_ n2_ n3_ n4_; (try clear hb); (try clear hb2); (try clear hk); (try clear hi); (try clear ho0); have p309 : 0 ≤ (x11_3 : Int) := of_decide_eq_true (by first | (with_reducible assumption) | assumption); have q309 : x11_3 < (t287.length : Int) := of_decide_eq_true (by first | (with_reducible assumption) | assumption); obtain ⟨ad309, A309_1, c309_1, e309, hx309_0, hx309_1, hx309_2, hl309_1, hi309_1⟩ := at_T96 (Kd.S_reads' HO_5.out).2.2 x11_3 p309 q309; (try rw [← Nbq37.out] at hx309_2); (try rw [← Nbq37.out] at hw309_2); obtain rfl : ad304 = ad309 := (by injection e309); obtain ⟨ce309, hce309, hMe309, hcc309⟩ := Kd.S_get HO_5.out z96 x11_3 p309 (by first | exact q309 | exact of_decide_eq_true (by first | (with_reducible assumption) | assumption) | (have e_ := (Kd.S_reads' HO_5.out).1; omega)); obtain ⟨ve309_1, rfl, ge309_1⟩ := k96_openM hMe309; have hv309_1 := hcc309 1 _ rfl; rw [add_field _ _ 1 (by omega)] at hv309_1; replace hv309_1 := Option.some.inj (hv309_1.symm.trans hx309_1); rw [hv309_1] at ge309_1; have HL309_1 := Aside0.mk (show Kd.R (Kd.int .u8) 5 _ _ _ _ ((rd_T96 t287 x11_3).f1) from ge309_1); clear hv309_1 ge309_1; clear hcc309 hce309; have HR309_1 := Aside0.mk hi309_1; have HC309_1 := Aside0.mk hl309_1; clear hi309_1 hl309_1; replace p309 := eq_true p309; replace q309 := eq_true q309; have p313 : 0 ≤ (x11_3 : Int) := of_decide_eq_true (by first | (with_reducible assumption) | assumption); have q313 : x11_3 < (t287.length : Int) := of_decide_eq_true (by first | (with_reducible assumption) | assumption); obtain ⟨ad313, A313_1, c313_1, e313, hx313_0, hx313_1, hx313_2, hl313_1, hi313_1⟩ := at_T96 (Kd.S_reads' HO_5.out).2.2 x11_3 p313 q313; (try rw [← Nbq37.out] at hx313_2); (try rw [← Nbq37.out] at hw313_2); obtain rfl : ad304 = ad313 := (by injection e313); obtain ⟨ce313, hce313, hMe313, hcc313⟩ := Kd.S_get HO_5.out z96 x11_3 p313 (by first | exact q313 | exact of_decide_eq_true (by first | (with_reducible assumption) | assumption) | (have e_ := (Kd.S_reads' HO_5.out).1; omega)); obtain ⟨ve313_1, rfl, ge313_1⟩ := k96_openM hMe313; have hv313_1 := hcc313 1 _ rfl; rw [add_field _ _ 1 (by omega)] at hv313_1; replace hv313_1 := Option.some.inj (hv313_1.symm.trans hx313_1); rw [hv313_1] at ge313_1; have HL313_1 := Aside0.mk (show Kd.R (Kd.int .u8) 5 _ _ _ _ ((rd_T96 t287 x11_3).f1) from ge313_1); clear hv313_1 ge313_1; clear hcc313 hce313; have HR313_1 := Aside0.mk hi313_1; have HC313_1 := Aside0.mk hl313_1; clear hi313_1 hl313_1; replace p313 := eq_true p313; replace q313 := eq_true q313; have ea_ := Option.some.inj (hx309_1.symm.trans hx313_1); injection ea_ with ea_ en_ ec_; subst ea_; subst ec_; clear en_; have p314 : 0 ≤ (x11_3 : Int) := of_decide_eq_true (by first | (with_reducible assumption) | assumption); have q314 : x11_3 < (t287.length : Int) := of_decide_eq_true (by first | (with_reducible assumption) | assumption); obtain ⟨ad314, A314_1, c314_1, e314, hx314_0, hx314_1, hx314_2, hl314_1, hi314_1⟩ := at_T96 (Kd.S_reads' HO_5.out).2.2 x11_3 p314 q314; (try rw [← Nbq37.out] at hx314_2); (try rw [← Nbq37.out] at hw314_2); obtain rfl : ad304 = ad314 := (by injection e314); obtain ⟨ce314, hce314, hMe314, hcc314⟩ := Kd.S_get HO_5.out z96 x11_3 p314 (by first | exact q314 | exact of_decide_eq_true (by first | (with_reducible assumption) | assumption) | (have e_ := (Kd.S_reads' HO_5.out).1; omega)); obtain ⟨ve314_1, rfl, ge314_1⟩ := k96_openM hMe314; have hv314_1 := hcc314 1 _ rfl; rw [add_field _ _ 1 (by omega)] at hv314_1; replace hv314_1 := Option.some.inj (hv314_1.symm.trans hx314_1); rw [hv314_1] at ge314_1; have HL314_1 := Aside0.mk (show Kd.R (Kd.int .u8) 5 _ _ _ _ ((rd_T96 t287 x11_3).f1) from ge314_1); clear hv314_1 ge314_1; clear hcc314 hce314; have HR314_1 := Aside0.mk hi314_1; have HC314_1 := Aside0.mk hl314_1; clear hi314_1 hl314_1; replace p314 := eq_true p314; replace q314 := eq_true q314; have ea_ := Option.some.inj (hx309_1.symm.trans hx314_1); injection ea_ with ea_ en_ ec_; subst ea_; subst ec_; clear en_; obtain ⟨Ao57, co57, eo57⟩ := Kd.R_slice HO308.out; subst eo57) | (go_at_call 37; (with_reducible refine (cohortref00_Same.calls _ _ t305 _ _ ((rd_T96 t287 x11_3).f1) false _ ?side1 ?side2 ?side3 ?side4 A52.out).mono ?_); (case side1 => repeat (first | exact (Kd.R_reads' HO308.out).2.2 | (with_reducible refine Kd.C_alloc ?_ _) | (with_reducible refine Kd.C_drewN ?_ _) | (with_reducible refine Kd.C_drew ?_))); (case side2 => exact (Kd.R_reads' HO308.out).2.1); (case side3 => repeat (first | exact (by repeat (first | (with_reducible exact HR314_1.out) | (with_reducible refine Kd.C_alloc ?_ _) | (with_reducible refine Kd.C_drewN ?_ _) | (with_reducible refine Kd.C_drew ?_) | exact HR314_1.out)) | (with_reducible refine Kd.C_alloc ?_ _) | (with_reducible refine Kd.C_drewN ?_ _) | (with_reducible refine Kd.C_drew ?_))); (case side4 => exact HC314_1.out); rintro e w' ⟨rfl, ⟨nd, rfl⟩⟩))
                              go_roundg k3
                              case measure => have := HJ3.out; have := HJ20.out; have := HK3.out; omega
                              case rel => exact ⟨(wrap64 (x11_3 + 1)), (by first | rfl | (simp; done) | (simp [*]; done)), H', ⟨by have := HJ3.out; have := HJ20.out; have := HK3.out; omega⟩, ⟨by (with_reducible repeat (first | apply Kd.S_alloc | apply Kd.S_drewN | apply Kd.S_drew)); exact Kd.S_mono HO_5.out (fun _ hk => trivial)⟩, ⟨by repeat (first | (with_reducible first | exact HB.out | apply below_alloc | apply pw_below_drewN | apply below_drew1) | exact HB.out)⟩⟩
                          · replace c51 := Bool.eq_false_iff.mpr c51
                            subst c51
                            have H1 : (cohortlaw09_BatchWay.l0 k3 l0 t287 (wrap64 (x11_3 + 1))) = some r := by rw [if_neg (show ¬ (false = true) by decide)] at H; exact H
                            clear H
                            have H := H1
                            clear H1
                            have H' := Aside0.mk H
                            clear H
                            have p304 : 0 ≤ (x11_3 : Int) := of_decide_eq_true (by first | (with_reducible assumption) | assumption)
                            have q304 : x11_3 < (t287.length : Int) := of_decide_eq_true (by first | (with_reducible assumption) | assumption)
                            obtain ⟨ad304, A304_1, c304_1, e304, hx304_0, hx304_1, hx304_2, hl304_1, hi304_1⟩ := at_T96 (Kd.S_reads' HO_5.out).2.2 x11_3 p304 q304
                            (try rw [← Nbq37.out] at hx304_2); (try rw [← Nbq37.out] at hw304_2)
                            cases e304
                            obtain ⟨ce304, hce304, hMe304, hcc304⟩ := Kd.S_get HO_5.out z96 x11_3 p304 (by first | exact q304 | exact of_decide_eq_true (by first | (with_reducible assumption) | assumption) | (have e_ := (Kd.S_reads' HO_5.out).1; omega))
                            obtain ⟨ve304_1, rfl, ge304_1⟩ := k96_openM hMe304
                            have hv304_1 := hcc304 1 _ rfl
                            rw [add_field _ _ 1 (by omega)] at hv304_1
                            replace hv304_1 := Option.some.inj (hv304_1.symm.trans hx304_1)
                            rw [hv304_1] at ge304_1
                            have HL304_1 := Aside0.mk (show Kd.R (Kd.int .u8) 5 _ _ _ _ ((rd_T96 t287 x11_3).f1) from ge304_1)
                            clear hv304_1 ge304_1
                            clear hcc304 hce304
                            have HR304_1 := Aside0.mk hi304_1
                            have HC304_1 := Aside0.mk hl304_1
                            clear hi304_1 hl304_1
                            replace p304 := eq_true p304
                            replace q304 := eq_true q304
                            go_wp2_with (first | ((with_reducible refine gate_callee (f := 43) rfl ?_); refine goesL_ (some 84) rfl rfl Try.func43 (by kernel_rfl) rfl #[.slice A0 l0.length c0, .string ((rd_T96 t287 x11_3).f0)] rfl (by (try simp only [List.map_toArray, List.map_cons, List.map_nil]); first | done | rfl | (simp only [List.length_drop, List.length_take]; rfl)) ?_; (with_reducible refine (batch_Find.calls _ _ l0 ((rd_T96 t287 x11_3).f0) t305 false _ ?side1 ?side2 A36.out).mono ?_); (case side1 => repeat (first | exact (Kd.C_below HR0.out HB.out) | (with_reducible refine Kd.C_alloc ?_ _) | (with_reducible refine Kd.C_drewN ?_ _) | (with_reducible refine Kd.C_drew ?_))); (case side2 => exact HC0.out); rintro e w58 ⟨v307, rfl, ho0, hb⟩; refine ⟨_, rfl, ?_⟩; have n0_ := Aside0.mk (Kd.S_elder' (by (with_reducible repeat (first | apply Kd.S_alloc | apply Kd.S_drewN | apply Kd.S_drew)); exact HO_5.out) (Kd.R_base ho0) hb); have n1_ := Aside0.mk (Kd.R_elder' (by (with_reducible repeat (first | apply Kd.R_alloc | apply Kd.R_drewN | apply Kd.R_drew)); exact HL304_1.out) (Kd.R_base ho0) hb); have n2_ := Aside0.mk (Kd.R_lower (Kd.R_new' ho0 (Kd.R_lt (by (with_reducible repeat (first | apply Kd.R_alloc | apply Kd.R_drewN | apply Kd.R_drew)); exact HL304_1.out))) (below_size (by repeat (first | (with_reducible first | exact HB.out | apply below_alloc | apply pw_below_drewN | apply below_drew1) | exact HB.out)))); have n3_ := Aside0.mk (Kd.C_below (by repeat (first | (with_reducible exact HR304_1.out) | (with_reducible refine Kd.C_alloc ?_ _) | (with_reducible refine Kd.C_drewN ?_ _) | (with_reducible refine Kd.C_drew ?_) | exact HR304_1.out)) hb); have n4_ := Aside0.mk (below_step (by repeat (first | (with_reducible first | exact HB.out | apply below_alloc | apply pw_below_drewN | apply below_drew1) | exact HB.out)) hb); clear HO_5; clear HL304_1; clear HR304_1; clear HB; have HO_5 := n0_; have HL304_1 := n1_; have HO308 := n2_; have HR304_1 := n3_; have HB := n4_; clear n0_ n1_ n2_ n3_ n4_; (try clear hb); (try clear hb2); (try clear hk); (try clear hi); (try clear ho0); have p309 : 0 ≤ (x11_3 : Int) := of_decide_eq_true (by first | (with_reducible assumption) | assumption); have q309 : x11_3 < (t287.length : Int) := of_decide_eq_true (by first | (with_reducible assumption) | assumption); obtain ⟨ad309, A309_1, c309_1, e309, hx309_0, hx309_1, hx309_2, hl309_1, hi309_1⟩ := at_T96 (Kd.S_reads' HO_5.out).2.2 x11_3 p309 q309; (try rw [← Nbq37.out] at hx309_2); (try rw [← Nbq37.out] at hw309_2); obtain rfl : ad304 = ad309 := (by injection e309); obtain ⟨ce309, hce309, hMe309, hcc309⟩ := Kd.S_get HO_5.out z96 x11_3 p309 (by first | exact q309 | exact of_decide_eq_true (by first | (with_reducible assumption) | assumption) | (have e_ := (Kd.S_reads' HO_5.out).1; omega)); obtain ⟨ve309_1, rfl, ge309_1⟩ := k96_openM hMe309; have hv309_1 := hcc309 1 _ rfl; rw [add_field _ _ 1 (by omega)] at hv309_1; replace hv309_1 := Option.some.inj (hv309_1.symm.trans hx309_1); rw [hv309_1] at ge309_1; have HL309_1 := Aside0.mk (show Kd.R (Kd.int .u8) 5 _ _ _ _ ((rd_T96 t287 x11_3).f1) from ge309_1); clear hv309_1 ge309_1; clear hcc309 hce309; have HR309_1 := Aside0.mk hi309_1; have HC309_1 := Aside0.mk hl309_1; clear hi309_1 hl309_1; replace p309 := eq_true p309; replace q309 := eq_true q309; have p313 : 0 ≤ (x11_3 : Int) := of_decide_eq_true (by first | (with_reducible assumption) | assumption); have q313 : x11_3 < (t287.length : Int) := of_decide_eq_true (by first | (with_reducible assumption) | assumption); obtain ⟨ad313, A313_1, c313_1, e313, hx313_0, hx313_1, hx313_2, hl313_1, hi313_1⟩ := at_T96 (Kd.S_reads' HO_5.out).2.2 x11_3 p313 q313; (try rw [← Nbq37.out] at hx313_2); (try rw [← Nbq37.out] at hw313_2); obtain rfl : ad304 = ad313 := (by injection e313); obtain ⟨ce313, hce313, hMe313, hcc313⟩ := Kd.S_get HO_5.out z96 x11_3 p313 (by first | exact q313 | exact of_decide_eq_true (by first | (with_reducible assumption) | assumption) | (have e_ := (Kd.S_reads' HO_5.out).1; omega)); obtain ⟨ve313_1, rfl, ge313_1⟩ := k96_openM hMe313; have hv313_1 := hcc313 1 _ rfl; rw [add_field _ _ 1 (by omega)] at hv313_1; replace hv313_1 := Option.some.inj (hv313_1.symm.trans hx313_1); rw [hv313_1] at ge313_1; have HL313_1 := Aside0.mk (show Kd.R (Kd.int .u8) 5 _ _ _ _ ((rd_T96 t287 x11_3).f1) from ge313_1); clear hv313_1 ge313_1; clear hcc313 hce313; have HR313_1 := Aside0.mk hi313_1; have HC313_1 := Aside0.mk hl313_1; clear hi313_1 hl313_1; replace p313 := eq_true p313; replace q313 := eq_true q313; have ea_ := Option.some.inj (hx309_1.symm.trans hx313_1); injection ea_ with ea_ en_ ec_; subst ea_; subst ec_; clear en_))
                            go_roundg k3
                            case measure => have := HJ3.out; have := HJ20.out; have := HK3.out; omega
                            case rel => exact ⟨(wrap64 (x11_3 + 1)), (by first | rfl | (simp; done) | (simp [*]; done)), H', ⟨by have := HJ3.out; have := HJ20.out; have := HK3.out; omega⟩, ⟨by (with_reducible repeat (first | apply Kd.S_alloc | apply Kd.S_drewN | apply Kd.S_drew)); exact Kd.S_mono HO_5.out (fun _ hk => trivial)⟩, ⟨by repeat (first | (with_reducible first | exact HB.out | apply below_alloc | apply pw_below_drewN | apply below_drew1) | exact HB.out)⟩⟩
                    · rw [if_neg c35] at H
                      exact absurd H (by simp)
                  · rw [if_neg c34] at H
                    have c34b0 : decide (x11_3 < (t287.length : Int)) = false := decide_eq_false c34
                    clear c34
                    replace H := Option.bind_eq_some_iff.mp H
                    obtain ⟨t303, A590, H⟩ := H
                    replace H : (some t303) = some r := H
                    have A59 := Aside0.mk A590
                    clear A590
                    obtain rfl := Option.some.inj H
                    go_wp2_with (first | ((with_reducible refine gate_callee (f := 36) rfl ?_); refine goesL_ (some 116) rfl rfl Try.func36 (by kernel_rfl) rfl #[] rfl (by (try simp only [List.map_toArray, List.map_cons, List.map_nil]); first | done | rfl | (simp only [List.length_drop, List.length_take]; rfl)) ?_; (with_reducible refine (cohortlaw09_lives.calls  t303 _ A59.out).mono ?_); rintro e w60 ⟨rfl, hb⟩; refine ⟨_, rfl, ?_⟩; have n0_ := Aside0.mk (Kd.S_below (by (with_reducible repeat (first | apply Kd.S_alloc | apply Kd.S_drewN | apply Kd.S_drew)); exact HO_5.out) hb); have n1_ := Aside0.mk (below_step (by repeat (first | (with_reducible first | exact HB.out | apply below_alloc | apply pw_below_drewN | apply below_drew1) | exact HB.out)) hb); clear HO_5; clear HB; have HO_5 := n0_; have HB := n1_; clear n0_ n1_; (try clear hb); (try clear hb2); (try clear hk); (try clear hi)))
                    go_ret
                    exact ⟨by first | rfl | (simp [errW_none, errW_some] <;> rfl) | (simp [*, errW_none, errW_some] <;> rfl), by repeat (first | (with_reducible first | exact HB.out | apply below_alloc | apply pw_below_drewN | apply below_drew1) | exact HB.out)⟩

end Go.Proofs.Ytaoflcmjmhfblaa.D
