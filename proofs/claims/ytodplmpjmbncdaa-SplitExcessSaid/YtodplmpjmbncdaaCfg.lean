/- A configuration as a value, and package split's contracts. -/
import Derived.Test.YtodplmpjmbncdaaNum
namespace Go.Proofs.Ytodplmpjmbncdaa.H
open Go.RowKit Go.Proofs.YtodplmpjmbncdaaW.PrintWords Go.Proofs.YtodplmpjmbncdaaW.PrintLast Go.Proofs.YtodplmpjmbncdaaW.PrintMore
set_option linter.unusedVariables false
set_option linter.unusedSimpArgs false

/-- A slice's header. -/
structure Sl where
  a : Option Addr
  n : Nat
  c : Nat
def Sl.val (s : Sl) : Value := .slice s.a s.n s.c

structure Cfg where
  pools : Sl
  strategy : Int
  spread : Int
  fallback : Bool
  min : Int
  max : Int
  base : Int
  percent : Int
  surge : Int
  warm : Int
  drain : Int
  hookIn : Int
  hookOut : Int
  black : Int
  deadline : Int
  cool : Int
  replace : Bool
  target : Int
  bands : Sl
  plans : Sl
def Cfg.cells (c : Cfg) : Array Value := #[c.pools.val, .int .u8 c.strategy, .int .i64 c.spread, .bool c.fallback, .int .i64 c.min, .int .i64 c.max, .int .i64 c.base, .int .i64 c.percent, .int .i64 c.surge, .int .i64 c.warm,
  .int .u64 c.drain, .int .u64 c.hookIn, .int .u64 c.hookOut, .int .u64 c.black, .int .u64 c.deadline, .int .u64 c.cool, .bool c.replace, .int .i64 c.target, c.bands.val, c.plans.val]
def Cfg.val (c : Cfg) : Value := .agg c.cells

def split_may (base percent desired : Int) : Bool := decide (0 ≤ desired ∧ desired ≤ 65536 ∧ 0 ≤ base ∧ base ≤ 65536 ∧ 0 ≤ percent ∧ percent ≤ 100)
theorem clamp_ne (n h : Int) (hh : 0 ≤ h) : (n != clamp n 0 h) = !decide (0 ≤ n ∧ n ≤ h) := by
  unfold clamp
  by_cases h1 : 0 ≤ n ∧ n ≤ h
  · simp [h1]; omega
  · simp [h1]; omega
set_option maxHeartbeats 2000000 in
set_option maxRecDepth 100000 in
theorem split_may_calls (c : Cfg) (desired : Int) (w : World) :
    Calls Try.prog 71 #[c.val, .int .i64 desired] w fun e w' => e = .returned (.bool (split_may c.base c.percent desired)) ∧ Below w.heap.size w w' := by
  obtain ⟨⟨s0, n0, p0⟩, c1, c2, c3, c4, c5, c6, c7, c8, c9, c10, c11, c12, c13, c14, c15, c16, c17, ⟨s1, n1, p1⟩, ⟨s2, n2, p2⟩⟩ := c
  simp only [Cfg.val, Cfg.cells, Sl.val]
  have i0 : ∀ (a b c d e f : Int) (W : World), (Instr.index 139 (.agg #[.int .i64 a, .int .i64 b, .int .i64 c, .int .i64 d, .int .i64 e, .int .i64 f]) (.int .i64 0)).run Try.prog W = .ok (.agg #[.int .i64 a, .int .i64 b]) W := fun _ _ _ _ _ _ _ => by kernel_rfl
  have i1 : ∀ (a b c d e f : Int) (W : World), (Instr.index 139 (.agg #[.int .i64 a, .int .i64 b, .int .i64 c, .int .i64 d, .int .i64 e, .int .i64 f]) (.int .i64 1)).run Try.prog W = .ok (.agg #[.int .i64 c, .int .i64 d]) W := fun _ _ _ _ _ _ _ => by kernel_rfl
  have i2 : ∀ (a b c d e f : Int) (W : World), (Instr.index 139 (.agg #[.int .i64 a, .int .i64 b, .int .i64 c, .int .i64 d, .int .i64 e, .int .i64 f]) (.int .i64 2)).run Try.prog W = .ok (.agg #[.int .i64 e, .int .i64 f]) W := fun _ _ _ _ _ _ _ => by kernel_rfl
  obtain ⟨b0, hb0⟩ : ∃ b, (desired != clamp desired 0 65536) = b := ⟨_, rfl⟩
  obtain ⟨b1, hb1⟩ : ∃ b, (c6 != clamp c6 0 65536) = b := ⟨_, rfl⟩
  obtain ⟨b2, hb2⟩ : ∃ b, (c7 != clamp c7 0 100) = b := ⟨_, rfl⟩
  have hm : split_may c6 c7 desired = (!b0 && !b1 && !b2) := by
    rw [← hb0, ← hb1, ← hb2, clamp_ne _ _ (by omega), clamp_ne _ _ (by omega), clamp_ne _ _ (by omega)]
    simp only [split_may, Bool.not_not, ← Bool.decide_and, and_assoc]
  have HM := Lib.hid hm
  clear hm
  go_enter Try.func71, Try.ntmps71
  go_wp2
  refine wp_loop_rounds 4 ?_
  rw [rounds_succ]
  go_wp2
  go_quiet ((go_at_call 52; exact quiet_left (clamp_calls _ _ _ _)))
  cases b0
  case true => go_wp2; go_ret; exact ⟨by rw [HM.out]; rfl, by repeat (first | exact Below.refl _ _ | apply pw_below_drewN | apply below_alloc)⟩
  go_wp2
  rw [rounds_succ]
  go_wp2
  go_quiet ((go_at_call 52; first | exact quiet_left (clamp_calls _ _ _ _) | exact quiet_add_left (clamp_calls _ _ _ _)))
  cases b1
  case true => go_wp2; go_ret; exact ⟨by rw [HM.out]; rfl, by repeat (first | exact Below.refl _ _ | apply pw_below_drewN | apply below_alloc)⟩
  go_wp2
  rw [rounds_succ]
  go_wp2
  go_quiet ((go_at_call 52; first | exact quiet_left (clamp_calls _ _ _ _) | exact quiet_add_left (clamp_calls _ _ _ _)))
  cases b2
  case true => go_wp2; go_ret; exact ⟨by rw [HM.out]; rfl, by repeat (first | exact Below.refl _ _ | apply pw_below_drewN | apply below_alloc)⟩
  go_wp2
  rw [rounds_succ]
  go_wp2
  go_ret
  exact ⟨by rw [HM.out]; rfl, by repeat (first | exact Below.refl _ _ | apply pw_below_drewN | apply below_alloc)⟩
end Go.Proofs.Ytodplmpjmbncdaa.H
