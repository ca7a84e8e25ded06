/- The contracts of package num's functions on numbers: each call answers what a plain Lean function says, and changes nothing. -/
import Derived.Test.YtnlcpgeapgnkgaaBase
namespace Go.Proofs.Ytnlcpgeapgnkgaa.H
open Go.RowKit Go.Proofs.YtnlcpgeapgnkgaaW.PrintWords Go.Proofs.YtnlcpgeapgnkgaaW.PrintLast Go.Proofs.YtnlcpgeapgnkgaaW.PrintMore
set_option linter.unusedVariables false
set_option linter.unusedSimpArgs false

def up (a b : Int) : Int × Int := if b < 1 then (0, 2) else if 0 < a then (wrap64 (wrap64 (Int.tdiv (wrap64 (a - 1)) b) + 1), 0) else (wrap64 (Int.tdiv a b), 0)
theorem up_calls (a b : Int) (w : World) :
    Calls Try.prog 62 #[.int .i64 a, .int .i64 b] w fun e w' => e = .returned (.tuple #[.int .i64 (up a b).1, .int .i64 (up a b).2]) ∧ w = w' := by
  go_enter Try.func62, Try.ntmps62
  go_wp2
  all_goals
    go_ret2
    exact ⟨by unfold up; (repeat' split) <;> first | rfl | (exfalso; omega), rfl⟩

/-- A quotient, up, is the least number that is no less. -/
theorem up_eq {a b : Int} (ha : -9223372036854775808 ≤ a ∧ a ≤ 9223372036854775807) (hb : 1 ≤ b) : up a b = (-((-a) / b), 0) := by
  unfold up
  rw [if_neg (by omega)]
  by_cases h : 0 < a
  · have e1 : wrap64 (a - 1) = a - 1 := w64 (by omega) (by omega)
    have e2 : Int.tdiv (a - 1) b = (a - 1) / b := Int.tdiv_eq_ediv_of_nonneg (by omega)
    have e3 : 0 ≤ (a - 1) / b ∧ (a - 1) / b ≤ a - 1 := ⟨Int.ediv_nonneg (by omega) (by omega), Int.ediv_le_self _ (by omega)⟩
    rw [if_pos h, e1, e2, w64 (n := (a - 1) / b) (by omega) (by omega), w64 (by omega) (by omega)]
    have e4 : (-a) / b = -((a - 1) / b + 1) := by
      rw [show -a = (b - 1 - (a - 1)) + (-1) * b by omega, Int.add_mul_ediv_right _ _ (by omega)]
      have := Int.mul_ediv_add_emod (a - 1) b
      have hm := Int.emod_nonneg (a - 1) (show b ≠ 0 by omega)
      have hl := Int.emod_lt_of_pos (a - 1) (show 0 < b by omega)
      have : (b - 1 - (a - 1)) / b = -((a - 1) / b) := by
        rw [show b - 1 - (a - 1) = (b - 1 - (a - 1) % b) + (-((a - 1) / b)) * b by rw [Int.neg_mul, Int.mul_comm ((a - 1) / b)]; omega, Int.add_mul_ediv_right _ _ (by omega), Int.ediv_eq_zero_of_lt (by omega) (by omega)]
        omega
      omega
    rw [e4]; simp
  · rw [if_neg h]
    have e2 : Int.tdiv a b = -((-a) / b) := by
      rw [← Int.tdiv_eq_ediv_of_nonneg (by omega : 0 ≤ -a), Int.neg_tdiv]; simp
    have e3 : 0 ≤ (-a) / b ∧ (-a) / b ≤ -a := ⟨Int.ediv_nonneg (by omega) (by omega), Int.ediv_le_self _ (by omega)⟩
    rw [e2, w64 (by omega) (by omega)]

def size (n : Int) : Int := if n < 0 then IntKind.u64.wrap (-(IntKind.u64.wrap n)) else IntKind.u64.wrap n
theorem size_calls (n : Int) (w : World) :
    Calls Try.prog 66 #[.int .i64 n] w fun e w' => e = .returned (.int .u64 (size n)) ∧ w = w' := by
  go_enter Try.func66, Try.ntmps66
  go_wp2
  all_goals
    go_ret
    exact ⟨by unfold size; (repeat' split) <;> first | rfl | (exfalso; omega), rfl⟩


namespace M64
theorem maskN (a : Nat) (ha : a < 18446744073709551616) : Go.bits .and .u64 (a : Int) 4294967295 = ((a % 4294967296 : Nat) : Int) := by
  have h := bits_and_u64_nat a 4294967295 ha (by omega)
  have e : a &&& 4294967295 = a % 4294967296 := Nat.and_two_pow_sub_one_eq_mod a 32
  rw [e] at h
  exact h
theorem divN (a : Nat) : (a : Int) / 4294967296 = ((a / 4294967296 : Nat) : Int) := by omega
theorem mulN (a b : Nat) : (a : Int) * (b : Int) = ((a * b : Nat) : Int) := (Int.natCast_mul a b).symm
theorem addN (a b : Nat) : (a : Int) + (b : Int) = ((a + b : Nat) : Int) := (Int.natCast_add a b).symm
theorem wrapN (a : Nat) (ha : a < 18446744073709551616) : IntKind.u64.wrap (a : Int) = (a : Int) := by rw [IntKind.wrap_u64]; omega
theorem wrapM (a : Nat) : IntKind.u64.wrap (a : Int) = ((a % 18446744073709551616 : Nat) : Int) := by rw [IntKind.wrap_u64]; omega
end M64

set_option maxHeartbeats 1000000 in
/-- The two halves of a product of 128 bits. -/
theorem mul64_calls (x y : Nat) (hx : x < 18446744073709551616) (hy : y < 18446744073709551616) (w : World) :
    Calls Try.prog 65 #[.int .u64 x, .int .u64 y] w fun e w' => e = .returned (.tuple #[.int .u64 ((x * y / 18446744073709551616 : Nat) : Int), .int .u64 ((x * y % 18446744073709551616 : Nat) : Int)]) ∧ w = w' := by
  obtain ⟨bd, bt, bw, hhi⟩ := Lib.mul64_hi x y hx hy
  have ba := Lib.half_mul_le (a := x / 4294967296) (b := y / 4294967296) (by omega) (by omega)
  have bb := Lib.half_mul_le (a := x / 4294967296) (b := y % 4294967296) (by omega) (by omega)
  have bc := Lib.half_mul_le (a := x % 4294967296) (b := y / 4294967296) (by omega) (by omega)
  have ba' : x / 4294967296 * (y / 4294967296) < 18446744073709551616 := by omega
  have bb' : x / 4294967296 * (y % 4294967296) < 18446744073709551616 := by omega
  have bc' : x % 4294967296 * (y / 4294967296) < 18446744073709551616 := by omega
  have bh1 : x / 4294967296 * (y / 4294967296) + (x / 4294967296 * (y % 4294967296) + x % 4294967296 * (y % 4294967296) / 4294967296) / 4294967296 < 18446744073709551616 := by omega
  have bh : x / 4294967296 * (y / 4294967296) + (x / 4294967296 * (y % 4294967296) + x % 4294967296 * (y % 4294967296) / 4294967296) / 4294967296 + ((x / 4294967296 * (y % 4294967296) + x % 4294967296 * (y % 4294967296) / 4294967296) % 4294967296 + x % 4294967296 * (y / 4294967296)) / 4294967296 < 18446744073709551616 := by omega
  go_enter Try.func65, Try.ntmps65
  go_wp2
  simp only [M64.maskN x hx, M64.maskN y hy, M64.divN, M64.mulN, M64.addN, M64.wrapN _ bd, M64.wrapN _ bb', M64.wrapN _ bt, M64.maskN _ bt, M64.wrapN _ bc', M64.wrapN _ bw, M64.wrapN _ ba', M64.wrapN _ bh1, M64.wrapN _ bh, M64.wrapM (x * y)]
  rw [hhi]
  go_ret2
  exact ⟨rfl, rfl⟩

def inI64 (n : Int) : Bool := decide (-9223372036854775808 ≤ n) && decide (n ≤ 9223372036854775807)
/-- A product, if it fits; else an error. -/
def mul (a b : Int) : Int × Int := if inI64 (a * b) then (a * b, 0) else (0, 11)
theorem size_nat {n : Int} (h : inI64 n = true) : size n = (n.natAbs : Int) ∧ n.natAbs ≤ 9223372036854775808 := by
  simp [inI64] at h
  unfold size
  rw [wu64m, wu64m]
  split <;> omega
set_option maxHeartbeats 1000000 in
theorem mul_calls (a b : Int) (ha : inI64 a = true) (hb : inI64 b = true) (w : World) :
    Calls Try.prog 61 #[.int .i64 a, .int .i64 b] w fun e w' => e = .returned (.tuple #[.int .i64 (mul a b).1, .int .i64 (mul a b).2]) ∧ w = w' := by
  obtain ⟨sa, la⟩ := size_nat ha
  obtain ⟨sb, lb⟩ := size_nat hb
  have hN : ((a * b).natAbs : Nat) = a.natAbs * b.natAbs := Int.natAbs_mul a b
  have hA : ((a * b).natAbs : Int) = a * b ∨ ((a * b).natAbs : Int) = -(a * b) := by omega
  have hle : a.natAbs * b.natAbs ≤ 9223372036854775808 * 9223372036854775808 := Nat.mul_le_mul la lb
  have hs : 0 ≤ a * b ∧ (a < 0 ↔ b < 0) ∨ a * b ≤ 0 ∧ ¬ (a < 0 ↔ b < 0) := by
    rcases Int.lt_or_le a 0 with h1 | h1 <;> rcases Int.lt_or_le b 0 with h2 | h2
    · exact .inl ⟨Int.mul_nonneg_of_nonpos_of_nonpos (by omega) (by omega), by omega⟩
    · exact .inr ⟨Int.mul_nonpos_of_nonpos_of_nonneg (by omega) (by omega), by omega⟩
    · exact .inr ⟨Int.mul_nonpos_of_nonneg_of_nonpos (by omega) (by omega), by omega⟩
    · exact .inl ⟨Int.mul_nonneg (by omega) (by omega), by omega⟩
  have hmul : ∀ hi lo : Nat, hi = a.natAbs * b.natAbs / 18446744073709551616 → lo = a.natAbs * b.natAbs % 18446744073709551616 →
      (if 0 < (hi : Int) then ((0 : Int), (11 : Int)) else if a < 0 ↔ b < 0 then (if 9223372036854775807 < (lo : Int) then (0, 11) else (wrap64 lo, 0)) else if 9223372036854775808 < (lo : Int) then (0, 11) else (wrap64 (-(wrap64 lo)), 0)) = mul a b := by
    rintro hi lo rfl rfl
    rw [← hN]
    unfold mul
    generalize a * b = p at *
    clear hN sa sb ha hb la lb hle
    unfold wrap64
    by_cases hp : -9223372036854775808 ≤ p ∧ p ≤ 9223372036854775807
    · rw [show inI64 p = true by simp [inI64, hp]]
      rcases hs with ⟨h1, h2⟩ | ⟨h1, h2⟩
      · rw [if_neg (by omega), if_pos h2, if_neg (by omega)]
        simp only [if_true, Prod.mk.injEq, and_true]; omega
      · rw [if_neg (by omega), if_neg h2, if_neg (by omega)]
        simp only [if_true, Prod.mk.injEq, and_true]; omega
    · rw [show inI64 p = false by simp [inI64]; omega]
      by_cases hh : 0 < ((p.natAbs / 18446744073709551616 : Nat) : Int)
      · rw [if_pos hh]; rfl
      · rw [if_neg hh]
        rcases hs with ⟨h1, h2⟩ | ⟨h1, h2⟩
        · rw [if_pos h2, if_pos (by omega)]; rfl
        · rw [if_neg h2, if_pos (by omega)]; rfl
  have hmul' := hmul _ _ rfl rfl
  have k1 := mul64_calls a.natAbs b.natAbs (by omega) (by omega)
  clear hmul hN hA hle hs
  generalize a.natAbs * b.natAbs / 18446744073709551616 = hi at *
  generalize a.natAbs * b.natAbs % 18446744073709551616 = lo at *
  have K1 := Lib.hid k1
  have HM := Lib.hid hmul'
  have SA := Lib.hid sa
  have SB := Lib.hid sb
  clear k1 hmul' sa sb ha hb la lb
  by_cases hn : a < 0 ↔ b < 0
  all_goals
    have h1 : (decide (a < 0) == decide (b < 0)) = decide (a < 0 ↔ b < 0) := by
      by_cases h1 : a < 0 <;> by_cases h2 : b < 0 <;> simp [h1, h2]
    have hn' : decide (a < 0 ↔ b < 0) = _ := (by first | exact decide_eq_true hn | exact decide_eq_false hn)
    rw [hn'] at h1
    have HN := Lib.hid hn
    clear hn hn'
    go_enter Try.func61, Try.ntmps61
    go_wp2_with (first | (go_at_call 66; refine (size_calls _ _).mono ?_; rintro e w' ⟨rfl, rfl⟩; first | rw [SA.out] | rw [SB.out]) | (go_at_call 65; refine (K1.out _).mono ?_; rintro e w' ⟨rfl, rfl⟩))
    all_goals
      go_ret2
      rw [← HM.out]
      first | rw [if_pos (by omega)] | rw [if_neg (by omega)]
      try first | rw [if_pos HN.out] | rw [if_neg HN.out]
      try first | rw [if_pos (by omega)] | rw [if_neg (by omega)]
      exact ⟨ret_t (congrArg (Value.int .i64) (by first | rfl | (show _ = wrap64 _; unfold wrap64; omega))) rfl, rfl⟩

def part (n p : Int) : Int × Int := if n < 0 ∨ p < 0 ∨ 1000 < p then (0, 2) else if (mul n p).2 = 0 then up (mul n p).1 100 else (0, (mul n p).2)
set_option maxHeartbeats 1000000 in
theorem part_calls (n p : Int) (hn : inI64 n = true) (hp : inI64 p = true) (w : World) :
    Calls Try.prog 54 #[.int .i64 n, .int .i64 p] w fun e w' => e = .returned (.tuple #[.int .i64 (part n p).1, .int .i64 (part n p).2]) ∧ w = w' := by
  have k := mul_calls n p hn hp
  have hm : ∃ m, m = part n p := ⟨_, rfl⟩
  obtain ⟨m, hm⟩ := hm
  rw [← hm]
  unfold part at hm
  have hu := fun w => up_calls (mul n p).1 100 w
  generalize mul n p = q at *
  obtain ⟨q1, q2⟩ := q
  have K := Lib.hid k
  have U := Lib.hid hu
  clear k hu hn hp
  by_cases h1 : n < 0 ∨ p < 0 ∨ 1000 < p
  · rw [if_pos h1] at hm
    subst hm
    go_enter Try.func54, Try.ntmps54
    go_wp2
    all_goals first | (exfalso; omega) | (go_ret2; exact ⟨rfl, rfl⟩)
  · rw [if_neg h1] at hm
    obtain ⟨h2, h3, h4⟩ : 0 ≤ n ∧ 0 ≤ p ∧ p ≤ 1000 := by omega
    clear h1
    by_cases h5 : q2 = 0
    · rw [if_pos h5] at hm
      subst hm h5
      go_enter Try.func54, Try.ntmps54
      go_wp2_with (first | (go_at_call 61; refine (K.out _).mono ?_; rintro e w' ⟨rfl, rfl⟩) | (go_at_call 62; refine (U.out _).mono ?_; rintro e w' ⟨rfl, rfl⟩))
      go_ret2
      exact ⟨rfl, rfl⟩
    · rw [if_neg h5] at hm
      have h6 : (q2 != 0) = true := by simpa using h5
      subst hm
      go_enter Try.func54, Try.ntmps54
      go_wp2_with (first | (go_at_call 61; refine (K.out _).mono ?_; rintro e w' ⟨rfl, rfl⟩))
      go_ret2
      exact ⟨rfl, rfl⟩

def clamp (n l h : Int) : Int := max l (min n h)
set_option maxHeartbeats 1000000 in
theorem clamp_calls (n l h : Int) (w : World) :
    Calls Try.prog 52 #[.int .i64 n, .int .i64 l, .int .i64 h] w fun e w' => e = .returned (.int .i64 (clamp n l h)) ∧ w = w' := by
  go_enter Try.func52, Try.ntmps52
  go_wp2
  all_goals
    go_ret
    exact ⟨rfl, rfl⟩

end Go.Proofs.Ytnlcpgeapgnkgaa.H
