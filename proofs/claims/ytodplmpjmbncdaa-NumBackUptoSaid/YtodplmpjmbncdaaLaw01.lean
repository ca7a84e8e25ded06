/- The statements NumParts and NumUp of layer 1: the walks of the law functions, over the contracts of package num. -/
import Derived.Test.YtodplmpjmbncdaaPut
namespace Go.Proofs.Ytodplmpjmbncdaa.H
open Go.RowKit Go.Proofs.YtodplmpjmbncdaaW.PrintWords Go.Proofs.YtodplmpjmbncdaaW.PrintLast Go.Proofs.YtodplmpjmbncdaaW.PrintMore
set_option linter.unusedVariables false
set_option linter.unusedSimpArgs false

/-- Whole numbers of a byte. -/
def Bytes (l : List Int) : Prop := ∀ x ∈ l, 0 ≤ x ∧ x ≤ 255
theorem same_strs {a b : List Int} (ha : Bytes a) (hb : Bytes b) : ((strOfNums a).toList == (strOfNums b).toList) = decide (a = b) := by
  have key : ∀ l : List Int, (strOfNums l).toList = l.map fun n => UInt8.ofNat n.toNat := by
    intro l
    show (strOfNums l).toList = _
    rw [ByteArray.toList_eq]
    rfl
  rw [key, key]
  by_cases h : a = b
  · subst h; simp
  · have : (a.map fun n => UInt8.ofNat n.toNat) ≠ b.map fun n => UInt8.ofNat n.toNat := by
      intro e; apply h
      have inj : ∀ x y : Int, 0 ≤ x ∧ x ≤ 255 → 0 ≤ y ∧ y ≤ 255 → UInt8.ofNat x.toNat = UInt8.ofNat y.toNat → x = y := by
        intro x y hx hy e
        have := congrArg UInt8.toNat e
        simp at this
        omega
      have len : a.length = b.length := by simpa using congrArg List.length e
      apply List.ext_getElem len
      intro i h1 h2
      apply inj _ _ (ha _ (List.getElem_mem h1)) (hb _ (List.getElem_mem h2))
      have := congrArg (fun l => l[i]?) e
      simpa [List.getElem?_eq_getElem h1, List.getElem?_eq_getElem h2] using this
    simp [h, this]
theorem same_calls (A0 A1 : Option Addr) (n0 n1 c0 c1 : Nat) (l0 l1 : List Int) (w : World) (h0 : Kd.C (Kd.int .u8) w A0 n0 l0) (h1 : Kd.C (Kd.int .u8) w A1 n1 l1) (b0 : Bytes l0) (b1 : Bytes l1) :
    Calls Try.prog 33 #[.slice A0 n0 c0, .slice A1 n1 c1] w fun e w' => e = .returned (.bool (decide (l0 = l1))) ∧ w = w' := by
  have hcv3 := Kd.C_string (P := Try.prog) (A := A0) (c := c0) Try.underlying60 Try.underlying5 Try.underlying9 h0
  have hcv4 := Kd.C_string (P := Try.prog) (A := A1) (c := c1) Try.underlying60 Try.underlying5 Try.underlying9 h1
  rw [← same_strs b0 b1]
  clear b0 b1 h0 h1
  go_enter Try.func33, Try.ntmps33
  go_wp2
  go_ret
  exact ⟨rfl, rfl⟩

theorem lit_reads (W : World) (xs : List Int) (hm : xs.length ≤ 9223372036854775807) : Kd.C (Kd.int .u8) (W.alloc (.cells (nums .u8 xs).toArray 5)) (some ⟨W.heap.size, 0, none⟩) xs.length xs := by
  have h := own_lit W W.heap.size 5 .u8 xs (Nat.le_refl _) hm
  have h2 := Kd.R_of_own (h1 := fun _ => rfl) (enc := Value.int .u8) (ok := fun _ => True) (by simpa [nums, encs] using h) (fun _ _ => trivial)
  exact (Kd.R_reads' h2).2.2

set_option maxHeartbeats 1000000 in
set_option maxRecDepth 100000 in
theorem lives01 (w : World) : Calls Try.prog 16 #[] w fun e w' => e = .returned (.bool true) ∧ Below w.heap.size w w' := by
  have k1 := add_calls 9223372036854775807 1 (by decide) (by decide)
  rw [show add 9223372036854775807 1 = (0, 11) by decide] at k1
  have k2 := up_calls (-7) 2
  rw [up_eq (by omega) (by omega), show -(-(-7 : Int) / 2) = -3 by decide] at k2
  have k3 := part_calls 3 150 (by decide) (by decide)
  rw [show part 3 150 = (5, 0) by unfold part; rw [if_neg (by omega), show mul 3 150 = (450, 0) by decide]; simp only [if_true]; rw [up_eq (by omega) (by omega)]; decide] at k3
  have k4 := mul_calls (-1) (-9223372036854775808) (by decide) (by decide)
  rw [show mul (-1) (-9223372036854775808) = (0, 11) by decide] at k4
  have k5 := put_yes 258 2 (by omega) (by omega) (by decide)
  rw [show bytesLE 258 (Int.toNat 2) = [2, 1] by decide] at k5
  have k6 := clamp_calls 5 1 3
  rw [show clamp 5 1 3 = 3 by decide] at k6
  have B21 : Bytes [2, 1] := by intro x hx; simp at hx; omega
  have K1 := Lib.hid k1
  have K2 := Lib.hid k2
  have K3 := Lib.hid k3
  have K4 := Lib.hid k4
  have K5 := Lib.hid k5
  have K6 := Lib.hid k6
  clear k1 k2 k3 k4 k5 k6
  go_enter Try.func16, Try.ntmps16
  go_wp2_with (first
    | (go_at_call 51; refine (K1.out _).mono ?_; rintro e w' ⟨rfl, rfl⟩)
    | (go_at_call 17; refine (K2.out _).mono ?_; rintro e w' ⟨rfl, rfl⟩)
    | (go_at_call 15; refine (K3.out _).mono ?_; rintro e w' ⟨rfl, rfl⟩)
    | (go_at_call 50; refine (K4.out _).mono ?_; rintro e w' ⟨rfl, rfl⟩)
    | (go_at_call 52; refine (K6.out _).mono ?_; rintro e w' ⟨rfl, rfl⟩)
    | (go_at_call 29; refine (K5.out _).mono ?_; rintro e w1 ⟨v, rfl, hr, hb⟩; obtain ⟨A, c, rfl, hc, hr⟩ := Kd.R_reads hr; have HR := Lib.hid hr; have HB := Lib.hid hb; clear hr hb)
    | (go_at_call 33; refine (same_calls _ _ _ _ _ _ [2, 1] [2, 1] _ (Kd.C_alloc HR.out _) (lit_reads w1 [2, 1] (by decide)) B21 B21).mono ?_; rintro e w' ⟨rfl, rfl⟩))
  go_ret
  exact ⟨rfl, HB.out.alloc HB.out.size _⟩

theorem i64_and20 (n : Int) : Go.bits .and .i64 n 1048575 = n % 1048576 := by
  have h127 : (BitVec.ofInt 64 1048575).toNat = 2 ^ 20 - 1 := by decide
  have key : (BitVec.ofInt 64 n &&& BitVec.ofInt 64 1048575).toNat = (n % ((2 ^ 64 : Nat) : Int)).toNat % 2 ^ 20 := by
    rw [BitVec.toNat_and, BitVec.toNat_ofInt, h127, Nat.and_two_pow_sub_one_eq_mod]
  show IntKind.i64.wrap ((BitVec.ofInt 64 n &&& BitVec.ofInt 64 1048575).toNat : Nat) = n % 1048576
  rw [key, IntKind.wrap_i64]
  omega
theorem i64_and52 (n : Int) : Go.bits .and .i64 n 4503599627370495 = n % 4503599627370496 := by
  have h127 : (BitVec.ofInt 64 4503599627370495).toNat = 2 ^ 52 - 1 := by decide
  have key : (BitVec.ofInt 64 n &&& BitVec.ofInt 64 4503599627370495).toNat = (n % ((2 ^ 64 : Nat) : Int)).toNat % 2 ^ 52 := by
    rw [BitVec.toNat_and, BitVec.toNat_ofInt, h127, Nat.and_two_pow_sub_one_eq_mod]
  show IntKind.i64.wrap ((BitVec.ofInt 64 n &&& BitVec.ofInt 64 4503599627370495).toNat : Nat) = n % 4503599627370496
  rw [key, IntKind.wrap_i64]
  omega

theorem up_le {x y : Int} (hy : 1 ≤ y) : x ≤ -((-x) / y) * y ∧ (-((-x) / y) - 1) * y < x := by
  have h1 := Int.mul_ediv_add_emod (-x) y
  have h2 := Int.emod_nonneg (-x) (show y ≠ 0 by omega)
  have h3 := Int.emod_lt_of_pos (-x) (show 0 < y by omega)
  rw [Int.mul_comm] at h1
  rw [Int.sub_mul, Int.neg_mul]
  omega

set_option maxHeartbeats 1000000 in
set_option maxRecDepth 100000 in
theorem numUp_walk (a b : Int) (w : World) (ha : (Lit.int .i64 a).wf = true) (hb : (Lit.int .i64 b).wf = true) :
    Calls Try.prog 4 #[.int .i64 a, .int .i64 b] w fun e w' => e = .returned (.bool true) ∧ Below w.heap.size w w' := by
  obtain ⟨x, hx⟩ : ∃ x, Int.tmod a 1099511627776 = x := ⟨_, rfl⟩
  have hx1 : -1099511627776 < x ∧ x < 1099511627776 := by
    subst hx
    have := Int.tmod_lt_of_pos a (show (0 : Int) < 1099511627776 by omega)
    have := Int.lt_tmod_of_pos a (show (0 : Int) < 1099511627776 by omega)
    omega
  obtain ⟨y, hy⟩ : ∃ y, Go.bits .and .i64 b 1048575 = y := ⟨_, rfl⟩
  have hy1 : 0 ≤ y ∧ y ≤ 1048575 := by subst hy; rw [i64_and20]; omega
  obtain ⟨l1, l2⟩ := hx1
  obtain ⟨l3, l4⟩ := hy1
  have k := up_calls x (1 + y)
  rw [up_eq (by omega) (by omega)] at k
  obtain ⟨m1, m2⟩ := up_le (x := x) (y := 1 + y) (by omega)
  generalize hq : -(-x / (1 + y)) = q at *
  clear hq
  obtain ⟨p, hp⟩ : ∃ p, q * (1 + y) = p := ⟨_, rfl⟩
  obtain ⟨r, hr⟩ : ∃ r, (q - 1) * (1 + y) = r := ⟨_, rfl⟩
  have hpr : p = r + (1 + y) := by subst hp hr; rw [Int.sub_mul]; omega
  rw [hp] at m1
  rw [hr] at m2
  have hq1 : -1099511627777 < q ∧ q < 1099511627777 := by
    constructor
    · rcases Int.lt_or_le q 0 with h | h
      · have : q * (1 + y) ≤ q * 1 := Int.mul_le_mul_of_nonpos_left (by omega) (by omega)
        omega
      · omega
    · rcases Int.lt_or_le 1 q with h | h
      · have : (q - 1) * 1 ≤ (q - 1) * (1 + y) := Int.mul_le_mul_of_nonneg_left (by omega) (by omega)
        omega
      · omega
  obtain ⟨l5, l6⟩ := hq1
  have K := Lib.hid k
  have l7 : r < x := m2
  have l8 : x ≤ p := m1
  have l9 : p ≤ 1099511627776 + 1048576 := by omega
  have l10 : -1099511627777 - 1048576 < r := by omega
  clear k hpr ha hb
  go_enter Try.func4, Try.ntmps4
  go_wp2_with (first
    | (go_at_call 17; refine (K.out _).mono ?_; rintro e w' ⟨rfl, rfl⟩)
    | (go_at_call 16; refine (lives01 _).mono ?_; rintro e w' ⟨rfl, hb⟩))
  go_ret
  exact ⟨rfl, hb⟩

theorem part_small {n p : Int} (hn : 0 ≤ n ∧ n < 4503599627370496) (hp : 0 ≤ p ∧ p ≤ 100) : part n p = (-((-(n * p)) / 100), 0) ∧ 0 ≤ n * p ∧ n * p ≤ n * 100 := by
  have h1 : 0 ≤ n * p := Int.mul_nonneg hn.1 hp.1
  have h2 : n * p ≤ n * 100 := Int.mul_le_mul_of_nonneg_left hp.2 hn.1
  refine ⟨?_, h1, h2⟩
  unfold part
  rw [if_neg (by omega)]
  have hm : mul n p = (n * p, 0) := by
    unfold mul
    generalize n * p = q at *
    rw [show inI64 q = true by simp [inI64]; omega]
    rfl
  rw [hm, if_pos rfl, up_eq (by omega) (by omega)]

set_option maxHeartbeats 1000000 in
set_option maxRecDepth 100000 in
theorem numParts_walk (a b : Int) (w : World) (ha : (Lit.int .i64 a).wf = true) (hb : (Lit.int .u8 b).wf = true) :
    Calls Try.prog 3 #[.int .i64 a, .int .u8 b] w fun e w' => e = .returned (.bool true) ∧ Below w.heap.size w w' := by
  have b0 : 0 ≤ b := (bd_u8 hb).1
  obtain ⟨x, hx⟩ : ∃ x, Go.bits .and .i64 a 4503599627370495 = x := ⟨_, rfl⟩
  have hx1 : 0 ≤ x ∧ x < 4503599627370496 := by subst hx; rw [i64_and52]; omega
  obtain ⟨y, hy⟩ : ∃ y, b % 101 = y := ⟨_, rfl⟩
  have hy1 : 0 ≤ y ∧ y ≤ 100 := by omega
  obtain ⟨e1, g1, g2⟩ := part_small hx1 hy1
  obtain ⟨e2, g3, g4⟩ := part_small hx1 (show 0 ≤ 100 - y ∧ 100 - y ≤ 100 by omega)
  have hs : x * (100 - y) = x * 100 - x * y := Int.mul_sub _ _ _
  have k1 := part_calls x y (by simp [inI64]; omega) (by simp [inI64]; omega)
  have k2 := part_calls x (100 - y) (by simp [inI64]; omega) (by simp [inI64]; omega)
  rw [e1] at k1
  rw [e2, hs] at k2
  obtain ⟨l1, l2⟩ := hx1
  obtain ⟨l3, l4⟩ := hy1
  obtain ⟨p, hp⟩ : ∃ p, x * y = p := ⟨_, rfl⟩
  rw [hp] at g1 g2 k1 k2
  clear e1 e2 g3 g4 hs
  obtain ⟨c, hc⟩ : ∃ c, -(-p / 100) = c := ⟨_, rfl⟩
  obtain ⟨d, hd⟩ : ∃ d, -(-(x * 100 - p) / 100) = d := ⟨_, rfl⟩
  rw [hc] at k1
  rw [hd] at k2
  have c1 : p ≤ 100 * c := by omega
  have c2 : 100 * (c - 1) < p := by omega
  have c3 : x ≤ c + d := by omega
  have c4 : c + d < x + 2 := by omega
  have c5 : 0 ≤ c := by omega
  have c6 : 0 ≤ d := by omega
  have K1 := Lib.hid k1
  have K2 := Lib.hid k2
  clear k1 k2 hc hd ha hb
  go_enter Try.func3, Try.ntmps3
  go_wp2_with (first
    | (go_at_call 15; first | (with_reducible refine (K1.out _).mono ?_) | (with_reducible refine (K2.out _).mono ?_); rintro e w' ⟨rfl, rfl⟩)
    | (go_at_call 16; refine (lives01 _).mono ?_; rintro e w' ⟨rfl, hb⟩))
  all_goals
    go_ret
    exact ⟨rfl, hb⟩
end Go.Proofs.Ytodplmpjmbncdaa.H
