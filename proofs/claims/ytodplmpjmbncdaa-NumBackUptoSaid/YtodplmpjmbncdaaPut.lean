/- The contracts of num.Put and num.Get: a number's bytes, and bytes' number. -/
import Derived.Test.YtodplmpjmbncdaaNum
namespace Go.Proofs.Ytodplmpjmbncdaa.H
open Go.RowKit Go.Proofs.YtodplmpjmbncdaaW.PrintWords Go.Proofs.YtodplmpjmbncdaaW.PrintLast Go.Proofs.YtodplmpjmbncdaaW.PrintMore
set_option linter.unusedVariables false
set_option linter.unusedSimpArgs false

theorem info_u8 : (Try.prog.info? 5).map (fun i => (i.zero, i.size, i.bytes)) = some (some (.int .u8 0), 1, 1) := by kernel_rfl

/-- The bytes of a number, the least first. -/
def bytesLE (n : Int) (k : Nat) : List Int := (List.range k).map fun i => n / 256 ^ i % 256
theorem bytesLE_length (n : Int) (k : Nat) : (bytesLE n k).length = k := by simp [bytesLE]
theorem bytesLE_succ (n : Int) (k : Nat) : bytesLE n (k + 1) = bytesLE n k ++ [n / 256 ^ k % 256] := by simp [bytesLE, List.range_succ]
def putOk (n size : Int) : Bool := fits size && decide (n < 256 ^ size.toNat)
theorem bitLen_lt (x k : Nat) (hx : x < 2 ^ 64) : Lib.bitLen x ≤ k ↔ x < 2 ^ k := by
  rcases Nat.lt_or_ge k 65 with hk | hk
  · induction k generalizing x with
    | zero =>
      constructor
      · intro h
        rcases Nat.eq_zero_or_pos x with h0 | h0
        · omega
        · rw [Lib.bitLen_half x (by omega) hx] at h; omega
      · intro h
        have : x = 0 := by simpa using h
        subst this; decide
    | succ k ih =>
      rcases Nat.eq_zero_or_pos x with h0 | h0
      · subst h0
        constructor
        · intro _; exact Nat.two_pow_pos _
        · intro _; show Lib.bitLen 0 ≤ _; rw [show Lib.bitLen 0 = 0 by decide]; omega
      · rw [Lib.bitLen_half x (by omega) hx]
        have := ih (x / 2) (by omega) (by omega)
        rw [Nat.pow_succ]
        omega
  · have h1 : Lib.bitLen x ≤ 64 := by
      have : ∀ f y, Lib.bitLenAux f y ≤ f := by
        intro f
        induction f with
        | zero => intro y; simp [Lib.bitLenAux]
        | succ f ih => intro y; simp only [Lib.bitLenAux]; have := ih (y / 2); split <;> omega
      exact this 64 x
    have h2 : 2 ^ 64 ≤ 2 ^ k := Nat.pow_le_pow_right (by omega) (by omega)
    omega

theorem fits_cases {n : Int} (h : fits n = true) : n = 1 ∨ n = 2 ∨ n = 4 ∨ n = 8 := by simpa [fits, or_assoc] using h
theorem put_no (n size : Int) (h0 : 0 ≤ n) (h1 : n ≤ 18446744073709551615) (h : putOk n size = false) (w : World) :
    Calls Try.prog 29 #[.int .u64 n, .int .i64 size] w fun e w' => e = .returned (.tuple #[.slice none 0 0, .int .i64 2]) ∧ w = w' := by
  by_cases hf : fits size = true
  · have hb : 8 * size < (Lib.bitLen n.toNat : Int) := by
      have h2 : ¬ n < 256 ^ size.toNat := by simpa [putOk, hf] using h
      have := bitLen_lt n.toNat (8 * size.toNat) (by omega)
      rw [Nat.pow_mul, show (2 : Nat) ^ 8 = 256 from rfl] at this
      have h3 : ¬ n.toNat < 256 ^ size.toNat := by intro h4; apply h2; have := Int.ofNat_lt.2 h4; rw [Int.toNat_of_nonneg h0] at this; simpa using this
      have h5 := fits_cases hf
      omega
    obtain ⟨z, hz⟩ : ∃ z, z = Lib.bitLen n.toNat := ⟨_, rfl⟩
    have L := Lib.hid (len64_calls n h0 h1)
    have F := Lib.hid hf
    have hs := fits_cases hf
    rw [← hz] at hb L
    have hs1 : 1 ≤ size := by omega
    have hs2 : size ≤ 8 := by omega
    clear hf h hz hs h0 h1
    go_enter Try.func29, Try.ntmps29
    go_wp2_with (first | (go_at_call 65; refine (fits_calls _ F.out _).mono ?_; rintro e w' ⟨rfl, rfl⟩) | (go_at_call 66; refine (L.out _).mono ?_; rintro e w' ⟨rfl, rfl⟩))
    all_goals (go_ret2; exact ⟨rfl, rfl⟩)
  · have F := Lib.hid (Bool.eq_false_iff.2 hf)
    clear hf h
    go_enter Try.func29, Try.ntmps29
    go_wp2_with (first | (go_at_call 65; refine (fits_calls _ F.out _).mono ?_; rintro e w' ⟨rfl, rfl⟩))
    go_ret2
    exact ⟨rfl, rfl⟩

/-- What the loop holds behind i rounds. -/
def putting (n : Int) (s i : Nat) : List Int := bytesLE n i ++ List.replicate (s - i) 0
theorem putting_set (n : Int) (s i : Nat) (h : i < s) : (putting n s i).set i (n / 256 ^ i % 256) = putting n s (i + 1) := by
  unfold putting
  rw [bytesLE_succ, List.set_append_right _ _ (by rw [bytesLE_length]; omega), bytesLE_length, Nat.sub_self, show s - i = (s - (i + 1)) + 1 by omega, List.replicate_succ, List.set_cons_zero]
  simp
theorem putting_start (n : Int) (s : Nat) : List.replicate ((s : Int)).toNat (0 : Int) = putting n s 0 := by simp [putting, bytesLE]
theorem putting_length (n : Int) (s i : Nat) (h : i ≤ s) : (putting n s i).length = s := by simp [putting, bytesLE_length]; omega
theorem putting_end (n : Int) (s : Nat) : putting n s s = bytesLE n s := by simp [putting]
set_option maxHeartbeats 1000000 in
set_option maxRecDepth 100000 in
theorem put_yes (n size : Int) (h0 : 0 ≤ n) (h1 : n ≤ 18446744073709551615) (h : putOk n size = true) (w : World) :
    Calls Try.prog 29 #[.int .u64 n, .int .i64 size] w fun e w' => ∃ v, e = .returned (.tuple #[v, .int .i64 0]) ∧ Kd.R (Kd.int .u8) 5 w' w.heap.size (fun _ => True) v (bytesLE n size.toNat) ∧ Below w.heap.size w w' := by
  simp only [putOk, Bool.and_eq_true, decide_eq_true_eq] at h
  obtain ⟨hf, hlt⟩ := h
  have hb : (Lib.bitLen n.toNat : Int) ≤ 8 * size := by
    have := bitLen_lt n.toNat (8 * size.toNat) (by omega)
    rw [Nat.pow_mul, show (2 : Nat) ^ 8 = 256 from rfl] at this
    have h3 : n.toNat < 256 ^ size.toNat := by
      have := Int.ofNat_lt.1 (show ((n.toNat : Nat) : Int) < ((256 ^ size.toNat : Nat) : Int) by rw [Int.toNat_of_nonneg h0]; simpa using hlt)
      exact this
    have h5 := fits_cases hf
    omega
  obtain ⟨z, hz⟩ : ∃ z, z = Lib.bitLen n.toNat := ⟨_, rfl⟩
  have L := Lib.hid (len64_calls n h0 h1)
  have F := Lib.hid hf
  have hs := fits_cases hf
  rw [← hz] at hb L
  obtain ⟨s, rfl⟩ := Int.eq_ofNat_of_zero_le (show 0 ≤ size by omega)
  have hs1 : 1 ≤ s := by omega
  have hs2 : s ≤ 8 := by omega
  clear hf hlt hz hs h1
  go_enter Try.func29, Try.ntmps29
  go_wp2_with (first | (go_at_call 65; refine (fits_calls _ F.out _).mono ?_; rintro e w' ⟨rfl, rfl⟩) | (go_at_call 66; refine (L.out _).mono ?_; rintro e w' ⟨rfl, rfl⟩) | ((with_reducible refine gate_dst (N := 19) rfl ?_); refine Kd.R_make (Kd.int .u8) _ 5 rfl (N := 19) rfl 60 _ _ rfl (s : Int) rfl rfl Try.underlying60 (.int .u8 0) 1 info_u8 rfl (by decide) (by omega) 0 (ok := fun _ => True) (okp := fun _ => True) rfl (fun _ hk => hk) trivial (by omega) (by omega) (Below.refl _ _) (Nat.le_refl _) ?_; intro v1 w1 ho hb1 hg_ hnew_; clear hg_ hnew_; rw [putting_start n s] at ho; obtain ⟨A, c, e⟩ := Kd.R_slice ho; rw [putting_length n s 0 (by omega)] at e; subst e))
  go_loopw [22] (fun v22 wr => ∃ i : Nat, i ≤ s ∧ v22 = .int .i64 i ∧ Kd.R (Kd.int .u8) 5 wr w.heap.size (fun _ => True) (.slice A s c) (putting n s i) ∧ Below w.heap.size w wr) (fun v22 _ => s - (intOf v22).toNat)
  case atStart => exact ⟨0, by omega, rfl, ho, hb1⟩
  case round =>
    obtain ⟨i, hi, rfl, hr, hb2⟩ := hrel
    clear ho hb1
    by_cases hlt : i < s
    · obtain ⟨g, c2, e2, gb, gl, cl⟩ := Kd.R_form hr (by rw [putting_length n s i hi]; omega)
      injection e2 with ea en ec
      clear en
      subst ea ec
      obtain ⟨hcell, hfz⟩ := Kd.R_celln 0 hr (i : Int) (by omega) (by omega)
      obtain ⟨hp, hg⟩ := Kd.R_putg hr (i : Int) (n / 256 ^ i % 256)
      rw [Int.toNat_natCast] at hp hg hcell hfz
      rw [putting_set n s i hlt] at hp
      have HP := Lib.hid hp
      have HG := Lib.hid hg
      clear hp hg
      obtain ⟨j, hj⟩ : ∃ j : Int, (8 : Int) * (i : Int) = j := ⟨_, rfl⟩
      obtain ⟨q, hq⟩ : ∃ q : Int, n / 2 ^ j.toNat = q := ⟨_, rfl⟩
      have hq2 : q = n / 256 ^ i := by
        rw [← hq, ← hj, show ((8 : Int) * (i : Int)).toNat = 8 * i by omega, Int.pow_mul]; rfl
      rw [← hq2] at HP HG
      have j0 : 0 ≤ j := by omega
      have j1 : j ≤ 64 := by omega
      have HQ := Lib.hid hq2
      clear hq2
      have HR := Lib.hid hr
      have HB2 := Lib.hid hb2
      clear hr hb2
      go_wp2
      go_roundw
      case rel => exact ⟨i + 1, by omega, by go_num, HP.out, HB2.out.setCell gb _⟩
      case measure => simp [intOf]; omega
    · have : i = s := by omega
      subst this
      go_wp2
      go_ret2
      exact ⟨_, rfl, by rw [Int.toNat_natCast, ← putting_end]; exact hr, hb2⟩
end Go.Proofs.Ytodplmpjmbncdaa.H
