/- batch.rising over any two function values. -/
import Derived.Test.YtaoflcmjmhfblaaGBase
import Derived.Test.YtaoflcmjmhfblaaStrGt
import Derived.Test.YtaoflcmjmhfblaaD0
namespace Go.Proofs.Ytaoflcmjmhfblaa.D
open Go.RowKit Go.Proofs.YtaoflcmjmhfblaaW.PrintWords Go.Proofs.YtaoflcmjmhfblaaW.PrintLast Go.Proofs.YtaoflcmjmhfblaaW.PrintMore Go.Proofs.Ytaoflcmjmhfblaa.H Go.Shelf
set_option linter.unusedVariables false
set_option linter.unusedSimpArgs false
/-- A function value tells the text K i of every place i below n. -/
def KeyW (P : Program) (g : Nat) (cap : Array Value) (n : Nat) (K : Nat → ByteArray) (w : World) : Prop :=
  ∀ (W : World) (i : Nat), i < n → Below w.heap.size w W → Calls P g (#[.int .i64 (i : Int)] ++ cap) W fun e w' => e = .returned (.string (K i)) ∧ Below W.heap.size W w'
/-- .. a slice of V i bytes. -/
def LenW (P : Program) (g : Nat) (cap : Array Value) (n : Nat) (V : Nat → Nat) (w : World) : Prop :=
  ∀ (W : World) (i : Nat), i < n → Below w.heap.size w W → Calls P g (#[.int .i64 (i : Int)] ++ cap) W fun e w' => ∃ A c, e = .returned (.slice A (V i) c) ∧ Below W.heap.size W w'
def okAt (K : Nat → ByteArray) (V : Nat → Nat) (i : Nat) : Bool :=
  !(K i).toList.isEmpty && decide ((K i).size ≤ 16) && (i == 0 || Op.bytesLess (K (i - 1)).toList (K i).toList) && decide (V i ≤ 524288)
def risingI (n : Nat) (K : Nat → ByteArray) (V : Nat → Nat) : Bool := (List.range n).all (okAt K V)
theorem rising_false {n : Nat} {K : Nat → ByteArray} {V : Nat → Nat} {i : Nat} (hi : i < n) (h : okAt K V i = false) : risingI n K V = false := by
  unfold risingI
  rw [List.all_eq_false]
  exact ⟨i, List.mem_range.2 hi, by simp [h]⟩
theorem rising_true {n : Nat} {K : Nat → ByteArray} {V : Nat → Nat} (h : ∀ i, i < n → okAt K V i = true) : risingI n K V = true := by
  unfold risingI
  rw [List.all_eq_true]
  exact fun i hi => h i (List.mem_range.1 hi)
theorem okAt_e {K : Nat → ByteArray} {V : Nat → Nat} {i : Nat} (h : (K i).toList.isEmpty = true) : okAt K V i = false := by simp only [okAt, h, Bool.not_true, Bool.false_and]
theorem okAt_s {K : Nat → ByteArray} {V : Nat → Nat} {i : Nat} (h : 16 < ((K i).size : Int)) : okAt K V i = false := by
  have : decide ((K i).size ≤ 16) = false := decide_eq_false (by omega)
  simp only [okAt, this, Bool.and_false, Bool.false_and]
theorem okAt_l {K : Nat → ByteArray} {V : Nat → Nat} {i : Nat} (h0 : 0 < i) (h : Op.bytesLess (K (i - 1)).toList (K i).toList = false) : okAt K V i = false := by
  have : (i == 0) = false := by simp; omega
  simp only [okAt, this, h, Bool.or_self, Bool.and_false, Bool.false_and]
theorem okAt_v {K : Nat → ByteArray} {V : Nat → Nat} {i : Nat} (h : 524288 < (V i : Int)) : okAt K V i = false := by
  have : decide (V i ≤ 524288) = false := decide_eq_false (by omega)
  simp only [okAt, this, Bool.and_false]
theorem okAt_t {K : Nat → ByteArray} {V : Nat → Nat} {i : Nat} (h1 : (K i).toList.isEmpty = false) (h2 : ((K i).size : Int) ≤ 16) (h3 : i = 0 ∨ Op.bytesLess (K (i - 1)).toList (K i).toList = true) (h4 : (V i : Int) ≤ 524288) : okAt K V i = true := by
  have e1 := h1
  have e2 : decide ((K i).size ≤ 16) = true := decide_eq_true (by omega)
  have e4 : decide (V i ≤ 524288) = true := decide_eq_true (by omega)
  have e3 : (i == 0 || Op.bytesLess (K (i - 1)).toList (K i).toList) = true := by
    rcases h3 with rfl | h3
    · rfl
    · rw [h3, Bool.or_true]
  simp only [okAt, e1, e2, e3, e4, Bool.not_false, Bool.and_self]
theorem str_geq (t : TypeId) (a b : ByteArray) : binOp .geq t (.string a) (.string b) = pure (.bool (!Op.bytesLess a.toList b.toList)) := by
  simp [binOp, Op.stringOp]
attribute [local go_sem] str_geq
set_option maxHeartbeats 2000000 in
set_option maxRecDepth 100000 in
theorem rising_calls (gk gv : Nat) (ck cv : Array Value) (ek : ∀ args w, (callFunc gk args).run Try.prog w = .ok (.enter gk args) w) (ev : ∀ args w, (callFunc gv args).run Try.prog w = .ok (.enter gv args) w)
    (n : Nat) (hn : (n : Int) ≤ 9223372036854775807) (K : Nat → ByteArray) (V : Nat → Nat) (w : World) (hk : KeyW Try.prog gk ck n K w) (hv : LenW Try.prog gv cv n V w) :
    Calls Try.prog 94 #[.int .i64 n, .func (.func gk) #[] ck, .func (.func gv) #[] cv] w fun e w' => e = .returned (.bool (risingI n K V)) ∧ Below w.heap.size w w' := by
  have HK := Lib.hid hk
  have HV := Lib.hid hv
  clear hk hv
  go_enter Try.func94, Try.ntmps94
  go_wp2
  go_loopw [10] (fun v10 wr => ∃ (i : Nat), i ≤ n ∧ v10 = .int .i64 i ∧ Hid (∀ j, j < i → okAt K V j = true) ∧ Hid (Below w.heap.size w wr)) (fun v10 _ => n - (intOf v10).toNat)
  case atStart => exact ⟨0, Nat.zero_le _, rfl, Lib.hid (fun j hj => by omega), Lib.hid (Below.refl _ _)⟩
  case round =>
    rename_i u10
    obtain ⟨i, hi, rfl, HO, HB⟩ := hrel
    by_cases hlt : i < n
    · have hltz : (i : Int) < (n : Int) := by omega
      have w1e : IntKind.i64.wrap ((i : Int) + 1) = (i : Int) + 1 := by rw [IntKind.wrap_i64]; omega
      have w2e : IntKind.i64.wrap ((i : Int) - 1) = (i : Int) - 1 := by rw [IntKind.wrap_i64]; omega
      rcases Nat.eq_zero_or_pos i with h0 | h0
      · subst h0
        go_wp2_with (first
          | (go_at_fn gk; refine (HK.out _ 0 hlt HB.out).mono ?_; rintro e w2 ⟨rfl, hb'⟩; have HB2 := Lib.hid (below_step HB.out hb'); clear hb')
          | (go_at_fn gv; refine (HV.out _ 0 hlt HB2.out).mono ?_; rintro e w3 ⟨A3, c3, rfl, hb'⟩; have HB3 := Lib.hid (below_step HB2.out hb'); clear hb'))
        all_goals first
          | (exfalso; omega)
          | (go_ret; exact ⟨ret_b (rising_false hlt (by first | exact okAt_e (by assumption) | exact okAt_s (by assumption) | exact okAt_v (by assumption))).symm, by first | exact HB3.out | exact HB2.out⟩)
          | exact ⟨⟨0 + 1, by omega, by go_num, Lib.hid (fun j hj => by
              have : j = 0 := by omega
              subst this
              exact okAt_t (by assumption) (by assumption) (Or.inl rfl) (by assumption)), HB3⟩, by simp only [intOf]; omega⟩
      · have hi1 : ((i : Int) - 1) = ((i - 1 : Nat) : Int) := by omega
        go_wp2_with (first
          | (go_at_fn gk; refine (HK.out _ i hlt HB.out).mono ?_; rintro e w2 ⟨rfl, hb'⟩; have HB2 := Lib.hid (below_step HB.out hb'); clear hb')
          | (go_at_fn gk; refine (HK.out _ (i - 1) (by omega) HB2.out).mono ?_; rintro e w2b ⟨rfl, hb'⟩; have HB2b := Lib.hid (below_step HB2.out hb'); clear hb')
          | (go_at_fn gk; rw [hi1]; refine (HK.out _ (i - 1) (by omega) HB2.out).mono ?_; rintro e w2b ⟨rfl, hb'⟩; have HB2b := Lib.hid (below_step HB2.out hb'); clear hb')
          | (go_at_fn gv; refine (HV.out _ i hlt HB2b.out).mono ?_; rintro e w3 ⟨A3, c3, rfl, hb'⟩; have HB3 := Lib.hid (below_step HB2b.out hb'); clear hb'))
        all_goals first
          | (exfalso; omega)
          | (go_ret; exact ⟨ret_b (rising_false hlt (by first | exact okAt_e (by assumption) | exact okAt_s (by assumption) | exact okAt_v (by assumption) | exact okAt_l h0 (by assumption) | exact okAt_l h0 (by simpa using (by assumption)))).symm, by first | exact HB3.out | exact HB2b.out | exact HB2.out⟩)
          | exact ⟨⟨i + 1, by omega, by go_num, Lib.hid (fun j hj => by
              rcases Nat.lt_or_ge j i with h | h
              · exact HO.out j h
              · have : j = i := by omega
                subst this
                exact okAt_t (by assumption) (by assumption) (Or.inr (by assumption)) (by assumption)), HB3⟩, by simp only [intOf]; omega⟩
    · have : i = n := by omega
      subst this
      go_wp2
      go_ret
      exact ⟨ret_b (rising_true HO.out).symm, HB.out⟩
end Go.Proofs.Ytaoflcmjmhfblaa.D
