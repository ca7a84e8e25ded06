/- inst.stays, inst.spans. -/
import Derived.Test.YtaoflcmjmhfblaaGInst
namespace Go.Proofs.Ytaoflcmjmhfblaa.I
open Go.RowKit Go.Proofs.YtaoflcmjmhfblaaW.PrintWords Go.Proofs.YtaoflcmjmhfblaaW.PrintLast Go.Proofs.YtaoflcmjmhfblaaW.PrintMore Go.Proofs.Ytaoflcmjmhfblaa.H Go.Shelf
set_option linter.unusedVariables false
set_option linter.unusedSimpArgs false
def staysI (i : InV) (what now : Int) : Bool :=
  bif what == 8 then (i.state == 3 || i.state == 8 || i.state == 6 || decide (now < i.due))
  else bif what == 2 then (i.state == 4 || i.state == 5)
  else bif what == 3 then i.state == 3
  else bif what == 4 then (i.state == 5 && i.noticed)
  else false
set_option maxHeartbeats 2000000 in
set_option maxRecDepth 100000 in
theorem stays_calls (i : InV) (what now : Int) (w : World) : Calls Try.prog 74 #[i.val, .int .u8 what, .int .u64 now] w fun e w' => e = .returned (.bool (staysI i what now)) ∧ Below w.heap.size w w' := by
  obtain ⟨i0, i1, i2, i3, i4, i5, i6, i7, i8, i9, i10, i11⟩ := i
  obtain ⟨r, hr⟩ : ∃ r, staysI ⟨i0, i1, i2, i3, i4, i5, i6, i7, i8, i9, i10, i11⟩ what now = r := ⟨_, rfl⟩
  rw [hr]
  have HR := Lib.hid hr
  clear hr
  simp only [InV.val, InV.cells]
  go_enter Try.func74, Try.ntmps74
  go_wp2_with (fail)
  all_goals (go_ret; refine ⟨ret_b ?_, (Below.refl _ _).alloc (Nat.le_refl _) _⟩; rw [← HR.out]; simp [staysI, *])
def spansB (c : CfV) : Bool := decide (c.hi ≤ 65536 ∧ c.ho ≤ 65536 ∧ c.dr ≤ 65536 ∧ c.dl ≤ 65536)
theorem max4 (t0 t1 t2 t3 t : TypeId) (a b c d : Int) (W : World) : ∃ m, (Builtin.max_ #[t0, t1, t2, t3] t #[.int .u64 a, .int .u64 b, .int .u64 c, .int .u64 d]).run Try.prog W = .ok (.int .u64 m) W ∧ (m ≤ 65536 ↔ (a ≤ 65536 ∧ b ≤ 65536 ∧ c ≤ 65536 ∧ d ≤ 65536)) := by
  obtain ⟨m1, h1⟩ : ∃ m1, (if b > a then b else a) = m1 := ⟨_, rfl⟩
  obtain ⟨m2, h2⟩ : ∃ m2, (if c > m1 then c else m1) = m2 := ⟨_, rfl⟩
  refine ⟨if d > m2 then d else m2, ?_, ?_⟩
  · subst h2; subst h1; rfl
  · have e1 : m1 ≤ 65536 ↔ (a ≤ 65536 ∧ b ≤ 65536) := by subst h1; split <;> omega
    have e2 : m2 ≤ 65536 ↔ (m1 ≤ 65536 ∧ c ≤ 65536) := by subst h2; split <;> omega
    split <;> omega
set_option maxHeartbeats 2000000 in
set_option maxRecDepth 100000 in
theorem spans_calls (c : CfV) (w : World) : Calls Try.prog 73 #[c.val] w fun e w' => e = .returned (.bool (spansB c)) ∧ Below w.heap.size w w' := by
  obtain ⟨hi, ho, dr, dl⟩ := c
  obtain ⟨m, hm, hq⟩ := max4 31 31 31 31 31 hi ho dr dl (w.alloc (.cells (CfV.cells ⟨hi, ho, dr, dl⟩) 41 (0, 0)))
  have hr : spansB ⟨hi, ho, dr, dl⟩ = decide (m ≤ 65536) := by unfold spansB; rw [decide_eq_decide]; exact hq.symm
  rw [hr]
  clear hr hq
  simp only [CfV.val, CfV.cells] at hm ⊢
  go_enter Try.func73, Try.ntmps73
  go_wp2_with (fail)
  all_goals (go_ret; exact ⟨rfl, (Below.refl _ _).alloc (Nat.le_refl _) _⟩)
end Go.Proofs.Ytaoflcmjmhfblaa.I
