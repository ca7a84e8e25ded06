/- A region that draws its order, proved as a lemma of its own (gp/regn.py): steps told of two operands, of a guard. -/
import Derived.Test.YtaoflcmjmhfblaaGVals
import Derived.Test.YtaoflcmjmhfblaaGQTail
namespace Go.Proofs.Ytaoflcmjmhfblaa.H
open Go.RowKit Go.Proofs.YtaoflcmjmhfblaaW.PrintWords Go.Proofs.YtaoflcmjmhfblaaW.PrintLast Go.Proofs.YtaoflcmjmhfblaaW.PrintMore
set_option linter.unusedVariables false
set_option linter.unusedSimpArgs false
set_option linter.unusedSectionVars false
section
variable {P : Program} {ops : Array Oper} {Q : Exit → Act → World → Prop} {K : Act → World → Prop} {o : Oper} {a : Act} {w w' : World}
theorem stp2 {v : Value} (x : Operand) (u : Value) (x2 : Operand) (u2 : Value) (hg : o.guard = none) (hx : a.eval x = u) (hx2 : a.eval x2 = u2)
    (hrun : ∀ ρ : Operand → Value, (∀ v, ρ (.const v) = v) → ρ x = u → ρ x2 = u2 → (execOp ρ o).run P w = .ok (.value v) w') (h : K (a.put o.dst v) w') : StepOk P ops o a w K Q :=
  stp hg (hrun _ (fun _ => rfl) hx hx2) h
theorem yielded_slot {s j : Nat} {b : Bool} {oj : Oper} (hj : ops[j]? = some oj) (hd : oj.dst = some s) (hE : a.eval (.tmp s) = .bool b) : yielded ops a.tmps j = some b := by
  unfold yielded
  simp only [hj, Option.bind_some, hd]
  simp only [Act.eval, Array.getD_eq_getD_getElem?] at hE
  cases hq : a.tmps[s]? with
  | none => rw [hq] at hE; simp [undef] at hE
  | some v =>
    rw [hq] at hE
    simp only [Option.getD_some] at hE
    subst hE
    rfl
/-- A guarded operation: V is its value where it is wanted, undef where not. -/
theorem stp_guard {s j : Nat} {b want : Bool} {oj : Oper} {V : Value} (hg : o.guard = some (j, want)) (hj : ops[j]? = some oj) (hd : oj.dst = some s) (hE : a.eval (.tmp s) = .bool b)
    (h1 : b = want → ∃ v, V = v ∧ (execOp a.eval o).run P w = .ok (.value v) w) (h2 : ¬ b = want → V = undef) (h : K (a.put o.dst V) w) : StepOk P ops o a w K Q := by
  have hy := yielded_slot hj hd hE
  refine ⟨fun hw => ?_, fun hw => ?_⟩
  · have hb : b = want := by simpa [Region.wanted, hg, hy] using hw
    obtain ⟨v, rfl, hr⟩ := h1 hb
    unfold Oper.wp
    rw [hr]
    exact h
  · have hb : ¬ b = want := by simpa [Region.wanted, hg, hy] using hw
    rw [h2 hb] at h
    exact h
theorem stp_guard1 {s j : Nat} {b want : Bool} {oj : Oper} {v V : Value} (x : Operand) (u : Value) (hg : o.guard = some (j, want)) (hj : ops[j]? = some oj) (hd : oj.dst = some s) (hE : a.eval (.tmp s) = .bool b) (hx : a.eval x = u)
    (hrun : b = want → ∀ ρ : Operand → Value, (∀ v, ρ (.const v) = v) → ρ x = u → (execOp ρ o).run P w = .ok (.value v) w) (h2 : ¬ b = want → V = undef) (h3 : b = want → V = v) (h : K (a.put o.dst V) w) : StepOk P ops o a w K Q :=
  stp_guard hg hj hd hE (fun hb => ⟨v, h3 hb, hrun hb _ (fun _ => rfl) hx⟩) h2 h
theorem stp_guard2 {s j : Nat} {b want : Bool} {oj : Oper} {v V : Value} (x : Operand) (u : Value) (x2 : Operand) (u2 : Value) (hg : o.guard = some (j, want)) (hj : ops[j]? = some oj) (hd : oj.dst = some s) (hE : a.eval (.tmp s) = .bool b) (hx : a.eval x = u) (hx2 : a.eval x2 = u2)
    (hrun : b = want → ∀ ρ : Operand → Value, (∀ v, ρ (.const v) = v) → ρ x = u → ρ x2 = u2 → (execOp ρ o).run P w = .ok (.value v) w) (h2 : ¬ b = want → V = undef) (h3 : b = want → V = v) (h : K (a.put o.dst V) w) : StepOk P ops o a w K Q :=
  stp_guard hg hj hd hE (fun hb => ⟨v, h3 hb, hrun hb _ (fun _ => rfl) hx hx2⟩) h2 h
theorem deps {L : Nat → Bool} (o : Oper) (h : ∀ e ∈ o.after, Region.binds .any e = true → L e.on = true) (k : Nat) (hk : k ∈ (o.after.toList.filter (Region.binds .any)).map (·.on)) : L k = true := by
  obtain ⟨e, he, rfl⟩ := List.mem_map.1 hk
  obtain ⟨h1, h2⟩ := List.mem_filter.1 he
  exact h e (by simpa using h1) h2
end
end Go.Proofs.Ytaoflcmjmhfblaa.H
