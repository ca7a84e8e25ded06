/- Small words for drawn regions that are walked by start_, pure_, take_, one_. -/
import Derived.Test.YtgiokbhedblkfaaGBase
namespace Go.Proofs.Ytgiokbhedblkfaa.H
open Go.RowKit Go.Proofs.YtgiokbhedblkfaaW.PrintWords Go.Proofs.YtgiokbhedblkfaaW.PrintLast Go.Proofs.YtgiokbhedblkfaaW.PrintMore
set_option linter.unusedVariables false
set_option linter.unusedSimpArgs false
/-- A whole element is loaded. -/
theorem exec_load_any {P : Program} {w : World} {ev : Operand → Value} {o : Oper} (ty : TypeId) (x : Operand) (ho : o.op = .load ty x) (p : Addr) (hx : ev x = .pointer (some p)) (cs : List Value) (d : TypeDesc)
    (hc : ∀ j v, cs[j]? = some v → w.cell? (p.add j) = some v) (hu : P.underlying ty = some d) (hd : d.isRow = true) (hi : (P.info? ty).map (·.size) = some cs.length) :
    (execOp ev o).run P w = .ok (.value (.agg cs.toArray)) w := by
  unfold execOp
  simp only [ho, hx, Instr.loadAt, Instr.sureAddr, Sem.run_bind, Sem.run_pure, Result.andThen_ok, run_loadVar_any ty p cs d hc hu hd hi]
theorem info_size {P : Program} {t : TypeId} {z : Option Value} {s b : Nat} (h : (P.info? t).map (fun i => (i.zero, i.size, i.bytes)) = some (z, s, b)) : ∃ i, P.info? t = some i ∧ i.size = s := by
  cases hq : P.info? t with
  | none => rw [hq] at h; cases h
  | some i => rw [hq] at h; simp only [Option.map_some, Option.some.injEq, Prod.mk.injEq] at h; exact ⟨i, rfl, h.2.1⟩
/-- A call of a function value (a slot's), by its contract. -/
theorem goesV_ {P : Program} {ops : Array Oper} {Q : Exit → Act → World → Prop} {oi : Oper} {N : Option Tmp} {a : Act} {w : World} {K : Act → World → Prop} {f : FuncId} (he : ∀ args w, (callFunc f args).run P w = .ok (.enter f args) w) {ags : Array Operand} {ts : Array TypeId} (t : Operand) (cap : Array Value) (args : Array Value)
    (hw : Region.wanted oi (yielded ops a.tmps) = true) (hN : oi.dst = N) (hop : oi.op = .call { callee := .value t, args := ags, argTypes := ts }) (ht : a.eval t = .func (.func f) #[] cap) (hargs : ags.map a.eval = args)
    (h : Calls P f (args ++ cap) w fun e w' => ∃ v, e = .returned v ∧ K (a.put N v) w') : if Region.wanted oi (yielded ops a.tmps) = true then Oper.wp P oi a w K Q else K (a.put N undef) w := by
  refine call_ f (args ++ cap) hw hN ?_ h
  unfold execOp
  simp [hop, resolve, Deferred.ofValue, invoke, ht, hargs, he]
/-- An element lies at an address (in world w). -/
def ElAt {α : Type} (d : Kd α) (w : World) (ad : Addr) (x : α) : Prop := ∃ cs, d.K w x cs ∧ ∀ j v, cs[j]? = some v → w.cell? (ad.add j) = some v
theorem addr_add0 (ad : Addr) : ad.add 0 = ad := by unfold Addr.add; simp
/-- The first element of a row that is read. -/
theorem el_head {α : Type} {d : Kd α} {w : World} {A : Option Addr} {n : Nat} {x : α} {l : List α} (h : d.C w A n (x :: l)) (hn : 0 < n) : ∃ ad, A = some ad ∧ ElAt d w ad x := by
  obtain ⟨ad, cs, e, _, hK, hc⟩ := Kd.C_get h x 0 (by omega) (by omega)
  refine ⟨ad, e, cs, hK, fun j v hv => ?_⟩
  have h2 := hc j v hv
  simpa using h2
end Go.Proofs.Ytgiokbhedblkfaa.H
