/- For every input the law BatchWay answers true, and leaves what it is handed as it was: the statement BatchWaySaid. No condition. -/
import Derived.Deep.CondSized
import Derived.JoinedCond
import Derived.Test.YtaoflcmjmhfblaaRows
import Derived.Test.YtaoflcmjmhfblaaRow
import Derived.Test.YtaoflcmjmhfblaaBulk
import Derived.Test.YtaoflcmjmhfblaaMgBaW
namespace Go.Proofs.Ytaoflcmjmhfblaa.batchWay
open Go.ChangeShapes Go.WideShapes Go.ChangeAt Go.RowKit Go.Proofs.Ytaoflcmjmhfblaa.H
open Go.ChangeMaps (open_string shut_string)
set_option linter.unusedVariables false
theorem own : ownKnob Try.prog.godebug = none := by kernel_rfl
theorem laidOut : laidOutB Try.prog = true := by kernel_rfl
set_option maxRecDepth 100000 in
theorem lifted (os : Os) (started : os.Started) (H : Type) (enc : TypeId × Value → H) :
    ∀ F0 : Stop.Interp, ReturnsInHanded {} Try.checked os 10 .any ((Rows.OpenSpec.upto Rows.batchWaySpec).pre6 enc Try.prog Try.f10 Rows.batchWayUptoRow.domain false) (((Rows.OpenSpec.upto Rows.batchWaySpec).at F0).post enc Try.prog Try.f10 false true false false) := by
  intro F0
  refine returnsInHanded_of_cond_sized (C := Try.checked) (s := Rows.OpenSpec.upto Rows.batchWaySpec) (k := Rows.uptoSmall) rfl own started (by kernel_rfl) Try.func10
    (OpenSpec.witness (enc := enc) (C := Try.checked) (s := Rows.OpenSpec.upto Rows.batchWaySpec) (k := Rows.uptoSmall) rfl false ⟨#[], #[.slice none 0 0, .slice none 0 0], []⟩ 8 (by kernel_rfl) (by kernel_rfl) (by kernel_rfl) (x := ([.nil, .nil], [], [])) (by kernel_rfl) (by kernel_rfl) (by kernel_rfl)) ?_
  intro W base args ds gs before hval0 hW hcnd hk0 hsz0 _
  have hsz : (DataW.weightsEach Try.prog (Try.f10.params.toList ++ Rows.batchWaySpec.plain.varTypes Try.prog) (ds ++ gs)).all (· ≤ reachBytes) = true := hsz0
  have hval : ∀ (j : Nat) t v, Try.f10.params[j]? = some t → args[j]? = some v → Value.okWide Try.prog W .any base t v := hval0
  have hW' := hW
  obtain ⟨p, q, hA0, hV, rfl, hfz, hnd⟩ := hW
  have hA : DataW.TrodAll enc Try.prog W 0 (fun _ => true) true Try.f10.params.toList args.toList ds p := hA0
  rw [Try.params10] at hA hval hsz
  obtain ⟨v0, vs0, d0, ds0, p0, q0, hargs, rfl, rfl, h0, r0⟩ := trodAll_cons hA
  obtain ⟨v1, vs1, d1, ds1, p1, q1, rfl, rfl, rfl, h1, r1⟩ := trodAll_cons r0
  obtain ⟨rfl, rfl, rfl⟩ := trodAll_nil r1
  obtain rfl : args = #[v0, v1] := by cases args; simp_all
  obtain ⟨rfl, rfl⟩ := trodVars_none hV
  have k0 := h0
  have lt0 : ∀ x ∈ p0, x.block < W.heap.size := by obtain ⟨m, hm⟩ := k0; exact DataW.trod_lt m _ _ _ hm
  obtain ⟨A0, n0, c0, rfl⟩ := okWide_slice Try.underlying85 (hval 0 85 v0 rfl rfl)
  obtain ⟨fu0, hf0⟩ := h0
  obtain ⟨a0, hk0, w0⟩ := (D.oRows).read hf0 (weights_at hsz (j := 0) (t := 85) rfl rfl)
  obtain ⟨A0', c0', he0, hl0, hc0⟩ := hk0
  simp only [Value.cells, List.cons.injEq, Value.slice.injEq, and_true] at he0
  obtain ⟨rfl, rfl, rfl⟩ := he0
  have k1 := h1
  have lt1 : ∀ x ∈ p1, x.block < W.heap.size := by obtain ⟨m, hm⟩ := k1; exact DataW.trod_lt m _ _ _ hm
  obtain ⟨A1, n1, c1, rfl⟩ := okWide_slice Try.underlying85 (hval 1 85 v1 rfl rfl)
  obtain ⟨fu1, hf1⟩ := h1
  obtain ⟨a1, hk1, w1⟩ := (D.oRows).read hf1 (weights_at hsz (j := 1) (t := 85) rfl rfl)
  obtain ⟨A1', c1', he1, hl1, hc1⟩ := hk1
  simp only [Value.cells, List.cons.injEq, Value.slice.injEq, and_true] at he1
  obtain ⟨rfl, rfl, rfl⟩ := he1
  have bk := of_decide_eq_true hk0
  have s0 := Nat.le_trans (slice_bulk Try.underlying85 hf0) (Nat.le_trans (bulk_mem (by simp)) bk)
  have s1 := Nat.le_trans (slice_bulk Try.underlying85 hf1) (Nat.le_trans (bulk_mem (by simp)) bk)
  clear hk0 bk
  clear hA0 hval0 hsz0 hsz
  refine (batchWay_walk  W hc0 hl0 w0 hc1 hl1 w1 s0 s1).mono fun e W' ⟨he, bel⟩ => ?_
  subst he
  exact ⟨_, rfl, _, _, _, [], _, [], hW', trodAll_mk1 (shut_bool Try.underlying4 _), (trodAll_cons_mk (Below.trod laidOut (by kernel_rfl) (of_decide_eq_true (by kernel_rfl)) k0 bel lt0) (trodAll_cons_mk (Below.trod laidOut (by kernel_rfl) (of_decide_eq_true (by kernel_rfl)) k1 bel lt1) trodAll_mk0)), rfl, bel.frame _, fun h => by cases h⟩
theorem over : Rows.batchWayUptoRow.holds Try.pinned (Rows.OpenSpec.upto Rows.batchWaySpec) :=
  OpenClaim.holds_of_cond 10 Try.f10 rfl rfl rfl rfl rfl rfl rfl ⟨rfl, rfl, rfl, rfl, rfl⟩ rfl rfl rfl rfl rfl (by kernel_rfl) Try.func10 (by kernel_rfl)
    (of_decide_eq_true (by kernel_rfl)) (by unfold Func.isWrapper; first | (rw [if_pos (by decide +kernel)]; kernel_rfl) | (rw [if_neg (by decide +kernel)]; exact ⟨rfl, rfl⟩))
    (fun os started H enc _ => lifted os started H enc)
theorem proved : Rows.BatchWayUptoSaid := over
#print axioms proved
end Go.Proofs.Ytaoflcmjmhfblaa.batchWay
namespace Go.Proofs.Ytaoflcmjmhfblaa
theorem batchWay_holds : Rows.BatchWayUptoSaid := batchWay.proved
end Go.Proofs.Ytaoflcmjmhfblaa
