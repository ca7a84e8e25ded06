/- A region that draws its order and calls yield; code walked within the wide fence. -/
import Derived.Test.YtaoflcmjmhfblaaGSeq
import Derived.OrdersIn
namespace Go.Proofs.Ytaoflcmjmhfblaa.H
open Go.RowKit Go.Proofs.YtaoflcmjmhfblaaW.PrintWords Go.Proofs.YtaoflcmjmhfblaaW.PrintLast Go.Proofs.YtaoflcmjmhfblaaW.PrintMore
set_option linter.unusedVariables false
set_option linter.unusedSimpArgs false
set_option linter.unusedSectionVars false
section
variable {n : Nat} {P : Program} {ops : Array Oper} {Q : Exit → Act → World → Prop}
theorem wpAnyIn_inv (I : (Nat → Bool) → Act → World → Prop)
    (hok : ∀ i o, ops[i]? = some o → ∀ e ∈ o.after, Region.binds .any e = true → e.on < i)
    (hstep : ∀ (L : Nat → Bool) (i : Nat) (o : Oper) (a : Act) (w : World), I L a w → ops[i]? = some o → L i = false → (∀ e ∈ o.after, Region.binds .any e = true → L e.on = true) →
      if Region.wanted o (yielded ops a.tmps) then o.wpIn Fence.wide n P a w (fun a' w' => I (fun j => if j = i then true else L j) a' w') Q else I (fun j => if j = i then true else L j) (a.put o.dst undef) w)
    (hend : ∀ L a w, I L a w → (∀ i, i < ops.size → L i = true) → Q .normal a w) :
    ∀ (fuel : Nat) (listed : Array Bool) (a : Act) (w : World), listed.size = ops.size → ((List.range ops.size).filter (fun i => !listed.getD i true)).length ≤ fuel → I (fun j => listed.getD j false) a w → wpAnyIn Fence.wide n P .any ops Q fuel listed a w := by
  have hready : ∀ listed : Array Bool, listed.size = ops.size → Region.ready .any ops listed = [] → ∀ i, i < ops.size → listed.getD i false = true := by
    intro listed hs hr i
    induction i using Nat.strongRecOn with
    | _ i ih =>
      intro hi
      cases hl : listed.getD i false with
      | true => rfl
      | false =>
        exfalso
        have hmem : i ∈ Region.ready .any ops listed := by
          unfold Region.ready
          rw [List.mem_filter]
          refine ⟨List.mem_range.2 hi, ?_⟩
          have hlt : i < listed.size := by omega
          have h1 : listed.getD i true = false := by
            simp only [Array.getD_eq_getD_getElem?, Array.getElem?_eq_getElem hlt, Option.getD_some] at hl ⊢
            exact hl
          rw [h1]
          simp only [Bool.not_false, Bool.true_and]
          rw [Array.getElem?_eq_getElem hi]
          simp only [Option.map_some, Option.getD_some, Array.all_eq_true_iff_forall_mem]
          intro e he
          cases hb : Region.binds .any e with
          | false => rfl
          | true =>
            have := ih e.on (hok i _ (Array.getElem?_eq_getElem hi) e he hb) (by have := hok i _ (Array.getElem?_eq_getElem hi) e he hb; omega)
            simp [this]
        rw [hr] at hmem
        cases hmem
  intro fuel
  induction fuel with
  | zero =>
    intro listed a w hs hf hI
    have hall : ∀ i, i < ops.size → listed.getD i false = true := by
      intro i hi
      have h0 : (List.range ops.size).filter (fun i => !listed.getD i true) = [] := List.eq_nil_of_length_eq_zero (by omega)
      rw [List.filter_eq_nil_iff] at h0
      have h1 := h0 i (List.mem_range.2 hi)
      have hlt : i < listed.size := by omega
      simp only [Array.getD_eq_getD_getElem?, Array.getElem?_eq_getElem hlt, Option.getD_some] at h1 ⊢
      simpa using h1
    refine ⟨?_, hend _ a w hI hall⟩
    unfold Region.ready
    rw [List.filter_eq_nil_iff]
    intro i hi
    have hlt : i < listed.size := by rw [hs]; exact List.mem_range.1 hi
    have h1 := hall i (List.mem_range.1 hi)
    have h2 : listed.getD i true = true := by
      simp only [Array.getD_eq_getD_getElem?, Array.getElem?_eq_getElem hlt, Option.getD_some] at h1 ⊢
      exact h1
    rw [h2]
    simp
  | succ fuel ih =>
    intro listed a w hs hf hI
    refine ⟨fun hr => hend _ a w hI (hready listed hs hr), fun i hi => ?_⟩
    unfold Region.ready at hi
    rw [List.mem_filter] at hi
    obtain ⟨hi1, hi2⟩ := hi
    have hlt := List.mem_range.1 hi1
    have hlt2 : i < listed.size := by omega
    rw [Array.getElem?_eq_getElem hlt] at hi2
    simp only [Option.map_some, Option.getD_some, Bool.and_eq_true, Bool.not_eq_true', Array.all_eq_true_iff_forall_mem] at hi2
    obtain ⟨hi3, hi4⟩ := hi2
    have hL : listed.getD i false = false := by
      simp only [Array.getD_eq_getD_getElem?, Array.getElem?_eq_getElem hlt2, Option.getD_some] at hi3 ⊢
      exact hi3
    have hs' := hstep _ i ops[i] a w hI (Array.getElem?_eq_getElem hlt) hL (fun e he hb => by
      have := hi4 e he
      rw [hb] at this
      simpa using this)
    have hfun : (fun j => if j = i then true else listed.getD j false) = (fun j => (listed.setIfInBounds i true).getD j false) := by
      funext j
      rw [getD_set listed i j hlt2]
    have hcount : ((List.range ops.size).filter (fun j => !(listed.setIfInBounds i true).getD j true)).length ≤ fuel := by
      have hsub : ((List.range ops.size).filter (fun j => !(listed.setIfInBounds i true).getD j true)).length < ((List.range ops.size).filter (fun j => !listed.getD j true)).length := by
        have e1 : (List.range ops.size).filter (fun j => !(listed.setIfInBounds i true).getD j true) = ((List.range ops.size).filter (fun j => !listed.getD j true)).filter (fun j => j != i) := by
          rw [List.filter_filter]
          refine List.filter_congr (fun j hj => ?_)
          have hj2 : j < listed.size := by rw [hs]; exact List.mem_range.1 hj
          simp only [Array.getD_eq_getD_getElem?, Array.getElem?_setIfInBounds]
          by_cases h : i = j
          · subst h; simp [hj2]
          · have : ¬ j = i := fun e => h e.symm
            simp [h, this]
        rw [e1]
        refine List.length_filter_lt_length_iff_exists.2 ⟨i, ?_, by simp⟩
        rw [List.mem_filter]
        exact ⟨hi1, by rw [hi3]; rfl⟩
      omega
    unfold wpOpIn
    rw [Array.getElem?_eq_getElem hlt]
    simp only
    have hgo : ∀ a' w', I (fun j => if j = i then true else listed.getD j false) a' w' → wpAnyIn Fence.wide n P .any ops Q fuel (listed.setIfInBounds i true) a' w' := by
      intro a' w' h'
      rw [hfun] at h'
      exact ih _ a' w' (by rw [Array.size_setIfInBounds]; exact hs) hcount h'
    by_cases hw : Region.wanted ops[i] (yielded ops a.tmps) = true
    · rw [if_pos hw] at hs' ⊢
      exact Oper.wpIn_mono hgo hs'
    · rw [if_neg hw] at hs' ⊢
      exact ⟨fun _ _ => trivial, hgo _ _ hs'⟩
/-- A REGION THAT DRAWS ITS ORDER: what holds of the operations that are done holds at the end of all. -/
theorem wpIn_region_inv {id : Nat} {a : Act} {w : World} (hm : P.follows .mixedOrders = true) (I : (Nat → Bool) → Act → World → Prop)
    (hok : ops.toList.zipIdx.all (fun (o, i) => o.after.all fun e => !Region.binds .any e || decide (e.on < i)) = true)
    (h0 : I (fun _ => false) a w.drew)
    (hstep : ∀ (L : Nat → Bool) (i : Nat) (o : Oper) (a : Act) (w : World), I L a w → ops[i]? = some o → L i = false → (∀ e ∈ o.after, Region.binds .any e = true → L e.on = true) →
      if Region.wanted o (yielded ops a.tmps) then o.wpIn Fence.wide n P a w (fun a' w' => I (fun j => if j = i then true else L j) a' w') Q else I (fun j => if j = i then true else L j) (a.put o.dst undef) w)
    (hend : ∀ L a w, I L a w → (∀ i, i < ops.size → L i = true) → Q .normal a w) : (Code.region id ops true).wpIn Fence.wide n P Q a w := by
  refine wpIn_region_any hm (wpAnyIn_inv I ?_ hstep hend _ _ _ _ (by simp) ?_ ?_)
  · intro i o ho e he hb
    rw [List.all_eq_true] at hok
    have hmem : (o, i) ∈ ops.toList.zipIdx := by
      rw [List.mem_zipIdx_iff_getElem?]
      simpa using ho
    have h1 := hok _ hmem
    simp only [Array.all_eq_true_iff_forall_mem] at h1
    have h2 := h1 e he
    rw [hb] at h2
    simpa using h2
  · refine Nat.le_trans (List.length_filter_le _ _) ?_
    simp
  · have : (fun j => (Array.replicate ops.size false).getD j false) = (fun _ : Nat => false) := by
      funext j
      simp only [Array.getD_eq_getD_getElem?, Array.getElem?_replicate]
      split <;> rfl
    rw [this]
    exact h0
end
/-- As StepOk, within the wide fence. -/
def StepIn (n : Nat) (P : Program) (ops : Array Oper) (o : Oper) (a : Act) (w : World) (K : Act → World → Prop) (Q : Exit → Act → World → Prop) : Prop :=
  (Region.wanted o (yielded ops a.tmps) = true → o.wpIn Fence.wide n P a w K Q) ∧ (Region.wanted o (yielded ops a.tmps) = false → K (a.put o.dst undef) w)
theorem StepIn.ite {n : Nat} {P : Program} {ops : Array Oper} {o : Oper} {a : Act} {w : World} {K : Act → World → Prop} {Q : Exit → Act → World → Prop} (h : StepIn n P ops o a w K Q) :
    if Region.wanted o (yielded ops a.tmps) then o.wpIn Fence.wide n P a w K Q else K (a.put o.dst undef) w := by
  by_cases hw : Region.wanted o (yielded ops a.tmps) = true
  · rw [if_pos hw]; exact h.1 hw
  · rw [if_neg hw]; exact h.2 (Bool.eq_false_iff.2 hw)
theorem uponInW_of {n : Nat} {P : Program} {o : Oper} {a : Act} {Q : Exit → Act → World → Prop} {next : Act → World → Prop} {r : Result Next} (h : o.upon P a next Q r) : o.uponIn Fence.wide n P a next Q r := by
  match r, h with
  | .ok (.value v) w', h => exact h
  | .ok .skip w', h => exact h
  | .ok (.defer d) w', h => exact h
  | .ok (.enter f args) w', h => exact ⟨(fun h => by cases h), callsIn_wide.2 h⟩
  | .ok (.row row args) w', h =>
    refine ⟨(fun h => by cases h), fun c cs _ => ?_⟩
    obtain ⟨v, w'', hr, hs⟩ := h c cs
    exact ⟨v, w'', hr, stepsIn_wide.2 hs⟩
  | .halt (.panic v) w', h => exact h
theorem StepIn.of {n : Nat} {P : Program} {ops : Array Oper} {o : Oper} {a : Act} {w : World} {K : Act → World → Prop} {Q : Exit → Act → World → Prop} (h : StepOk P ops o a w K Q) : StepIn n P ops o a w K Q :=
  ⟨fun hw => ⟨fun _ _ => trivial, uponInW_of (h.1 hw)⟩, h.2⟩
theorem wpIn_region_inv_at {n : Nat} {P : Program} {ops : Array Oper} {Q : Exit → Act → World → Prop} {id : Nat} {a : Act} {w : World} (hm : P.follows .mixedOrders = true) (I : Act → (Nat → Bool) → Act → World → Prop)
    (hok : ops.toList.zipIdx.all (fun (o, i) => o.after.all fun e => !Region.binds .any e || decide (e.on < i)) = true)
    (h0 : I a (fun _ => false) a w.drew)
    (hstep : ∀ (L : Nat → Bool) (i : Nat) (o : Oper) (a' : Act) (w : World) (K : Act → World → Prop), I a L a' w → ops[i]? = some o → L i = false → (∀ e ∈ o.after, Region.binds .any e = true → L e.on = true) → (∀ a'' w', I a (fun j => if j = i then true else L j) a'' w' → K a'' w') → StepIn n P ops o a' w K Q)
    (hend : ∀ L a' w, I a L a' w → (∀ i, i < ops.size → L i = true) → Q .normal a' w) : (Code.region id ops true).wpIn Fence.wide n P Q a w :=
  wpIn_region_inv hm (I a) hok h0 (fun L i o a' w hI ho hL he => (hstep L i o a' w _ hI ho hL he (fun _ _ h => h)).ite) hend
/-- A guarded call of yield that is made. -/
theorem stp_yield {n l : Nat} {P : Program} {ops : Array Oper} {o : Oper} {a : Act} {w : World} {K : Act → World → Prop} {Q : Exit → Act → World → Prop} {x : Operand} {xs : Array Operand} {ts : Array TypeId} {args : Array Value} {R : Ending → World → Prop}
    (hop : o.op = .call { callee := .value x, args := xs, argTypes := ts }) (hx : a.eval x = .func (.yield l) #[] #[]) (hargs : xs.map a.eval = args) (hY : YieldAt Fence.wide (n - 1) P l args w R)
    (h : ∀ e w', R e w' → ∃ b, e = .returned (.bool b) ∧ K (a.put o.dst (.bool b)) w') (hsk : ¬ Region.wanted o (yielded ops a.tmps) = false) : StepIn n P ops o a w K Q := by
  refine ⟨fun _ => ⟨fun _ _ => trivial, ?_⟩, fun h2 => absurd h2 hsk⟩
  obtain ⟨fn, tmps, assign, body, hy, hR⟩ := hY
  have hrun : (execOp a.eval o).run P w = .ok (.round l fn tmps assign body) w := by
    unfold execOp
    simp [hop, resolve, Deferred.ofValue, invoke, hx, hargs, hy]
  have e : o.semAt Fence.wide.round a.eval = execOp a.eval o := rfl
  rw [e, hrun]
  refine ⟨(fun h => by cases h), hR.mono ?_⟩
  intro e w' hr
  obtain ⟨b, rfl, hk⟩ := h e w' hr
  exact hk
end Go.Proofs.Ytaoflcmjmhfblaa.H
