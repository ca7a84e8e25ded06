/- A region that draws its order, by what has been done: an invariant over the set of the operations that are done. -/
import Derived.Test.YtaoflcmjmhfblaaGMap
import Derived.Orders
namespace Go.Proofs.Ytaoflcmjmhfblaa.H
open Go.RowKit Go.Proofs.YtaoflcmjmhfblaaW.PrintWords Go.Proofs.YtaoflcmjmhfblaaW.PrintLast Go.Proofs.YtaoflcmjmhfblaaW.PrintMore
set_option linter.unusedVariables false
set_option linter.unusedSimpArgs false
set_option linter.unusedSectionVars false
section
variable {P : Program} {ops : Array Oper} {Q : Exit → Act → World → Prop}
def doneB (n : Nat) (l : Array Bool) (i : Nat) : Bool := l.getD i false
theorem getD_set (l : Array Bool) (i j : Nat) (hi : i < l.size) : (l.setIfInBounds i true).getD j false = (if j = i then true else l.getD j false) := by
  simp only [Array.getD_eq_getD_getElem?, Array.getElem?_setIfInBounds]
  by_cases h : i = j
  · subst h; simp [hi]
  · have : ¬ j = i := fun e => h e.symm
    simp [h, this]
theorem wpAny_inv (I : (Nat → Bool) → Act → World → Prop)
    (hok : ∀ i o, ops[i]? = some o → ∀ e ∈ o.after, Region.binds .any e = true → e.on < i)
    (hstep : ∀ (L : Nat → Bool) (i : Nat) (o : Oper) (a : Act) (w : World), I L a w → ops[i]? = some o → L i = false → (∀ e ∈ o.after, Region.binds .any e = true → L e.on = true) →
      if Region.wanted o (yielded ops a.tmps) then o.wp P a w (fun a' w' => I (fun j => if j = i then true else L j) a' w') Q else I (fun j => if j = i then true else L j) (a.put o.dst undef) w)
    (hend : ∀ L a w, I L a w → (∀ i, i < ops.size → L i = true) → Q .normal a w) :
    ∀ (fuel : Nat) (listed : Array Bool) (a : Act) (w : World), listed.size = ops.size → ((List.range ops.size).filter (fun i => !listed.getD i true)).length ≤ fuel → I (fun j => listed.getD j false) a w → wpAny P .any ops Q fuel listed a w := by
  have hready : ∀ listed : Array Bool, listed.size = ops.size → Region.ready .any ops listed = [] → ∀ i, i < ops.size → listed.getD i false = true := by
    intro listed hs hr i
    induction i using Nat.strongRecOn with
    | _ i ih =>
      intro hi
      cases hl : listed.getD i false with
      | true => rfl
      | false =>
        exfalso
        have hmem : i ∈ Region.ready .any ops listed := by
          unfold Region.ready
          rw [List.mem_filter]
          refine ⟨List.mem_range.2 hi, ?_⟩
          have hlt : i < listed.size := by omega
          have h1 : listed.getD i true = false := by
            simp only [Array.getD_eq_getD_getElem?, Array.getElem?_eq_getElem hlt, Option.getD_some] at hl ⊢
            exact hl
          rw [h1]
          simp only [Bool.not_false, Bool.true_and]
          rw [Array.getElem?_eq_getElem hi]
          simp only [Option.map_some, Option.getD_some, Array.all_eq_true_iff_forall_mem]
          intro e he
          cases hb : Region.binds .any e with
          | false => rfl
          | true =>
            have := ih e.on (hok i _ (Array.getElem?_eq_getElem hi) e he hb) (by have := hok i _ (Array.getElem?_eq_getElem hi) e he hb; omega)
            simp [this]
        rw [hr] at hmem
        cases hmem
  intro fuel
  induction fuel with
  | zero =>
    intro listed a w hs hf hI
    have hall : ∀ i, i < ops.size → listed.getD i false = true := by
      intro i hi
      have h0 : (List.range ops.size).filter (fun i => !listed.getD i true) = [] := List.eq_nil_of_length_eq_zero (by omega)
      rw [List.filter_eq_nil_iff] at h0
      have h1 := h0 i (List.mem_range.2 hi)
      have hlt : i < listed.size := by omega
      simp only [Array.getD_eq_getD_getElem?, Array.getElem?_eq_getElem hlt, Option.getD_some] at h1 ⊢
      simpa using h1
    refine ⟨?_, hend _ a w hI hall⟩
    unfold Region.ready
    rw [List.filter_eq_nil_iff]
    intro i hi
    have hlt : i < listed.size := by rw [hs]; exact List.mem_range.1 hi
    have h1 := hall i (List.mem_range.1 hi)
    have h2 : listed.getD i true = true := by
      simp only [Array.getD_eq_getD_getElem?, Array.getElem?_eq_getElem hlt, Option.getD_some] at h1 ⊢
      exact h1
    rw [h2]
    simp
  | succ fuel ih =>
    intro listed a w hs hf hI
    refine ⟨fun hr => hend _ a w hI (hready listed hs hr), fun i hi => ?_⟩
    unfold Region.ready at hi
    rw [List.mem_filter] at hi
    obtain ⟨hi1, hi2⟩ := hi
    have hlt := List.mem_range.1 hi1
    have hlt2 : i < listed.size := by omega
    rw [Array.getElem?_eq_getElem hlt] at hi2
    simp only [Option.map_some, Option.getD_some, Bool.and_eq_true, Bool.not_eq_true', Array.all_eq_true_iff_forall_mem] at hi2
    obtain ⟨hi3, hi4⟩ := hi2
    have hL : listed.getD i false = false := by
      simp only [Array.getD_eq_getD_getElem?, Array.getElem?_eq_getElem hlt2, Option.getD_some] at hi3 ⊢
      exact hi3
    have hs' := hstep _ i ops[i] a w hI (Array.getElem?_eq_getElem hlt) hL (fun e he hb => by
      have := hi4 e he
      rw [hb] at this
      simpa using this)
    have hfun : (fun j => if j = i then true else listed.getD j false) = (fun j => (listed.setIfInBounds i true).getD j false) := by
      funext j
      rw [getD_set listed i j hlt2]
    have hcount : ((List.range ops.size).filter (fun j => !(listed.setIfInBounds i true).getD j true)).length ≤ fuel := by
      have hsub : ((List.range ops.size).filter (fun j => !(listed.setIfInBounds i true).getD j true)).length < ((List.range ops.size).filter (fun j => !listed.getD j true)).length := by
        have e1 : (List.range ops.size).filter (fun j => !(listed.setIfInBounds i true).getD j true) = ((List.range ops.size).filter (fun j => !listed.getD j true)).filter (fun j => j != i) := by
          rw [List.filter_filter]
          refine List.filter_congr (fun j hj => ?_)
          have hj2 : j < listed.size := by rw [hs]; exact List.mem_range.1 hj
          simp only [Array.getD_eq_getD_getElem?, Array.getElem?_setIfInBounds]
          by_cases h : i = j
          · subst h; simp [hj2]
          · have : ¬ j = i := fun e => h e.symm
            simp [h, this]
        rw [e1]
        refine List.length_filter_lt_length_iff_exists.2 ⟨i, ?_, by simp⟩
        rw [List.mem_filter]
        exact ⟨hi1, by rw [hi3]; rfl⟩
      omega
    unfold wpOp
    rw [Array.getElem?_eq_getElem hlt]
    simp only
    have hgo : ∀ a' w', I (fun j => if j = i then true else listed.getD j false) a' w' → wpAny P .any ops Q fuel (listed.setIfInBounds i true) a' w' := by
      intro a' w' h'
      rw [hfun] at h'
      exact ih _ a' w' (by rw [Array.size_setIfInBounds]; exact hs) hcount h'
    by_cases hw : Region.wanted ops[i] (yielded ops a.tmps) = true
    · rw [if_pos hw] at hs' ⊢
      exact .inl (Oper.wp_mono hgo hs')
    · rw [if_neg hw] at hs' ⊢
      exact hgo _ _ hs'
/-- A REGION THAT DRAWS ITS ORDER: what holds of the operations that are done holds at the end of all. -/
theorem wp_region_inv {id : Nat} {a : Act} {w : World} (hm : P.follows .mixedOrders = true) (I : (Nat → Bool) → Act → World → Prop)
    (hok : ops.toList.zipIdx.all (fun (o, i) => o.after.all fun e => !Region.binds .any e || decide (e.on < i)) = true)
    (h0 : I (fun _ => false) a w.drew)
    (hstep : ∀ (L : Nat → Bool) (i : Nat) (o : Oper) (a : Act) (w : World), I L a w → ops[i]? = some o → L i = false → (∀ e ∈ o.after, Region.binds .any e = true → L e.on = true) →
      if Region.wanted o (yielded ops a.tmps) then o.wp P a w (fun a' w' => I (fun j => if j = i then true else L j) a' w') Q else I (fun j => if j = i then true else L j) (a.put o.dst undef) w)
    (hend : ∀ L a w, I L a w → (∀ i, i < ops.size → L i = true) → Q .normal a w) : (Code.region id ops true).wp P Q a w := by
  refine wp_region_any hm (wpAny_inv I ?_ hstep hend _ _ _ _ (by simp) ?_ ?_)
  · intro i o ho e he hb
    rw [List.all_eq_true] at hok
    have hmem : (o, i) ∈ ops.toList.zipIdx := by
      rw [List.mem_zipIdx_iff_getElem?]
      simpa using ho
    have h1 := hok _ hmem
    simp only [Array.all_eq_true_iff_forall_mem] at h1
    have h2 := h1 e he
    rw [hb] at h2
    simpa using h2
  · refine Nat.le_trans (List.length_filter_le _ _) ?_
    simp
  · have : (fun j => (Array.replicate ops.size false).getD j false) = (fun _ : Nat => false) := by
      funext j
      simp only [Array.getD_eq_getD_getElem?, Array.getElem?_replicate]
      split <;> rfl
    rw [this]
    exact h0
end

/-- An operation of a region, if it is wanted, and if not. -/
def StepOk (P : Program) (ops : Array Oper) (o : Oper) (a : Act) (w : World) (K : Act → World → Prop) (Q : Exit → Act → World → Prop) : Prop :=
  (Region.wanted o (yielded ops a.tmps) = true → o.wp P a w K Q) ∧ (Region.wanted o (yielded ops a.tmps) = false → K (a.put o.dst undef) w)
theorem StepOk.ite {P : Program} {ops : Array Oper} {o : Oper} {a : Act} {w : World} {K : Act → World → Prop} {Q : Exit → Act → World → Prop} (h : StepOk P ops o a w K Q) :
    if Region.wanted o (yielded ops a.tmps) then o.wp P a w K Q else K (a.put o.dst undef) w := by
  by_cases hw : Region.wanted o (yielded ops a.tmps) = true
  · rw [if_pos hw]; exact h.1 hw
  · rw [if_neg hw]; exact h.2 (Bool.eq_false_iff.2 hw)
theorem StepOk.of_ite {P : Program} {ops : Array Oper} {o : Oper} {a : Act} {w : World} {K : Act → World → Prop} {Q : Exit → Act → World → Prop} (h : if Region.wanted o (yielded ops a.tmps) then o.wp P a w K Q else K (a.put o.dst undef) w) : StepOk P ops o a w K Q := by
  by_cases hw : Region.wanted o (yielded ops a.tmps) = true
  · rw [if_pos hw] at h; exact ⟨fun _ => h, fun h2 => absurd hw (by rw [h2]; decide)⟩
  · rw [if_neg hw] at h; exact ⟨fun h2 => absurd h2 hw, fun _ => h⟩
/-- The same, the invariant told of the frame that the region begins with. -/
theorem wp_region_inv_at {P : Program} {ops : Array Oper} {Q : Exit → Act → World → Prop} {id : Nat} {a : Act} {w : World} (hm : P.follows .mixedOrders = true) (I : Act → (Nat → Bool) → Act → World → Prop)
    (hok : ops.toList.zipIdx.all (fun (o, i) => o.after.all fun e => !Region.binds .any e || decide (e.on < i)) = true)
    (h0 : I a (fun _ => false) a w.drew)
    (hstep : ∀ (L : Nat → Bool) (i : Nat) (o : Oper) (a' : Act) (w : World) (K : Act → World → Prop), I a L a' w → ops[i]? = some o → L i = false → (∀ e ∈ o.after, Region.binds .any e = true → L e.on = true) → (∀ a'' w', I a (fun j => if j = i then true else L j) a'' w' → K a'' w') → StepOk P ops o a' w K Q)
    (hend : ∀ L a' w, I a L a' w → (∀ i, i < ops.size → L i = true) → Q .normal a' w) : (Code.region id ops true).wp P Q a w :=
  wp_region_inv hm (I a) hok h0 (fun L i o a' w hI ho hL he => (hstep L i o a' w _ hI ho hL he (fun _ _ h => h)).ite) hend
/-- Some slots of a frame are set. -/
def setA (a : Act) (l : List (Nat × Value)) : Act := { a with tmps := l.foldl (fun t p => t.setIfInBounds p.1 p.2) a.tmps }

section
variable {P : Program} {ops : Array Oper} {Q : Exit → Act → World → Prop} {K : Act → World → Prop} {o : Oper} {a : Act} {w w' : World}
def setF (t : Array Value) (p : Nat × Value) : Array Value := t.setIfInBounds p.1 p.2
theorem setA_tmps (a : Act) (l : List (Nat × Value)) : (setA a l).tmps = l.foldl setF a.tmps := rfl
theorem foldl_set_comm (k : Nat) (v : Value) : ∀ (l : List (Nat × Value)) (t : Array Value), (∀ p ∈ l, p.1 ≠ k) → (l.foldl setF t).setIfInBounds k v = l.foldl setF (t.setIfInBounds k v)
  | [], t, _ => rfl
  | p :: l, t, h => by
    rw [List.foldl_cons, List.foldl_cons, foldl_set_comm k v l _ (fun q hq => h q (List.mem_cons_of_mem _ hq))]
    congr 1
    unfold setF
    exact Array.setIfInBounds_comm _ _ (h p (List.mem_cons_self ..))
theorem foldl_get_out (k : Nat) : ∀ (l : List (Nat × Value)) (t : Array Value), (∀ p ∈ l, p.1 ≠ k) → (l.foldl setF t)[k]? = t[k]?
  | [], t, _ => rfl
  | p :: l, t, h => by
    rw [List.foldl_cons, foldl_get_out k l _ (fun q hq => h q (List.mem_cons_of_mem _ hq))]
    unfold setF
    rw [Array.getElem?_setIfInBounds_ne (h p (List.mem_cons_self ..))]
theorem foldl_size : ∀ (l : List (Nat × Value)) (t : Array Value), (l.foldl setF t).size = t.size
  | [], t => rfl
  | p :: l, t => by rw [List.foldl_cons, foldl_size l]; unfold setF; simp
theorem setA_out {l : List (Nat × Value)} {k : Nat} (h : ∀ p ∈ l, p.1 ≠ k) : (setA a l).eval (.tmp k) = a.eval (.tmp k) := by
  simp only [Act.eval, setA_tmps, Array.getD_eq_getD_getElem?, foldl_get_out k l _ h]
theorem setA_in : ∀ {l : List (Nat × Value)} {a : Act} {k i : Nat} {v : Value}, k < a.tmps.size → l[i]? = some (k, v) → (l.map (·.1)).Nodup → (setA a l).eval (.tmp k) = v
  | [], a, k, i, v, _, h, _ => by simp at h
  | p :: l, a, k, i, v, hk, h, hn => by
    rw [List.map_cons, List.nodup_cons] at hn
    cases i with
    | zero =>
      rw [List.getElem?_cons_zero] at h
      obtain rfl := Option.some.inj h
      have hne : ∀ q ∈ l, q.1 ≠ k := fun q hq e => hn.1 (List.mem_map.2 ⟨q, hq, e⟩)
      simp only [Act.eval, setA_tmps, List.foldl_cons, Array.getD_eq_getD_getElem?, foldl_get_out k l _ hne]
      unfold setF
      simp [hk]
    | succ i =>
      rw [List.getElem?_cons_succ] at h
      exact setA_in (a := { a with tmps := setF a.tmps p }) (by show k < (setF a.tmps p).size; unfold setF; simpa using hk) h hn.2
theorem setA_put : ∀ {l : List (Nat × Value)} {a : Act} {k i : Nat} {u : Value} (v : Value), l[i]? = some (k, u) → (l.map (·.1)).Nodup → (setA a l).put (some k) v = setA a (l.set i (k, v))
  | [], a, k, i, u, v, h, _ => by simp at h
  | p :: l, a, k, i, u, v, h, hn => by
    rw [List.map_cons, List.nodup_cons] at hn
    cases i with
    | zero =>
      rw [List.getElem?_cons_zero] at h
      obtain rfl := Option.some.inj h
      have hne : ∀ q ∈ l, q.1 ≠ k := fun q hq e => hn.1 (List.mem_map.2 ⟨q, hq, e⟩)
      rw [List.set_cons_zero]
      show ({ tmps := (l.foldl setF (setF a.tmps (k, u))).setIfInBounds k v, defers := a.defers } : Act) = { tmps := l.foldl setF (setF a.tmps (k, v)), defers := a.defers }
      rw [foldl_set_comm k v l _ hne]
      congr 2
      unfold setF
      simp
    | succ i =>
      rw [List.getElem?_cons_succ] at h
      rw [List.set_cons_succ]
      exact setA_put (a := { a with tmps := setF a.tmps p }) v h hn.2
theorem setA_same : ∀ (l : List (Nat × Value)) (a : Act), (∀ p ∈ l, a.tmps[p.1]? = some p.2) → setA a l = a
  | [], a, _ => rfl
  | p :: l, a, h => by
    have e : setF a.tmps p = a.tmps := by
      have hp := h p (List.mem_cons_self ..)
      unfold setF
      apply Array.ext_getElem?
      intro j
      rw [Array.getElem?_setIfInBounds]
      by_cases hj : p.1 = j
      · subst hj
        have hlt := (Array.getElem?_eq_some_iff.1 hp).1
        rw [if_pos rfl, if_pos hlt, hp]
      · rw [if_neg hj]
    have := setA_same l a (fun q hq => h q (List.mem_cons_of_mem _ hq))
    show ({ tmps := l.foldl setF (setF a.tmps p), defers := a.defers } : Act) = a
    rw [e]
    exact this
/-- An operation that yields a value. -/
theorem stp {v : Value} (hg : o.guard = none) (hrun : (execOp a.eval o).run P w = .ok (.value v) w') (h : K (a.put o.dst v) w') : StepOk P ops o a w K Q := by
  refine ⟨fun _ => ?_, fun h2 => absurd h2 (by simp [Region.wanted, hg])⟩
  unfold Oper.wp
  rw [hrun]
  exact h
theorem stp_move {x : Operand} (hg : o.guard = none) (hop : o.op = .move x ∨ o.op = .assign x) (h : K (a.put o.dst (a.eval x)) w) : StepOk P ops o a w K Q := by
  refine stp (w' := w) hg ?_ h
  rcases hop with hop | hop <;> simp [execOp, hop]
theorem stp_call {f : FuncId} {fn : Func} {xs : Array Operand} {ts : Array TypeId} {args : Array Value} (hg : o.guard = none) (hf : P.funcs[f]? = some fn) (hname : (fn.name == "runtime.NumGoroutine") = false) (hb : fn.body.isSome = true)
    (hop : o.op = .call { callee := .value (.func f), args := xs, argTypes := ts }) (hargs : xs.map a.eval = args)
    (h : Calls P f args w fun e w' => ∃ v, e = .returned v ∧ K (a.put o.dst v) w') : StepOk P ops o a w K Q := by
  refine ⟨fun _ => ?_, fun h2 => absurd h2 (by simp [Region.wanted, hg])⟩
  have he := enters_ hf hname hb args w
  have hrun : (execOp a.eval o).run P w = .ok (.enter f args) w := by
    unfold execOp
    simp [hop, resolve, Deferred.ofValue, invoke, Act.eval, hargs, he]
  unfold Oper.wp
  rw [hrun, Oper.upon_enter]
  refine h.mono fun e w'' hh => ?_
  obtain ⟨v, rfl, hk⟩ := hh
  exact hk
theorem stp_load {ty : TypeId} {x : Operand} {g t : Nat} {cs : Array Value} {fr : Nat × Nat} {d : TypeDesc} (hg : o.guard = none) (hop : o.op = .load ty x) (hx : a.eval x = .pointer (some ⟨g, 0, none⟩)) (hb : w.heap[g]? = some (.cells cs t fr))
    (hu : P.underlying ty = some d) (hd : d.isRow = true) (hi : (P.info? ty).map (·.size) = some cs.size) (h : K (a.put o.dst (.agg cs)) w) : StepOk P ops o a w K Q := by
  refine stp (w' := w) hg ?_ h
  have hv := run_loadVar_box (P := P) (w := w) ty g t cs fr d hb hu hd hi
  unfold execOp
  simp only [hop, hx, Instr.loadAt, Instr.sureAddr, Sem.run_bind, Sem.run_pure, Result.andThen_ok, hv]
end

/-- An operation that yields a value, told of one operand. -/
theorem stp1 {P : Program} {ops : Array Oper} {Q : Exit → Act → World → Prop} {K : Act → World → Prop} {o : Oper} {a : Act} {w w' : World} {v : Value} (x : Operand) (u : Value) (hg : o.guard = none) (hx : a.eval x = u) (hrun : ∀ ρ : Operand → Value, (∀ v, ρ (.const v) = v) → ρ x = u → (execOp ρ o).run P w = .ok (.value v) w') (h : K (a.put o.dst v) w') : StepOk P ops o a w K Q :=
  stp hg (hrun _ (fun _ => rfl) hx) h
theorem setA_self (a : Act) (ks : List Nat) (h : ∀ k ∈ ks, k < a.tmps.size) : a = setA a (ks.map fun k => (k, a.eval (.tmp k))) := by
  refine (setA_same _ a ?_).symm
  intro p hp
  obtain ⟨k, hk, rfl⟩ := List.mem_map.1 hp
  have := h k hk
  simp [Act.eval, Array.getD_eq_getD_getElem?, this]
theorem gen_act {P : Program} {c : Code} {Q : Exit → Act → World → Prop} {a : Act} {w : World} (F : Act → Prop) (hF : F a) (h : ∀ a0, F a0 → c.wp P Q a0 w) : c.wp P Q a w := h a hF
end Go.Proofs.Ytaoflcmjmhfblaa.H
