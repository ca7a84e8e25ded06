/- XGReg3 for texts that stand beside XInst0 (XGBase has a name of it): steps of a drawn region, blocks laid and filled. -/
import Derived.Test.YtaoflcmjmhfblaaGAllocD
namespace Go.Proofs.Ytaoflcmjmhfblaa.H
open Go.RowKit Go.Proofs.YtaoflcmjmhfblaaW.PrintWords Go.Proofs.YtaoflcmjmhfblaaW.PrintLast Go.Proofs.YtaoflcmjmhfblaaW.PrintMore
set_option linter.unusedVariables false
set_option linter.unusedSimpArgs false
set_option linter.unusedSectionVars false
theorem run_loadVar_anyC {P : Program} {w : World} (ty : TypeId) (p : Addr) (cs : List Value) (d : TypeDesc) (hc : ∀ j v, cs[j]? = some v → w.cell? (p.add j) = some v)
    (hu : P.underlying ty = some d) (hd : d.isRow = true) (hi : (P.info? ty).map (·.size) = some cs.length) : (loadVar ty p).run P w = .ok (.agg cs.toArray) w := by
  have hl : (loadCells p cs.length).run P w = .ok cs.toArray w := run_loadCells_list (P := P) w p cs hc
  cases hq : P.info? ty with
  | none => simp [hq] at hi
  | some i =>
    have hs : i.size = cs.length := by simpa [hq] using hi
    have hagg : (isAgg ty).run P w = .ok true w := by
      unfold isAgg
      rw [Sem.run_bind, run_underlying hu w]
      cases d <;> simp_all
    simp [loadVar, Sem.run_bind, hagg, sizeOf, typeInfo, hq, hs, hl]
section
variable {P : Program} {ops : Array Oper} {Q : Exit → Act → World → Prop} {K : Act → World → Prop} {o : Oper} {a : Act} {w w' : World}
theorem stp_load_anyC {ty : TypeId} {x : Operand} {p : Addr} {cs : List Value} {d : TypeDesc} (hg : o.guard = none) (hop : o.op = .load ty x) (hx : a.eval x = .pointer (some p)) (hc : ∀ j v, cs[j]? = some v → w.cell? (p.add j) = some v)
    (hu : P.underlying ty = some d) (hd : d.isRow = true) (hi : (P.info? ty).map (·.size) = some cs.length) (h : K (a.put o.dst (.agg cs.toArray)) w) : StepOk P ops o a w K Q := by
  refine stp (w' := w) hg ?_ h
  have hv := run_loadVar_anyC (P := P) (w := w) ty p cs d hc hu hd hi
  unfold execOp
  simp only [hop, hx, Instr.loadAt, Instr.sureAddr, Sem.run_bind, Sem.run_pure, Result.andThen_ok, hv]
end
/-- A block that a region lays (operation ia, slot sl) and fills (operation is). -/
structure Al where
  ia : Nat
  is : Nat
  sl : Nat
  zero : Array Value
  new : Array Value
  T : TypeId
structure AInvs (W0 : World) (S : List Al) (L : Nat → Bool) (a : Act) (W : World) (G : Nat → Nat) : Prop where
  below : Below W0.heap.size W0 W
  row : ∀ s ∈ S, L s.ia = true → a.eval (.tmp s.sl) = .pointer (some ⟨G s.ia, 0, none⟩) ∧ W0.heap.size ≤ G s.ia ∧ W.heap[G s.ia]? = some (.cells (if L s.is = true then s.new else s.zero) s.T (0, 0))
  inj : ∀ s ∈ S, ∀ t ∈ S, s.ia ≠ t.ia → L s.ia = true → L t.ia = true → G s.ia ≠ G t.ia
  ord : ∀ s ∈ S, L s.is = true → L s.ia = true
section
variable {W0 W W2 : World} {S : List Al} {L : Nat → Bool} {a : Act} {G : Nat → Nat}
theorem AInvs.start (a : Act) (hb : Below W0.heap.size W0 W) : AInvs W0 S (fun _ => false) a W G := ⟨hb, (fun _ _ h => by cases h), (fun _ _ _ _ _ h => by cases h), (fun _ _ h => by cases h)⟩
theorem AInvs.val (h : AInvs W0 S L a W G) {i s : Nat} {v : Value} (hi : i ∉ S.map (·.ia)) (hi2 : i ∉ S.map (·.is)) (hs : s ∉ S.map (·.sl)) (hb : Below W.heap.size W W2) : AInvs W0 S (addL L i) (a.put (some s) v) W2 G where
  below := below_step h.below hb
  row x hx hL := by
    rw [addL_ne L (fun e => hi (List.mem_map.2 ⟨x, hx, e⟩))] at hL
    obtain ⟨h1, h2, h3⟩ := h.row x hx hL
    rw [addL_ne L (fun e => hi2 (List.mem_map.2 ⟨x, hx, e⟩))]
    exact ⟨(put_eval_ne (fun e => hs (List.mem_map.2 ⟨x, hx, e⟩))).trans h1, h2, blk_call hb h3⟩
  inj x hx y hy hne h1 h2 := by
    rw [addL_ne L (fun e => hi (List.mem_map.2 ⟨x, hx, e⟩))] at h1
    rw [addL_ne L (fun e => hi (List.mem_map.2 ⟨y, hy, e⟩))] at h2
    exact h.inj x hx y hy hne h1 h2
  ord x hx hL := by
    rw [addL_ne L (fun e => hi2 (List.mem_map.2 ⟨x, hx, e⟩))] at hL
    exact addL_mono i (h.ord x hx hL)
theorem AInvs.val0 (h : AInvs W0 S L a W G) {i s : Nat} {v : Value} (hi : i ∉ S.map (·.ia)) (hi2 : i ∉ S.map (·.is)) (hs : s ∉ S.map (·.sl)) : AInvs W0 S (addL L i) (a.put (some s) v) W G := h.val hi hi2 hs (Below.refl _ _)
theorem AInvs.alloc (h : AInvs W0 S L a W G) (hn : (S.map (·.ia)).Nodup) (hk : (S.map (·.sl)).Nodup) {x : Al} (hx : x ∈ S) (hi2 : x.ia ∉ S.map (·.is)) (hL : L x.ia = false) (hz : x.sl < a.tmps.size) :
    AInvs W0 S (addL L x.ia) (a.put (some x.sl) (.pointer (some ⟨W.heap.size, 0, none⟩))) (W.alloc (.cells x.zero x.T (0, 0))) (fun k => if k = x.ia then W.heap.size else G k) where
  below := below_alloc h.below _
  row y hy hLy := by
    by_cases e : y.ia = x.ia
    · obtain rfl := nodup_get (·.ia) hn hy hx e
      have h2 : L y.is = false := by
        cases hq : L y.is with
        | false => rfl
        | true => rw [h.ord y hy hq] at hL; cases hL
      rw [addL_ne L (fun e => hi2 (List.mem_map.2 ⟨y, hy, e⟩)), h2]
      refine ⟨?_, ?_, ?_⟩
      · simp only [if_true]; exact put_eval_same hz
      · simp only [if_true]; exact h.below.size
      · simpa using heap_alloc_new W (.cells y.zero y.T (0, 0))
    · rw [addL_ne L e] at hLy
      obtain ⟨h1, h2, h3⟩ := h.row y hy hLy
      have hsl : y.sl ≠ x.sl := fun q => e (by rw [nodup_get (·.sl) hk hy hx q])
      rw [addL_ne L (fun e => hi2 (List.mem_map.2 ⟨y, hy, e⟩))]
      simp only [if_neg e]
      exact ⟨(put_eval_ne hsl).trans h1, h2, (Below.heap_alloc _ _ _ (blk_lt h3)).trans h3⟩
  inj y hy z hz' hne h1 h2 := by
    by_cases e : y.ia = x.ia
    · have e2 : ¬ z.ia = x.ia := fun q => hne (e.trans q.symm)
      simp only [if_pos e, if_neg e2]
      rw [addL_ne L e2] at h2
      have := blk_lt (h.row z hz' h2).2.2
      omega
    · rw [addL_ne L e] at h1
      by_cases e2 : z.ia = x.ia
      · simp only [if_neg e, if_pos e2]
        have := blk_lt (h.row y hy h1).2.2
        omega
      · rw [addL_ne L e2] at h2
        simp only [if_neg e, if_neg e2]
        exact h.inj y hy z hz' hne h1 h2
  ord y hy hLy := by
    rw [addL_ne L (fun e => hi2 (List.mem_map.2 ⟨y, hy, e⟩))] at hLy
    exact addL_mono _ (h.ord y hy hLy)
theorem AInvs.store (h : AInvs W0 S L a W G) (hn : (S.map (·.ia)).Nodup) (hm : (S.map (·.is)).Nodup) {x : Al} (hx : x ∈ S) (hi2 : x.is ∉ S.map (·.ia)) (h1 : L x.ia = true) (h2 : L x.is = false) : AInvs W0 S (addL L x.is) a (W.setRow (G x.ia) x.new) G where
  below := below_setRow h.below (h.row x hx h1).2.1 _
  row y hy hLy := by
    rw [addL_ne L (fun e => hi2 (List.mem_map.2 ⟨y, hy, e⟩))] at hLy
    obtain ⟨e1, e2, e3⟩ := h.row y hy hLy
    by_cases e : y.ia = x.ia
    · obtain rfl := nodup_get (·.ia) hn hy hx e
      rw [addL_self]
      refine ⟨e1, e2, ?_⟩
      rw [if_pos rfl]
      exact setRow_heap W _ _ _ _ _ e3
    · have hs : y.is ≠ x.is := fun q => e (by rw [nodup_get (·.is) hm hy hx q])
      rw [addL_ne L hs]
      exact ⟨e1, e2, (setRow_other W _ _ _ (h.inj y hy x hx e hLy h1)).trans e3⟩
  inj y hy z hz hne k1 k2 := by
    rw [addL_ne L (fun e => hi2 (List.mem_map.2 ⟨y, hy, e⟩))] at k1
    rw [addL_ne L (fun e => hi2 (List.mem_map.2 ⟨z, hz, e⟩))] at k2
    exact h.inj y hy z hz hne k1 k2
  ord y hy hLy := by
    rw [addL_ne L (fun e => hi2 (List.mem_map.2 ⟨y, hy, e⟩))]
    by_cases e : y.is = x.is
    · obtain rfl := nodup_get (·.is) hm hy hx e
      exact h1
    · rw [addL_ne L e] at hLy
      exact h.ord y hy hLy
end
end Go.Proofs.Ytaoflcmjmhfblaa.H
