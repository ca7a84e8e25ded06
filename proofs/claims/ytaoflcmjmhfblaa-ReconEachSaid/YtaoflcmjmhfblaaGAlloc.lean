/- A region that draws its order, calls, lays one block and fills it ('x, e := f(..)'); the frame behind it written out. -/
import Derived.Test.YtaoflcmjmhfblaaGBox
namespace Go.Proofs.Ytaoflcmjmhfblaa.H
open Go.RowKit Go.Proofs.YtaoflcmjmhfblaaW.PrintWords Go.Proofs.YtaoflcmjmhfblaaW.PrintLast Go.Proofs.YtaoflcmjmhfblaaW.PrintMore
set_option linter.unusedVariables false
set_option linter.unusedSimpArgs false
set_option linter.unusedSectionVars false
theorem addL_mono {L : Nat → Bool} {j : Nat} (i : Nat) (h : L j = true) : addL L i j = true := by
  unfold addL
  split
  · rfl
  · exact h
/-- The block that the region lays (operation ia, slot sl) and fills (operation is). -/
structure AInv (W0 : World) (ia is sl : Nat) (zero new : Array Value) (T : TypeId) (L : Nat → Bool) (a : Act) (W : World) (g : Nat) : Prop where
  below : Below W0.heap.size W0 W
  row : L ia = true → a.eval (.tmp sl) = .pointer (some ⟨g, 0, none⟩) ∧ W0.heap.size ≤ g ∧ W.heap[g]? = some (.cells (if L is = true then new else zero) T (0, 0))
  ord : L is = true → L ia = true
section
variable {W0 W W2 : World} {ia is sl : Nat} {zero new : Array Value} {T : TypeId} {L : Nat → Bool} {a : Act} {g : Nat}
theorem AInv.start (a : Act) (hb : Below W0.heap.size W0 W) : AInv W0 ia is sl zero new T (fun _ => false) a W g := ⟨hb, (fun h => by cases h), (fun h => by cases h)⟩
/-- Another value is put; the world may have grown. -/
theorem AInv.val (h : AInv W0 ia is sl zero new T L a W g) {i s : Nat} {v : Value} (hi : i ≠ ia ∧ i ≠ is) (hs : s ≠ sl) (hb : Below W.heap.size W W2) : AInv W0 ia is sl zero new T (addL L i) (a.put (some s) v) W2 g where
  below := below_step h.below hb
  row hL := by
    rw [addL_ne L (fun e => hi.1 e.symm)] at hL
    obtain ⟨h1, h2, h3⟩ := h.row hL
    rw [addL_ne L (fun e => hi.2 e.symm)]
    exact ⟨(put_eval_ne (fun e => hs e.symm)).trans h1, h2, blk_call hb h3⟩
  ord hL := by
    rw [addL_ne L (fun e => hi.2 e.symm)] at hL
    exact addL_mono i (h.ord hL)
theorem AInv.alloc (h : AInv W0 ia is sl zero new T L a W g) (hne : is ≠ ia) (hL : L ia = false) (hz : sl < a.tmps.size) : AInv W0 ia is sl zero new T (addL L ia) (a.put (some sl) (.pointer (some ⟨W.heap.size, 0, none⟩))) (W.alloc (.cells zero T (0, 0))) W.heap.size where
  below := below_alloc h.below _
  row _ := by
    have h2 : L is = false := by
      cases hq : L is with
      | false => rfl
      | true => rw [h.ord hq] at hL; cases hL
    rw [addL_ne L hne, h2]
    exact ⟨put_eval_same hz, h.below.size, by simpa using heap_alloc_new W (.cells zero T (0, 0))⟩
  ord _ := addL_self L ia
theorem AInv.store (h : AInv W0 ia is sl zero new T L a W g) (hne : is ≠ ia) (h1 : L ia = true) (h2 : L is = false) : AInv W0 ia is sl zero new T (addL L is) a (W.setRow g new) g where
  below := below_setRow h.below (h.row h1).2.1 _
  row _ := by
    obtain ⟨e1, e2, e3⟩ := h.row h1
    rw [addL_self]
    refine ⟨e1, e2, ?_⟩
    rw [if_pos rfl]
    exact setRow_heap W g _ new T _ e3
  ord _ := addL_mono is h1
end
theorem AInv.val0 {W0 W : World} {ia is sl : Nat} {zero new : Array Value} {T : TypeId} {L : Nat → Bool} {a : Act} {g : Nat} (h : AInv W0 ia is sl zero new T L a W g) {i s : Nat} {v : Value} (hi : i ≠ ia ∧ i ≠ is) (hs : s ≠ sl) : AInv W0 ia is sl zero new T (addL L i) (a.put (some s) v) W g :=
  h.val hi hs (Below.refl _ _)
theorem put_none_ (a : Act) (v : Value) : a.put none v = a := rfl
/-- The frame behind: what it was, but for the region's slots. -/
theorem VInv.act {E : List (Nat × Nat × Value)} {ks : List Nat} {a0 a : Act} {L : Nat → Bool} (h : VInv E ks a0 L a) (hk : ∀ k ∈ ks, k < a0.tmps.size) : a = setA a0 (ks.map fun k => (k, a.eval (.tmp k))) := by
  obtain ⟨t, d⟩ := a
  obtain ⟨t0, d0⟩ := a0
  have hs : t.size = t0.size := h.size
  have hd : d = d0 := h.defers
  subst hd
  unfold setA
  congr 1
  apply Array.ext_getElem?
  intro j
  show t[j]? = (((ks.map fun k => (k, Act.eval { tmps := t, defers := d } (.tmp k))).foldl setF t0))[j]?
  by_cases hj : j ∈ ks
  · have hlt := hk j hj
    have aux : ∀ (l : List Nat) (u : Array Value), u.size = t.size → (j ∈ l ∨ u[j]? = t[j]?) → ((l.map fun k => (k, Act.eval { tmps := t, defers := d } (.tmp k))).foldl setF u)[j]? = t[j]? := by
      intro l
      induction l with
      | nil =>
        intro u hu h
        rcases h with h | h
        · cases h
        · exact h
      | cons k l ih =>
        intro u hu h
        rw [List.map_cons, List.foldl_cons]
        refine ih _ (by unfold setF; simpa using hu) ?_
        by_cases e : k = j
        · right
          subst e
          have hl : k < t.size := by rw [hs]; exact hlt
          unfold setF
          simp [Act.eval, hu, hl]
        · rcases h with h | h
          · rcases List.mem_cons.1 h with h | h
            · exact absurd h.symm e
            · exact .inl h
          · right
            unfold setF
            rw [Array.getElem?_setIfInBounds_ne e]
            exact h
    rw [aux ks t0 hs.symm (.inl hj)]
  · rw [foldl_get_out j _ _ (by intro p hp; obtain ⟨k, hk2, rfl⟩ := List.mem_map.1 hp; exact fun e => hj (by rw [← e]; exact hk2))]
    have := h.keep j hj
    simp only [Act.eval, Array.getD_eq_getD_getElem?] at this
    by_cases hl : j < t.size
    · rw [Array.getElem?_eq_getElem hl, Array.getElem?_eq_getElem (by omega)]
      simpa [hl, hs ▸ hl] using this
    · rw [Array.getElem?_eq_none (by omega), Array.getElem?_eq_none (by omega)]
end Go.Proofs.Ytaoflcmjmhfblaa.H
