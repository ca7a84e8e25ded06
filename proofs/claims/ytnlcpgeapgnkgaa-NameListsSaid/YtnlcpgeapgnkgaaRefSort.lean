/- The document's Sort of any list (of a thousand texts at most): the same order. -/
import Derived.Test.YtnlcpgeapgnkgaaSortC
import Derived.Test.YtnlcpgeapgnkgaaTells
namespace Go.Proofs.Ytnlcpgeapgnkgaa.H
open Go.RowKit Go.Proofs.YtnlcpgeapgnkgaaW.PrintWords Go.Proofs.YtnlcpgeapgnkgaaW.PrintLast Go.Proofs.YtnlcpgeapgnkgaaW.PrintMore
set_option linter.unusedVariables false
set_option linter.unusedSimpArgs false
def ordR (l : List ByteArray) (u v : Nat) : Prop := cmpS (l.getD u ByteArray.empty) (l.getD v ByteArray.empty) < 0 ∨ (cmpS (l.getD u ByteArray.empty) (l.getD v ByteArray.empty) = 0 ∧ u ≤ v)
/-- E are the first i places of l in order. -/
def SortQ (l : List ByteArray) (i : Nat) (E : List Nat) : Prop := E.Perm (List.range i) ∧ ∀ a b, a < b → b < E.length → ordR l (E.getD a 0) (E.getD b 0)
def insK (E : List Nat) (k i : Nat) : List Nat := E.take k ++ i :: E.drop k
theorem SortQ.len {l : List ByteArray} {i : Nat} {E : List Nat} (h : SortQ l i E) : E.length = i := by have := h.1.length_eq; simpa using this
theorem SortQ.lt {l : List ByteArray} {i : Nat} {E : List Nat} (h : SortQ l i E) {j : Nat} (hj : j < i) : E.getD j 0 < i := by
  have hl := h.len
  have : E.getD j 0 ∈ E := by rw [List.getD_eq_getElem?_getD, List.getElem?_eq_getElem (by omega)]; exact List.getElem_mem _
  simpa using h.1.mem_iff.1 this
theorem insK_get (E : List Nat) (k i j : Nat) (hk : k ≤ E.length) : (insK E k i).getD j 0 = if j < k then E.getD j 0 else if j = k then i else E.getD (j - 1) 0 := by
  unfold insK
  have ht : (E.take k).length = k := by rw [List.length_take]; omega
  rw [List.getD_eq_getElem?_getD]
  by_cases c1 : j < k
  · rw [if_pos c1, List.getElem?_append_left (by omega), List.getElem?_take, if_pos c1, List.getD_eq_getElem?_getD]
  · rw [if_neg c1, List.getElem?_append_right (by omega), ht]
    by_cases c2 : j = k
    · rw [if_pos c2, c2, Nat.sub_self]; rfl
    · rw [if_neg c2, show j - k = (j - 1 - k) + 1 by omega, List.getElem?_cons_succ, List.getElem?_drop, show k + (j - 1 - k) = j - 1 by omega, List.getD_eq_getElem?_getD]
theorem SortQ.ins {l : List ByteArray} {i k : Nat} {E : List Nat} (h : SortQ l i E) (hk : k ≤ i) (h1 : ∀ j, k ≤ j → j < i → 0 < cmpS (l.getD (E.getD j 0) ByteArray.empty) (l.getD i ByteArray.empty)) (h2 : k = 0 ∨ cmpS (l.getD (E.getD (k - 1) 0) ByteArray.empty) (l.getD i ByteArray.empty) ≤ 0) : SortQ l (i + 1) (insK E k i) := by
  have hl := h.len
  constructor
  · have p1 : (insK E k i).Perm (i :: E) := by
      unfold insK
      refine List.perm_middle.trans ?_
      rw [List.take_append_drop]
    rw [List.range_succ]
    exact p1.trans ((List.Perm.cons i h.1).trans (List.perm_append_singleton i _).symm)
  · intro a b hab hb
    have hlen : (insK E k i).length = i + 1 := by unfold insK; rw [List.length_append, List.length_cons, List.length_take, List.length_drop]; omega
    rw [insK_get E k i a (by omega), insK_get E k i b (by omega)]
    by_cases c1 : b < k
    · rw [if_pos (by omega), if_pos c1]; exact h.2 a b hab (by omega)
    · rw [if_neg c1]
      by_cases c2 : b = k
      · rw [if_pos (by omega), if_pos c2]
        have q := h2.resolve_left (by omega)
        have hi := h.lt (j := a) (by omega)
        have le1 : cmpS (l.getD (E.getD a 0) ByteArray.empty) (l.getD (E.getD (k - 1) 0) ByteArray.empty) ≤ 0 := by
          rcases Nat.lt_or_eq_of_le (show a ≤ k - 1 by omega) with g | g
          · rcases h.2 a (k - 1) g (by omega) with z | ⟨z, _⟩ <;> omega
          · rw [g]
            have := (cmpS_zero (a := l.getD (E.getD (k - 1) 0) ByteArray.empty) (b := l.getD (E.getD (k - 1) 0) ByteArray.empty)).2 rfl
            omega
        have le2 := (cmpS_trans le1 q).1
        rcases Int.lt_or_eq_of_le le2 with z | z
        · exact .inl z
        · exact .inr ⟨z, by omega⟩
      · rw [if_neg c2]
        by_cases c3 : a < k
        · rw [if_pos c3]; exact h.2 a (b - 1) (by omega) (by omega)
        · rw [if_neg c3]
          by_cases c4 : a = k
          · rw [if_pos c4]
            have := h1 (b - 1) (by omega) (by omega)
            have n := cmpS_neg (l.getD i ByteArray.empty) (l.getD (E.getD (b - 1) 0) ByteArray.empty)
            exact .inl (by omega)
          · rw [if_neg c4]; exact h.2 (a - 1) (b - 1) (by omega) (by omega)
theorem SortP.unique {l : List ByteArray} {D D' : List Nat} (h : SortP l D) (h' : SortP l D') : D = D' := by
  have pw : ∀ {D : List Nat}, SortP l D → D.Pairwise (ordR l) := fun {D} h => by
    rw [List.pairwise_iff_getElem]
    intro i j hi hj hij
    have := h.2 i j hij hj
    rw [List.getD_eq_getElem?_getD, List.getD_eq_getElem?_getD, List.getD_eq_getElem?_getD, List.getD_eq_getElem?_getD, List.getElem?_eq_getElem hi, List.getElem?_eq_getElem hj] at this
    rw [← List.getD_eq_getElem?_getD, ← List.getD_eq_getElem?_getD] at this
    exact this
  refine List.Perm.eq_of_pairwise (le := ordR l) ?_ (pw h) (pw h') (h.1.trans h'.1.symm)
  rintro a b _ _ (p | ⟨p, q⟩) (r | ⟨r, s⟩)
  all_goals (have n := cmpS_neg (l.getD a ByteArray.empty) (l.getD b ByteArray.empty); omega)
theorem txt_ins (l : List ByteArray) (E : List Nat) (k i : Nat) : (txt l E).take k ++ [l.getD i ByteArray.empty] ++ (txt l E).drop k = txt l (insK E k i) := by
  simp [txt, insK, List.map_take, List.map_drop]
theorem plc_ins (E : List Nat) (k i : Nat) : (plc E).take k ++ [(i : Int)] ++ (plc E).drop k = plc (insK E k i) := by
  simp [plc, insK, List.map_take, List.map_drop]
theorem quiet_more {P : Program} {f : FuncId} {args : Array Value} {w : World} {n : Nat} {v : Value}
    (h : Calls P f args (w.drewN n) fun e w' => e = .returned v ∧ ∃ q, w' = (w.drewN n).drewN q) : Calls P f args (w.drewN n) fun e w'' => e = .returned v ∧ ∃ m, w'' = w.drewN m :=
  h.mono fun _ _ ⟨he, q, hm⟩ => ⟨he, n + q, by rw [hm, World.drewN_drewN]⟩
theorem quiet_more2 {P : Program} {f : FuncId} {args : Array Value} {w : World} {a n : Nat} {v : Value}
    (h : Calls P f args (w.drewN (a + n)) fun e w' => e = .returned v ∧ ∃ q, w' = (w.drewN (a + n)).drewN q) : Calls P f args (w.drewN (a + n)) fun e w'' => e = .returned v ∧ ∃ m, w'' = w.drewN (a + m) :=
  h.mono fun _ _ ⟨he, q, hm⟩ => ⟨he, n + q, by rw [hm, World.drewN_drewN, Nat.add_assoc]⟩
end Go.Proofs.Ytnlcpgeapgnkgaa.H
