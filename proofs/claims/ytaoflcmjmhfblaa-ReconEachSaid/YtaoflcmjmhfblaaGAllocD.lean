/- A region that draws its order and calls: growth, the draws counted. -/
import Derived.Test.YtaoflcmjmhfblaaGAlloc
import Derived.Sort.Grow
namespace Go.Proofs.Ytaoflcmjmhfblaa.H
open Go.RowKit Go.Proofs.YtaoflcmjmhfblaaW.PrintWords Go.Proofs.YtaoflcmjmhfblaaW.PrintLast Go.Proofs.YtaoflcmjmhfblaaW.PrintMore
set_option linter.unusedVariables false
set_option linter.unusedSimpArgs false
/-- Growth alone, and no draw is taken back. -/
def Bel (w w' : World) : Prop := Below w.heap.size w w' ∧ w.drawn ≤ w'.drawn
theorem Bel.refl (w : World) : Bel w w := ⟨Below.refl _ _, Nat.le_refl _⟩
theorem Bel.below {w w' : World} (h : Bel w w') : Below w.heap.size w w' := h.1
theorem Bel.trans {w w1 w2 : World} (h : Bel w w1) (k : Bel w1 w2) : Bel w w2 := ⟨below_step h.1 k.1, Nat.le_trans h.2 k.2⟩
theorem Bel.alloc {w w1 : World} (h : Bel w w1) (o : Obj) : Bel w (w1.alloc o) := ⟨below_alloc h.1 o, h.2⟩
theorem Bel.drew {w w1 : World} (h : Bel w w1) : Bel w w1.drew := ⟨below_drew h.1, Nat.le_succ_of_le h.2⟩
/-- A world of growth alone is the old one with draws and blocks behind it. -/
theorem Bel.grown {w w' : World} (h : Bel w w') : ∃ q os, w' = Go.Sort.grow (w.drewN q) os := by
  obtain ⟨hb, hd⟩ := h
  refine ⟨w'.drawn - w.drawn, w'.heap.extract w.heap.size w'.heap.size, ?_⟩
  obtain ⟨h1, h2, h3, h4, h5⟩ := hb
  cases w' with
  | mk heap tape drawn os output =>
    cases w with
    | mk heap0 tape0 drawn0 os0 output0 =>
      simp only at h1 h2 h3 h4 h5 hd
      subst h1; subst h2; subst h3
      unfold Go.Sort.grow World.drewN
      simp only [World.mk.injEq, true_and, and_true]
      refine ⟨?_, by omega⟩
      apply Array.ext_getElem?
      intro i
      rcases Nat.lt_or_ge i heap0.size with hi | hi
      · rw [Array.getElem?_append_left hi]
        exact h5 i hi
      · rw [Array.getElem?_append_right hi, Array.getElem?_extract]
        have e : heap0.size + (i - heap0.size) = i := by omega
        rw [e]
        by_cases hl : i < heap.size
        · rw [if_pos (by omega)]
        · rw [if_neg (by omega), Array.getElem?_eq_none (by omega)]
structure AInvD (W0 : World) (W : World) : Prop where
  bel : Bel W0 W
theorem AInvD.below {W0 W : World} (h : AInvD W0 W) : Below W0.heap.size W0 W := h.bel.1
theorem AInvD.start {W0 W : World} (hb : Bel W0 W) : AInvD W0 W := ⟨hb⟩
theorem AInvD.val {W0 W W2 : World} (h : AInvD W0 W) (hb : Bel W W2) : AInvD W0 W2 := ⟨h.bel.trans hb⟩
end Go.Proofs.Ytaoflcmjmhfblaa.H
