/- The plain law of ExtraNothing: what is extra is no less than 0, at most what gives way, and within the ceiling. -/
import Derived.Test.YtnlcpgeapgnkgaaLaw25
namespace Go.Proofs.Ytnlcpgeapgnkgaa.H
open Go.RowKit
set_option linter.unusedVariables false
theorem part_small {n p : Int} (hn : 0 ≤ n ∧ n < 4503599627370496) (hp : 0 ≤ p ∧ p ≤ 100) : part n p = (-((-(n * p)) / 100), 0) ∧ 0 ≤ n * p ∧ n * p ≤ n * 100 := by
  have h1 : 0 ≤ n * p := Int.mul_nonneg hn.1 hp.1
  have h2 : n * p ≤ n * 100 := Int.mul_le_mul_of_nonneg_left hp.2 hn.1
  refine ⟨?_, h1, h2⟩
  unfold part
  rw [if_neg (by omega)]
  have hm : mul n p = (n * p, 0) := by
    unfold mul
    generalize n * p = q at *
    rw [show inI64 q = true by simp [inI64]; omega]
    rfl
  rw [hm, if_pos rfl, up_eq (by omega) (by omega)]


theorem more_bound {s : StV} {L : List InV} (h : MaySt s L) : 0 ≤ moreV s ∧ moreV s ≤ 65536 := by
  unfold moreV
  split
  · rename_i hg
    obtain ⟨⟨h1, h2⟩, _, h3, _⟩ := h
    obtain ⟨m1, m2⟩ := h3 hg
    obtain ⟨e, p1, p2⟩ := part_small (n := s.desired) (p := s.most - 100) (by omega) (by omega)
    rw [e]
    show 0 ≤ -((-(s.desired * (s.most - 100))) / 100) ∧ -((-(s.desired * (s.most - 100))) / 100) ≤ 65536
    omega
  · omega
theorem wgh_mono {P Q : InV → Bool} (hPQ : ∀ x, P x = true → Q x = true) {L : List InV} (h : MayL L) : (wgh P L).1 ≤ (wgh Q L).1 := by
  have key : ∀ i, i ≤ L.length → (wgh P (L.take i)).1 ≤ (wgh Q (L.take i)).1 := by
    intro i
    induction i with
    | zero => intro _; simp [wgh]
    | succ i ih =>
      intro hi
      have := ih (by omega)
      have hw := h.weights i (by omega)
      rw [wgh_succ P L i (by omega), wgh_succ Q L i (by omega)]
      unfold wstep
      generalize L.getD i noInst = x at hw ⊢
      cases hs : serves x
      · simpa using this
      · cases hp : P x
        · cases hq : Q x
          · simpa using this
          · simp
            omega
        · rw [hPQ _ hp]
          simp
          omega
  have := key L.length (Nat.le_refl _)
  rwa [List.take_length] at this
def gv (s : StV) (x : InV) : Bool := old s x || risky s x
theorem wgh_all {P : InV → Bool} {L : List InV} (h : MayL L) : (0 ≤ (wgh P L).1 ∧ (wgh P L).1 ≤ 100 * L.length) ∧ 0 ≤ (wgh P L).2 ∧ (wgh P L).2 ≤ 100 := by
  have := wgh_bound P L h.weights L.length (Nat.le_refl _)
  rwa [List.take_length] at this
theorem of_law {s : StV} {L : List InV} (h : MaySt s L) : 0 ≤ ofV s L ∧ ofV s L ≤ (wgh (gv s) L).1 ∧ s.desired + ofV s L ≤ s.desired + max (max s.surge 100) (moreV s) ∧ ofV s L ≤ 1000000 := by
  have m := more_bound h
  obtain ⟨h1, h2, h3, hL⟩ := h
  have r1 := wgh_mono (P := risky s) (Q := gv s) (fun x hx => by unfold gv; rw [hx, Bool.or_true]) hL
  have r2 := wgh_mono (P := old s) (Q := gv s) (fun x hx => by unfold gv; rw [hx, Bool.true_or]) hL
  have b1 := wgh_all (P := risky s) hL
  have b2 := wgh_all (P := old s) hL
  have hl := hL.1
  unfold ofV
  omega
end Go.Proofs.Ytnlcpgeapgnkgaa.H
